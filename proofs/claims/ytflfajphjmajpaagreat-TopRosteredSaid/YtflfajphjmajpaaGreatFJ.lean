import Derived.Test.YtflfajphjmajpaaGreatTy
import Derived.Test.YtflfajphjmajpaaGreatLayD
import Derived.Test.YtflfajphjmajpaaGreatET
import Derived.Test.YtflfajphjmajpaaGreatSK
import Derived.Test.YtflfajphjmajpaaGreatEG
set_option linter.unusedVariables false
set_option maxRecDepth 20000
set_option linter.unusedSimpArgs false
namespace Go.Proofs.YtflfajphjmajpaaGreat
open Go Go.Lay
section
noncomputable section
variable(who:oAa)(aW bh:Nat)(v0 v4 v5:Addr)(BA l9:Nat)(q0:St->Prop)(Q:Int->St->Prop)(dg:Int)(E:St)(q2:vPa)(Nx:Int->St->Prop)(Q0:St->Prop)
def xEG:Code:=(Code.part [1,0,1,1,1,1,0,0] (zV tP 109))
def zFV:lNa:=[(0,.slice who aW bh),(2,pz v0),(6,pz v4),(7,pz v5),(9,pq BA 0),(78,iV (l9:Int)),(79,iV dg)]
def xVY:Alt:=⟨Int,.normal,λt=>zFV who aW bh v0 v4 v5 BA l9 t,λt=>[],λt E=>Q t E⟩
def yJJ(who:oAa)(aW bh:Nat)(v0 v4 v5:Addr)(BA l9:Nat):lNa:=[]
def zLK:Alt:=⟨Unit,(.exit 0),λt=>yJJ who aW bh v0 v4 v5 BA l9,λt=>[],λt E=>q0 E⟩
def zXE:Prop:=yT tP (zZ tP) none xEG 110 (zFV who aW bh v0 v4 v5 BA l9 dg) [] [xVY who aW bh v0 v4 v5 BA l9 Nx,zLK who aW bh v0 v4 v5 BA l9 Q0] E
def zXD:Prop:=yW tP (zZ tP) none xEG 110 (zFV who aW bh v0 v4 v5 BA l9 dg) [] [zLK who aW bh v0 v4 v5 BA l9 Q0] E
def zLL:Prop:=kZ (zZ tP) (zV tP 109) [1,0,1,1,1,1,0] (kFn tP 109 q2) (.exit 0) 110 (yJJ who aW bh v0 v4 v5 BA l9) E
end
variable{who q1 q11 q39 q40 q32 q33 qBA q6 q9 q4:oAa}{aW bh l1 c1 l11 c11 l39 c39 l40 c40 l32 c32 l33 c33 BA l9 lE cD lBI cBA l6 c6 c9 l4 c4:Nat}{now fQ fM:Nat->Std}{v0 v1 v2 v3 v4 v5 a2 a14 fo a8:Addr}{n3 n5 n6 n7 n8 n9 n10 n16 n17 n18 n19 n20 n21 n22 n24 n25 n26 n27 n28 n29 n32 n33 n34 n35 n36 n37 dg nD nE nF nB nC nI nEB nPB nBB:Int}{b12:Bool}{E13 E23 E41 E42 E E34 E35 EC ETB EJ EN EBI Y5 U7:St}{f15 fC fF:FuncId}{d7 d9 gF ic fF_c fF_a f4_c f4_a:lVa}{Q:vPa}{Inv:Nat->Int->St->Prop}{Q0 P0:St->Prop}{Nx:Int->St->Prop}
@[reducible] def Ha6(E E13 E23:St)(now f4:Nat->Std)(v0 v1 a2 v2 a14:Addr)(q1 q11 who:oAa)(l1 c1 l11 c11 aW bh:Nat)(n3 n5 n6 n7 n8 n9 n10 n16 n17 n18 n19 n20 n21 n22 n24 n25 n26 n27 n28 n29:Int)(b12:Bool)(f15:FuncId)(d9 d7:lVa):Prop:=LDz (E.row (stL now) 4) 48 v0 (.slice q1 l1 c1)/\LDz (E.row (stL now) 4) 167 v1 (.pointer (some a2))/\LDz (E.row (stL now) 4) 3 v2 (iV n3)/\LDz (E.row (stL now) 4) 177 ⟨E.j,0,none⟩ (.agg ⟨(stL now)⟩)/\(CPz 110 [.pointer (some a2),iV n3,.agg ⟨(stL now)⟩] (E.row (stL now) 4) (.agg ⟨(stL f4)⟩))/\(CAz 74 [.pointer (some a2),.agg ⟨(iV (n3+1)::(stL f4))⟩] (E.row (stL now) 4) (.agg ⟨[iV n5,iV n6,iV n7,iV n8,iV n9,iV n10,.slice q11 l11 c11,.bool b12]⟩) E13)/\(zL (E.row (stL now) 4).j [.pointer (some a2),iV n3,.agg ⟨(stL now)⟩])/\(zL (E.row (stL now) 4).j [.pointer (some a2),.agg ⟨(iV (n3+1)::(stL f4))⟩])/\(zL (E13.row [iV 0,iV 0,iV 0,iV 0,iV 0,iV 0,.slice none 0 0,.bool false] 8).j [.pointer (some ⟨E13.j,0,none⟩),.agg ⟨[iV n5,iV n6,iV n7,iV n8,iV n9,iV n10,.slice q11 l11 c11,.bool b12]⟩])/\((zLq E13 167 v1 (.pointer (some a2))))/\((zLq (E13.row [iV 0,iV 0,iV 0,iV 0,iV 0,iV 0,.slice none 0 0,.bool false] 8) 167 v1 (.pointer (some a2))))/\((zLq E13 3 v2 (iV n3)))/\((zLq (E13.row [iV 0,iV 0,iV 0,iV 0,iV 0,iV 0,.slice none 0 0,.bool false] 8) 3 v2 (iV n3)))/\((zLq E13 177 ⟨E.j,0,none⟩ (.agg ⟨(stL now)⟩)))/\((zLq (E13.row [iV 0,iV 0,iV 0,iV 0,iV 0,iV 0,.slice none 0 0,.bool false] 8) 177 ⟨E.j,0,none⟩ (.agg ⟨(stL now)⟩)))/\LDz ((E13.row [iV 0,iV 0,iV 0,iV 0,iV 0,iV 0,.slice none 0 0,.bool false] 8).own E13.j [iV n5,iV n6,iV n7,iV n8,iV n9,iV n10,.slice q11 l11 c11,.bool b12] 8) 167 v1 (.pointer (some a14))/\LDz ((E13.row [iV 0,iV 0,iV 0,iV 0,iV 0,iV 0,.slice none 0 0,.bool false] 8).own E13.j [iV n5,iV n6,iV n7,iV n8,iV n9,iV n10,.slice q11 l11 c11,.bool b12] 8) 128 (zO a14 7) (.func (.func f15) ⟨d9⟩ ⟨d7⟩)/\LDz ((E13.row [iV 0,iV 0,iV 0,iV 0,iV 0,iV 0,.slice none 0 0,.bool false] 8).own E13.j [iV n5,iV n6,iV n7,iV n8,iV n9,iV n10,.slice q11 l11 c11,.bool b12] 8) 3 v2 (iV n16)/\CAz f15 (d9++(iV n16::.slice who aW bh::d7)) ((E13.row [iV 0,iV 0,iV 0,iV 0,iV 0,iV 0,.slice none 0 0,.bool false] 8).own E13.j [iV n5,iV n6,iV n7,iV n8,iV n9,iV n10,.slice q11 l11 c11,.bool b12] 8) (.agg ⟨zS n17 n18 n19 n20 n21 n22⟩) E23/\(CPz 111 [.agg ⟨zS n5 n6 n7 n8 n9 n10⟩,.agg ⟨zS n17 n18 n19 n20 n21 n22⟩] E23 (.agg ⟨zS n24 n25 n26 n27 n28 n29⟩))/\zL ((E13.row [iV 0,iV 0,iV 0,iV 0,iV 0,iV 0,.slice none 0 0,.bool false] 8).own E13.j [iV n5,iV n6,iV n7,iV n8,iV n9,iV n10,.slice q11 l11 c11,.bool b12] 8).j [.pointer (some ⟨E13.j,0,none⟩)]/\zL ((E13.row [iV 0,iV 0,iV 0,iV 0,iV 0,iV 0,.slice none 0 0,.bool false] 8).own E13.j [iV n5,iV n6,iV n7,iV n8,iV n9,iV n10,.slice q11 l11 c11,.bool b12] 8).j [.pointer (some v1)]/\zL ((E13.row [iV 0,iV 0,iV 0,iV 0,iV 0,iV 0,.slice none 0 0,.bool false] 8).own E13.j [iV n5,iV n6,iV n7,iV n8,iV n9,iV n10,.slice q11 l11 c11,.bool b12] 8).j [.pointer (some (zO a14 7))]/\zL ((E13.row [iV 0,iV 0,iV 0,iV 0,iV 0,iV 0,.slice none 0 0,.bool false] 8).own E13.j [iV n5,iV n6,iV n7,iV n8,iV n9,iV n10,.slice q11 l11 c11,.bool b12] 8).j [.pointer (some v2)]/\(zL ((E13.row [iV 0,iV 0,iV 0,iV 0,iV 0,iV 0,.slice none 0 0,.bool false] 8).own E13.j [iV n5,iV n6,iV n7,iV n8,iV n9,iV n10,.slice q11 l11 c11,.bool b12] 8).j [.func (.func f15) ⟨d9⟩ ⟨d7⟩,iV n16,.slice who aW bh])/\(zL (E23.row (zS 0 0 0 0 0 0) 1).j [.pointer (some ⟨E23.j,0,none⟩),.agg ⟨zS n24 n25 n26 n27 n28 n29⟩])/\((zLq ((E13.row [iV 0,iV 0,iV 0,iV 0,iV 0,iV 0,.slice none 0 0,.bool false] 8).own E13.j [iV n5,iV n6,iV n7,iV n8,iV n9,iV n10,.slice q11 l11 c11,.bool b12] 8) 126 ⟨E13.j,0,none⟩ (.agg ⟨zS n5 n6 n7 n8 n9 n10⟩)))/\((zLq E23 126 ⟨E13.j,0,none⟩ (.agg ⟨zS n5 n6 n7 n8 n9 n10⟩)))/\((zLq (E23.row (zS 0 0 0 0 0 0) 1) 126 ⟨E13.j,0,none⟩ (.agg ⟨zS n5 n6 n7 n8 n9 n10⟩)))/\((zLq E23 167 v1 (.pointer (some a14))))/\((zLq (E23.row (zS 0 0 0 0 0 0) 1) 167 v1 (.pointer (some a14))))/\((zLq E23 128 (zO a14 7) (.func (.func f15) ⟨d9⟩ ⟨d7⟩)))/\((zLq (E23.row (zS 0 0 0 0 0 0) 1) 128 (zO a14 7) (.func (.func f15) ⟨d9⟩ ⟨d7⟩)))/\((zLq E23 3 v2 (iV n16)))/\((zLq (E23.row (zS 0 0 0 0 0 0) 1) 3 v2 (iV n16)))
theorem wDX{f4:Nat->Std}:let Y1:=E23.row (zS 0 0 0 0 0 0) 1;let Y2:=Y1.own E23.j (zS n24 n25 n26 n27 n28 n29) 1;let Y3:=Y2.row [.slice who aW bh,.slice q39 l39 c39] 1;let y0:=zS n24 n25 n26 n27 n28 n29;let y1:=some ⟨(E23.j+1),0,none⟩;let y2:=qe E23.j 0;let y3:=zS n32 n33 n34 n35 n36 n37;∀(H:Ha6 E E13 E23 now f4 v0 v1 a2 v2 a14 q1 q11 who l1 c1 l11 c11 aW bh n3 n5 n6 n7 n8 n9 n10 n16 n17 n18 n19 n20 n21 n22 n24 n25 n26 n27 n28 n29 b12 f15 d9 d7) (h36:LDz Y2 4 (qe E13.j 7) (.bool true)) (h37:LDz Y2 4 (zO v3 7) (.bool true)) (h38:LDz Y2 126 v3 (qf y3)) (h39:CPz 112 [qf y0,qf y3] Y2 (.bool true)) (h40:LDz Y2 48 (qe E13.j 6) (.slice q39 l39 c39)) (h41:CAz 113 [.slice y1 2 2] Y3 (.slice q40 l40 c40) E41) (h42:SOz E41 172 v3 (qf [iV n24,iV n25,iV n26,iV n27,iV n28,iV n29,.slice q40 l40 c40,.bool true]) E42) (h43:zL Y2.j [pq E23.j 0]) (h44:zL Y2.j [pq E13.j 6]) (h45:zL Y2.j [.slice who aW bh,.slice q39 l39 c39]) (h46:zL Y3.j [.slice y1 2 2]) (h47:zL E41.j [pz v3,qf [iV n24,iV n25,iV n26,iV n27,iV n28,iV n29,.slice q40 l40 c40,.bool true]]) (h48:(zLq Y2 126 y2 (qf y0))) (h49:(zLq Y3 126 y2 (qf y0))) (h50:(zLq E41 126 y2 (qf y0))) (nx:Q (.tuple ⟨[]⟩) E42) (u1:(aW:Int)=(l1:Int):=by omega) (u2:I6 (n3+1):=by omega) (da:v1.block<E.j:=by omega) (cx:v2.block<E.j:=by omega),zQ tP 109 [.slice who aW bh,qf (stL now),pz v0,pz v1,pz v2,pz v3,pz v4,pz v5] E Q:=
 let y0:=zS n24 n25 n26 n27 n28 n29;λH h36 h37 h38 h39 h40 h41 h42 h43 h44 h45 h46 h47 h48 h49 h50 nx u1 u2 da cx=>match H with|⟨h1,h2,h3,h4,h5,h6,h7,h8,h9,h10,h11,h12,h13,h14,h15,h16,h17,h18,h19,h20,h21,h22,h23,h24,h25,h26,h27,h28,h29,h30,h31,h32,h33,h34,h35⟩=>let s1:=E.row (stL now) 4;let ch1:List Bs:=[.r [iV 0,iV 0,iV 0,iV 0,iV 0,iV 0,.slice none 0 0,.bool false] 8];let ch2:List Bs:=[.r (stL now) 4];let ch3:List Bs:=.o 0 [iV n5,iV n6,iV n7,iV n8,iV n9,iV n10,.slice q11 l11 c11,.bool b12] 8::ch1;let ch4:List Bs:=[.r (zS 0 0 0 0 0 0) 1];let ch5:List Bs:=.o 0 y0 1::ch4;eQ [.g3,.l h1,.g,.b (wU u1),.l h2,.g,.l h3,.w u2,.l h2,.g,.l h3,.l h4,.c h5,.g,.c h6,.g,.s E13 ch1 0 0 uN (qf [iV n5,iV n6,iV n7,iV n8,iV n9,iV n10,.slice q11 l11 c11,.bool b12]),.g,.p ((zI (zR (vQ da 1)) zM):zL s1.j [pz v1]),.p ((zI (zR (vQ cx 1)) zM):zL s1.j [pz v2]),.p ((zI (zR (vQ da 1)) zM):zL s1.j [pz v1]),.p ((zI (zR (vQ cx 1)) zM):zL s1.j [pz v2]),.q E ch2 0 0,.p h7,.p h8,.p h9,.p (⟨⟨(vQ da 1),rfl⟩,h2⟩:(zLq s1 167 v1 (pz a2))),.p (⟨⟨(vQ da 1),rfl⟩,h2⟩:(zLq s1 167 v1 (pz a2))),.p h10,.p h11,.p (⟨⟨(vQ cx 1),rfl⟩,h3⟩:(zLq s1 3 v2 (iV n3))),.p (⟨⟨(vQ cx 1),rfl⟩,h3⟩:(zLq s1 3 v2 (iV n3))),.p h12,.p h13,.p h10,.p h11,.p h12,.p h13,.p h14,.p h15,.F E13 ch3 0 0 zAQ wK,.l h16,.g2,.l h17,.g,.l h18,.g,.c h19,.c h20,.g,.s E23 ch4 0 0 wK (qf y0),.g,.p h21,.p h22,.p h23,.p h24,.p h25,.p ((zI (yX rfl) (zI (yX rfl) zM)):zL E23.j [qf (zS n5 n6 n7 n8 n9 n10),qf (zS n17 n18 n19 n20 n21 n22)]),.p h26,.p h27,.p h28,.p h28,.p h29,.p h30,.p h31,.p h32,.p h33,.p h34,.p h35,.l h36,.g2,.l h37,.g2,.F E23 ch5 0 0 zAQ wK,.g,.l h38,.c h39,.g2,.F E23 ch5 0 0 zAQ wK,.g2,.l h40,.g,.c h41,.g,.e h42,.p h43,.p h44,.p h45,.p h46,.p h47,.p h48,.p h49,.p h49,.p h50] nx
theorem wDW{f4:Nat->Std}:let Y1:=E23.row (zS 0 0 0 0 0 0) 1;let Y2:=Y1.own E23.j (zS n24 n25 n26 n27 n28 n29) 1;let y0:=zS n32 n33 n34 n35 n36 n37;let y1:=zS n24 n25 n26 n27 n28 n29;∀(H:Ha6 E E13 E23 now f4 v0 v1 a2 v2 a14 q1 q11 who l1 c1 l11 c11 aW bh n3 n5 n6 n7 n8 n9 n10 n16 n17 n18 n19 n20 n21 n22 n24 n25 n26 n27 n28 n29 b12 f15 d9 d7) (h36:LDz Y2 4 (qe E13.j 7) (.bool true)) (h37:LDz Y2 4 (zO v3 7) (.bool true)) (h38:LDz Y2 126 v3 (qf y0)) (h39:CPz 112 [qf y1,qf y0] Y2 (.bool false)) (nx:Q (.tuple ⟨[]⟩) Y2) (u1:(aW:Int)=(l1:Int):=by omega) (u2:I6 (n3+1):=by omega) (da:v1.block<E.j:=by omega) (cx:v2.block<E.j:=by omega),zQ tP 109 [.slice who aW bh,qf (stL now),pz v0,pz v1,pz v2,pz v3,pz v4,pz v5] E Q:=
 let y1:=zS n24 n25 n26 n27 n28 n29;λH h36 h37 h38 h39 nx u1 u2 da cx=>match H with|⟨h1,h2,h3,h4,h5,h6,h7,h8,h9,h10,h11,h12,h13,h14,h15,h16,h17,h18,h19,h20,h21,h22,h23,h24,h25,h26,h27,h28,h29,h30,h31,h32,h33,h34,h35⟩=>let s1:=E.row (stL now) 4;let ch1:List Bs:=[.r [iV 0,iV 0,iV 0,iV 0,iV 0,iV 0,.slice none 0 0,.bool false] 8];let ch2:List Bs:=[.r (stL now) 4];let ch3:List Bs:=.o 0 [iV n5,iV n6,iV n7,iV n8,iV n9,iV n10,.slice q11 l11 c11,.bool b12] 8::ch1;let ch4:List Bs:=[.r (zS 0 0 0 0 0 0) 1];let ch5:List Bs:=.o 0 y1 1::ch4;eQ [.g3,.l h1,.g,.b (wU u1),.l h2,.g,.l h3,.w u2,.l h2,.g,.l h3,.l h4,.c h5,.g,.c h6,.g,.s E13 ch1 0 0 uN (qf [iV n5,iV n6,iV n7,iV n8,iV n9,iV n10,.slice q11 l11 c11,.bool b12]),.g,.p ((zI (zR (vQ da 1)) zM):zL s1.j [pz v1]),.p ((zI (zR (vQ cx 1)) zM):zL s1.j [pz v2]),.p ((zI (zR (vQ da 1)) zM):zL s1.j [pz v1]),.p ((zI (zR (vQ cx 1)) zM):zL s1.j [pz v2]),.q E ch2 0 0,.p h7,.p h8,.p h9,.p (⟨⟨(vQ da 1),rfl⟩,h2⟩:(zLq s1 167 v1 (pz a2))),.p (⟨⟨(vQ da 1),rfl⟩,h2⟩:(zLq s1 167 v1 (pz a2))),.p h10,.p h11,.p (⟨⟨(vQ cx 1),rfl⟩,h3⟩:(zLq s1 3 v2 (iV n3))),.p (⟨⟨(vQ cx 1),rfl⟩,h3⟩:(zLq s1 3 v2 (iV n3))),.p h12,.p h13,.p h10,.p h11,.p h12,.p h13,.p h14,.p h15,.F E13 ch3 0 0 zAQ wK,.l h16,.g2,.l h17,.g,.l h18,.g,.c h19,.c h20,.g,.s E23 ch4 0 0 wK (qf y1),.g,.p h21,.p h22,.p h23,.p h24,.p h25,.p ((zI (yX rfl) (zI (yX rfl) zM)):zL E23.j [qf (zS n5 n6 n7 n8 n9 n10),qf (zS n17 n18 n19 n20 n21 n22)]),.p h26,.p h27,.p h28,.p h28,.p h29,.p h30,.p h31,.p h32,.p h33,.p h34,.p h35,.l h36,.g2,.l h37,.g2,.F E23 ch5 0 0 zAQ wK,.g,.l h38,.c h39,.g2] nx
theorem wDV{f4:Nat->Std}:let Y1:=E23.row (zS 0 0 0 0 0 0) 1;let Y2:=Y1.own E23.j (zS n24 n25 n26 n27 n28 n29) 1;let Y3:=Y2.row [.slice who aW bh,.slice q32 l32 c32] 1;let y0:=zS n24 n25 n26 n27 n28 n29;let y1:=some ⟨(E23.j+1),0,none⟩;let y2:=qe E23.j 0;∀(H:Ha6 E E13 E23 now f4 v0 v1 a2 v2 a14 q1 q11 who l1 c1 l11 c11 aW bh n3 n5 n6 n7 n8 n9 n10 n16 n17 n18 n19 n20 n21 n22 n24 n25 n26 n27 n28 n29 b12 f15 d9 d7) (h36:LDz Y2 4 (qe E13.j 7) (.bool true)) (h37:LDz Y2 4 (zO v3 7) (.bool false)) (h38:LDz Y2 48 (qe E13.j 6) (.slice q32 l32 c32)) (h39:CAz 113 [.slice y1 2 2] Y3 (.slice q33 l33 c33) E34) (h40:SOz E34 172 v3 (qf [iV n24,iV n25,iV n26,iV n27,iV n28,iV n29,.slice q33 l33 c33,.bool true]) E35) (h41:zL Y2.j [pq E23.j 0]) (h42:zL Y2.j [pq E13.j 6]) (h43:zL Y2.j [.slice who aW bh,.slice q32 l32 c32]) (h44:zL Y3.j [.slice y1 2 2]) (h45:zL E34.j [pz v3,qf [iV n24,iV n25,iV n26,iV n27,iV n28,iV n29,.slice q33 l33 c33,.bool true]]) (h46:(zLq Y2 126 y2 (qf y0))) (h47:(zLq Y3 126 y2 (qf y0))) (h48:(zLq E34 126 y2 (qf y0))) (nx:Q (.tuple ⟨[]⟩) E35) (u1:(aW:Int)=(l1:Int):=by omega) (u2:I6 (n3+1):=by omega) (da:v1.block<E.j:=by omega) (cx:v2.block<E.j:=by omega),zQ tP 109 [.slice who aW bh,qf (stL now),pz v0,pz v1,pz v2,pz v3,pz v4,pz v5] E Q:=
 let y0:=zS n24 n25 n26 n27 n28 n29;λH h36 h37 h38 h39 h40 h41 h42 h43 h44 h45 h46 h47 h48 nx u1 u2 da cx=>match H with|⟨h1,h2,h3,h4,h5,h6,h7,h8,h9,h10,h11,h12,h13,h14,h15,h16,h17,h18,h19,h20,h21,h22,h23,h24,h25,h26,h27,h28,h29,h30,h31,h32,h33,h34,h35⟩=>let s1:=E.row (stL now) 4;let ch1:List Bs:=[.r [iV 0,iV 0,iV 0,iV 0,iV 0,iV 0,.slice none 0 0,.bool false] 8];let ch2:List Bs:=[.r (stL now) 4];let ch3:List Bs:=.o 0 [iV n5,iV n6,iV n7,iV n8,iV n9,iV n10,.slice q11 l11 c11,.bool b12] 8::ch1;let ch4:List Bs:=[.r (zS 0 0 0 0 0 0) 1];let ch5:List Bs:=.o 0 y0 1::ch4;eQ [.g3,.l h1,.g,.b (wU u1),.l h2,.g,.l h3,.w u2,.l h2,.g,.l h3,.l h4,.c h5,.g,.c h6,.g,.s E13 ch1 0 0 uN (qf [iV n5,iV n6,iV n7,iV n8,iV n9,iV n10,.slice q11 l11 c11,.bool b12]),.g,.p ((zI (zR (vQ da 1)) zM):zL s1.j [pz v1]),.p ((zI (zR (vQ cx 1)) zM):zL s1.j [pz v2]),.p ((zI (zR (vQ da 1)) zM):zL s1.j [pz v1]),.p ((zI (zR (vQ cx 1)) zM):zL s1.j [pz v2]),.q E ch2 0 0,.p h7,.p h8,.p h9,.p (⟨⟨(vQ da 1),rfl⟩,h2⟩:(zLq s1 167 v1 (pz a2))),.p (⟨⟨(vQ da 1),rfl⟩,h2⟩:(zLq s1 167 v1 (pz a2))),.p h10,.p h11,.p (⟨⟨(vQ cx 1),rfl⟩,h3⟩:(zLq s1 3 v2 (iV n3))),.p (⟨⟨(vQ cx 1),rfl⟩,h3⟩:(zLq s1 3 v2 (iV n3))),.p h12,.p h13,.p h10,.p h11,.p h12,.p h13,.p h14,.p h15,.F E13 ch3 0 0 zAQ wK,.l h16,.g2,.l h17,.g,.l h18,.g,.c h19,.c h20,.g,.s E23 ch4 0 0 wK (qf y0),.g,.p h21,.p h22,.p h23,.p h24,.p h25,.p ((zI (yX rfl) (zI (yX rfl) zM)):zL E23.j [qf (zS n5 n6 n7 n8 n9 n10),qf (zS n17 n18 n19 n20 n21 n22)]),.p h26,.p h27,.p h28,.p h28,.p h29,.p h30,.p h31,.p h32,.p h33,.p h34,.p h35,.l h36,.g2,.l h37,.g4,.F E23 ch5 0 0 zAQ wK,.g2,.l h38,.g,.c h39,.g,.e h40,.p h41,.p h42,.p h43,.p h44,.p h45,.p h46,.p h47,.p h47,.p h48] nx
theorem wDU{f4:Nat->Std}:let y0:=(E23.row (zS 0 0 0 0 0 0) 1).own E23.j (zS n24 n25 n26 n27 n28 n29) 1;∀(H:Ha6 E E13 E23 now f4 v0 v1 a2 v2 a14 q1 q11 who l1 c1 l11 c11 aW bh n3 n5 n6 n7 n8 n9 n10 n16 n17 n18 n19 n20 n21 n22 n24 n25 n26 n27 n28 n29 b12 f15 d9 d7) (h36:LDz y0 4 (qe E13.j 7) (.bool false)) (nx:Q (.tuple ⟨[]⟩) y0) (u1:(aW:Int)=(l1:Int):=by omega) (u2:I6 (n3+1):=by omega) (da:v1.block<E.j:=by omega) (cx:v2.block<E.j:=by omega),zQ tP 109 [.slice who aW bh,qf (stL now),pz v0,pz v1,pz v2,pz v3,pz v4,pz v5] E Q :=
 λH h36 nx u1 u2 da cx=>match H with|⟨h1,h2,h3,h4,h5,h6,h7,h8,h9,h10,h11,h12,h13,h14,h15,h16,h17,h18,h19,h20,h21,h22,h23,h24,h25,h26,h27,h28,h29,h30,h31,h32,h33,h34,h35⟩=>let s1:=E.row (stL now) 4;let ch1:List Bs:=[.r [iV 0,iV 0,iV 0,iV 0,iV 0,iV 0,.slice none 0 0,.bool false] 8];let ch2:List Bs:=[.r (stL now) 4];let ch3:List Bs:=.o 0 [iV n5,iV n6,iV n7,iV n8,iV n9,iV n10,.slice q11 l11 c11,.bool b12] 8::ch1;let ch4:List Bs:=[.r (zS 0 0 0 0 0 0) 1];eQ [.g3,.l h1,.g,.b (wU u1),.l h2,.g,.l h3,.w u2,.l h2,.g,.l h3,.l h4,.c h5,.g,.c h6,.g,.s E13 ch1 0 0 uN (qf [iV n5,iV n6,iV n7,iV n8,iV n9,iV n10,.slice q11 l11 c11,.bool b12]),.g,.p ((zI (zR (vQ da 1)) zM):zL s1.j [pz v1]),.p ((zI (zR (vQ cx 1)) zM):zL s1.j [pz v2]),.p ((zI (zR (vQ da 1)) zM):zL s1.j [pz v1]),.p ((zI (zR (vQ cx 1)) zM):zL s1.j [pz v2]),.q E ch2 0 0,.p h7,.p h8,.p h9,.p (⟨⟨(vQ da 1),rfl⟩,h2⟩:(zLq s1 167 v1 (pz a2))),.p (⟨⟨(vQ da 1),rfl⟩,h2⟩:(zLq s1 167 v1 (pz a2))),.p h10,.p h11,.p (⟨⟨(vQ cx 1),rfl⟩,h3⟩:(zLq s1 3 v2 (iV n3))),.p (⟨⟨(vQ cx 1),rfl⟩,h3⟩:(zLq s1 3 v2 (iV n3))),.p h12,.p h13,.p h10,.p h11,.p h12,.p h13,.p h14,.p h15,.F E13 ch3 0 0 zAQ wK,.l h16,.g2,.l h17,.g,.l h18,.g,.c h19,.c h20,.g,.s E23 ch4 0 0 wK (qf (zS n24 n25 n26 n27 n28 n29)),.g,.p h21,.p h22,.p h23,.p h24,.p h25,.p ((zI (yX rfl) (zI (yX rfl) zM)):zL E23.j [qf (zS n5 n6 n7 n8 n9 n10),qf (zS n17 n18 n19 n20 n21 n22)]),.p h26,.p h27,.p h28,.p h28,.p h29,.p h30,.p h31,.p h32,.p h33,.p h34,.p h35,.l h36,.g2] nx
theorem xEF(hb:∀k dg E,Inv k dg E->zXE who aW bh v0 v4 v5 BA l9 dg E (NX1 Inv k) Q0):∀k dg E,Inv k dg E->zXD who aW bh v0 v4 v5 BA l9 dg E Q0 :=
 xE (ai (wF 0) trivial) hb
theorem xVX:let Y1:=EC.row (zK 0 0 0 0) 4;let Y2:=EJ.row [iV dg] 1;∀(h1:LDz E 205 v5 (.func (.func fC) ⟨ic⟩ ⟨gF⟩)) (h2:LDz E 48 v0 (.slice (some fo) lE cD)) (h3:LDz E 3 (zO fo (Int.toNat (aW:Int)*1)) (iV nD)) (h4:LDz E 175 ⟨BA,0+Int.toNat dg*4,none⟩ (qf (zK nE nF nB nC))) (h5:CAz fC (ic++(iV dg::iV nD::(qf (zK nE nF nB nC))::gF)) E (.tuple ⟨[qf (zK nI nEB nPB nBB),.bool true]⟩) EC) (h6:zL E.j [.func (.func fC) ⟨ic⟩ ⟨gF⟩,iV dg,iV nD,qf (zK nE nF nB nC)]) (h7:zL Y1.j [pq EC.j 0,qf (zK nI nEB nPB nBB)]) (h8:(zLq EC 205 v5 (.func (.func fC) ⟨ic⟩ ⟨gF⟩))) (h9:(zLq Y1 205 v5 (.func (.func fC) ⟨ic⟩ ⟨gF⟩))) (h10:(zLq EC 48 v0 (.slice (some fo) lE cD))) (h11:(zLq Y1 48 v0 (.slice (some fo) lE cD))) (h12:((zL EC.j [.slice who aW bh]/\zN RD (iV (aW:Int))=true)/\Callee.builtin .len=Callee.builtin .len/\wA tP (evL [.slice who aW bh]) EC (.call { callee:=.builtin .len,args:=⟨wT 1⟩,argTypes:=⟨[48]⟩ })=some (iV (aW:Int)))) (h13:((zL Y1.j [.slice who aW bh]/\zN RD (iV (aW:Int))=true)/\Callee.builtin .len=Callee.builtin .len/\wA tP (evL [.slice who aW bh]) Y1 (.call { callee:=.builtin .len,args:=⟨wT 1⟩,argTypes:=⟨[48]⟩ })=some (iV (aW:Int)))) (h14:(zLq EC 3 (zO fo (Int.toNat (aW:Int)*1)) (iV nD))) (h15:(zLq Y1 3 (zO fo (Int.toNat (aW:Int)*1)) (iV nD))) (h16:(zLq EC 175 ⟨BA,0+Int.toNat dg*4,none⟩ (qf (zK nE nF nB nC)))) (h17:(zLq Y1 175 ⟨BA,0+Int.toNat dg*4,none⟩ (qf (zK nE nF nB nC)))) (h18:LDz (Y1.own EC.j (zK nI nEB nPB nBB) 4) 177 (qe BA 0) (qf (stL fQ))) (h19:SOz ((Y1.own EC.j (zK nI nEB nPB nBB) 4).row [iV 0,iV 0,iV 0,iV 0,iV 0,iV 0,iV 0,iV 0,iV 0,iV 0,iV 0,iV 0,iV 0,iV 0,iV 0,iV 0,iV 0,iV 0,iV 0,iV 0,iV 0,iV 0,iV 0,iV 0] 4) 177 ⟨(EC.j+1),0,none⟩ (qf (stL fQ)) ETB) (h20:LDz ETB 175 (qe EC.j 0) (qf (zK nI nEB nPB nBB))) (h21:SOz ETB 175 ⟨(EC.j+1),0+Int.toNat dg*4,none⟩ (qf (zK nI nEB nPB nBB)) EJ) (h22:LDz EJ 206 v4 (.func (.func fF) ⟨fF_a⟩ ⟨fF_c⟩)) (h23:APz 48 48 (.slice who aW bh) (.slice (some (qe EJ.j 0)) 1 1) Y2 (.slice qBA lBI cBA) EN) (h24:LDz EN 177 ⟨(EC.j+1),0,none⟩ (qf (stL fM))) (h25:CAz fF (fF_a++(.slice qBA lBI cBA::(qf (stL fM))::fF_c)) EN (.tuple ⟨[]⟩) EBI) (h26:zL EJ.j [pz v4]) (h27:zL Y2.j [.slice who aW bh,.slice (some (qe EJ.j 0)) 1 1]) (h28:zL EN.j [pq ((EC.j+1)) 0]) (h29:zL EN.j [.func (.func fF) ⟨fF_a⟩ ⟨fF_c⟩,.slice qBA lBI cBA,qf (stL fM)]) (h30:(zLq EJ 206 v4 (.func (.func fF) ⟨fF_a⟩ ⟨fF_c⟩))) (h31:(zLq Y2 206 v4 (.func (.func fF) ⟨fF_a⟩ ⟨fF_c⟩))) (h32:(zLq EN 206 v4 (.func (.func fF) ⟨fF_a⟩ ⟨fF_c⟩))) (h33:(zLq EJ 177 ⟨(EC.j+1),0,none⟩ (qf (stL fM)))) (h34:(zLq Y2 177 ⟨(EC.j+1),0,none⟩ (qf (stL fM)))) (h35:(zLq EN 177 ⟨(EC.j+1),0,none⟩ (qf (stL fM)))) (b_who:∀a,who=some a->a.block<E.j) (nx:Nx (dg+1) EBI) (u1:dg<(l9:Int):=by omega) (u2:Ix (aW:Int) lE:=by omega) (u3:Ix dg 6:=by omega) (u4:I6 (dg+1):=by omega) (hU:v5.block<E.j:=by omega) (hY:v0.block<E.j:=by omega) (gG:fo.block<E.j:=by omega) (b_BA:BA<E.j:=by omega),zXE who aW bh v0 v4 v5 BA l9 dg E Nx Q0:=
 λh1 h2 h3 h4 h5 h6 h7 h8 h9 h10 h11 h12 h13 h14 h15 h16 h17 h18 h19 h20 h21 h22 h23 h24 h25 h26 h27 h28 h29 h30 h31 h32 h33 h34 h35 b_who nx u1 u2 u3 u4 hU hY gG b_BA=>let ch1:List Bs:=[.r (zK 0 0 0 0) 4];eO 0 (dg+1) [.b (zT u1),.g2,.l h1,.g,.l h2,.g2,.i u2,.l h3,.g,.i u3,.l h4,.c h5,.g4,.s EC ch1 0 0 xS (qf (zK nI nEB nPB nBB)),.g3,.p ((zI (zR hU) zM):zL E.j [pz v5]),.p ((zI (zR hY) zM):zL E.j [pz v0]),.p ((zI (xH b_who) zM):zL E.j [.slice who aW bh]),.p ((zI (zR gG) zM):zL E.j [pz (zO fo (Int.toNat (aW:Int)*1))]),.p ((zI (zR b_BA) zM):zL E.j [pq BA (0+Int.toNat dg*4)]),.p h6,.p h7,.p h8,.p h9,.p h10,.p h11,.p h12,.p h13,.p h14,.p h15,.p h16,.p h17,.l h18,.g,.e h19,.g,.l h20,.i u3,.e h21,.l h22,.g3,.e h23,.l h24,.c h25,.p h26,.p h27,.p h28,.p h29,.p h30,.p h31,.p h31,.p h32,.p h33,.p h34,.p h34,.p h35,.w u4,.g] nx
theorem xVW:let Y1:=EC.row (zK 0 0 0 0) 4;∀(h1:LDz E 205 v5 (.func (.func fC) ⟨ic⟩ ⟨gF⟩)) (h2:LDz E 48 v0 (.slice (some fo) lE cD)) (h3:LDz E 3 (zO fo (Int.toNat (aW:Int)*1)) (iV nD)) (h4:LDz E 175 ⟨BA,0+Int.toNat dg*4,none⟩ (qf (zK nE nF nB nC))) (h5:CAz fC (ic++(iV dg::iV nD::(qf (zK nE nF nB nC))::gF)) E (.tuple ⟨[qf (zK nI nEB nPB nBB),.bool false]⟩) EC) (h6:zL E.j [.func (.func fC) ⟨ic⟩ ⟨gF⟩,iV dg,iV nD,qf (zK nE nF nB nC)]) (h7:zL Y1.j [pq EC.j 0,qf (zK nI nEB nPB nBB)]) (h8:(zLq EC 205 v5 (.func (.func fC) ⟨ic⟩ ⟨gF⟩))) (h9:(zLq Y1 205 v5 (.func (.func fC) ⟨ic⟩ ⟨gF⟩))) (h10:(zLq EC 48 v0 (.slice (some fo) lE cD))) (h11:(zLq Y1 48 v0 (.slice (some fo) lE cD))) (h12:((zL EC.j [.slice who aW bh]/\zN RD (iV (aW:Int))=true)/\Callee.builtin .len=Callee.builtin .len/\wA tP (evL [.slice who aW bh]) EC (.call { callee:=.builtin .len,args:=⟨wT 1⟩,argTypes:=⟨[48]⟩ })=some (iV (aW:Int)))) (h13:((zL Y1.j [.slice who aW bh]/\zN RD (iV (aW:Int))=true)/\Callee.builtin .len=Callee.builtin .len/\wA tP (evL [.slice who aW bh]) Y1 (.call { callee:=.builtin .len,args:=⟨wT 1⟩,argTypes:=⟨[48]⟩ })=some (iV (aW:Int)))) (h14:(zLq EC 3 (zO fo (Int.toNat (aW:Int)*1)) (iV nD))) (h15:(zLq Y1 3 (zO fo (Int.toNat (aW:Int)*1)) (iV nD))) (h16:(zLq EC 175 ⟨BA,0+Int.toNat dg*4,none⟩ (qf (zK nE nF nB nC)))) (h17:(zLq Y1 175 ⟨BA,0+Int.toNat dg*4,none⟩ (qf (zK nE nF nB nC)))) (b_who:∀a,who=some a->a.block<E.j) (nx:Nx (dg+1) (Y1.own EC.j (zK nI nEB nPB nBB) 4)) (u1:dg<(l9:Int):=by omega) (u2:Ix (aW:Int) lE:=by omega) (u3:Ix dg 6:=by omega) (u4:I6 (dg+1):=by omega) (hU:v5.block<E.j:=by omega) (hY:v0.block<E.j:=by omega) (gG:fo.block<E.j:=by omega) (b_BA:BA<E.j:=by omega),zXE who aW bh v0 v4 v5 BA l9 dg E Nx Q0:=
 λh1 h2 h3 h4 h5 h6 h7 h8 h9 h10 h11 h12 h13 h14 h15 h16 h17 b_who nx u1 u2 u3 u4 hU hY gG b_BA=>let ch1:List Bs:=[.r (zK 0 0 0 0) 4];eO 0 (dg+1) [.b (zT u1),.g2,.l h1,.g,.l h2,.g2,.i u2,.l h3,.g,.i u3,.l h4,.c h5,.g4,.s EC ch1 0 0 xS (qf (zK nI nEB nPB nBB)),.g3,.p ((zI (zR hU) zM):zL E.j [pz v5]),.p ((zI (zR hY) zM):zL E.j [pz v0]),.p ((zI (xH b_who) zM):zL E.j [.slice who aW bh]),.p ((zI (zR gG) zM):zL E.j [pz (zO fo (Int.toNat (aW:Int)*1))]),.p ((zI (zR b_BA) zM):zL E.j [pq BA (0+Int.toNat dg*4)]),.p h6,.p h7,.p h8,.p h9,.p h10,.p h11,.p h12,.p h13,.p h14,.p h15,.p h16,.p h17,.w u4,.g] nx
theorem xVV(nx:Q0 E)(u1:¬dg<(l9:Int):=by omega):zXE who aW bh v0 v4 v5 BA l9 dg E Nx Q0 :=
 eO 1 () [.b (zY u1)] nx
theorem wDT{f4:FuncId}:let s1:=E.row (stL now) 4;let s2:=s1.row [iV (-1)] 1;let y0:=qf (stL now);let y1:=qe E.j 0;∀(h1:LDz s1 48 v0 (.slice q1 l1 c1)) (h2:LDz s1 167 v1 (pz a2)) (h3:LDz s1 4 (zO a2 6) (.bool true)) (h4:LDz s1 206 v4 (.func (.func f4) ⟨f4_a⟩ ⟨f4_c⟩)) (h5:APz 48 48 (.slice who aW bh) (.slice (some ⟨(E.j+1),0,none⟩) 1 1) s2 (.slice q6 l6 c6) Y5) (h6:LDz Y5 177 y1 y0) (h7:CAz f4 (f4_a++(.slice q6 l6 c6::y0::f4_c)) Y5 (.tuple ⟨[]⟩) U7) (h8:zL Y5.j [pq E.j 0]) (h9:zL Y5.j [.func (.func f4) ⟨f4_a⟩ ⟨f4_c⟩,.slice q6 l6 c6,qf (stL now)]) (h10:(zLq s1 206 v4 (.func (.func f4) ⟨f4_a⟩ ⟨f4_c⟩))) (h11:(zLq s2 206 v4 (.func (.func f4) ⟨f4_a⟩ ⟨f4_c⟩))) (h12:(zLq Y5 206 v4 (.func (.func f4) ⟨f4_a⟩ ⟨f4_c⟩))) (h13:LDz s1 177 y1 y0) (h14:LDz s2 177 y1 y0) (h15:(zLq Y5 177 y1 y0)) (h16:LDz U7 167 v1 (pz a8)) (h17:LDz U7 70 (zO a8 2) (.slice q9 l9 c9)) (b_who:∀a,who=some a->a.block<E.j) (hL:zXD who aW bh v0 v4 v5 E.j l9 0 U7 P0) (k0:∀E',P0 E'->zLL who aW bh v0 v4 v5 E.j l9 E' Q) (u1:¬(aW:Int)=(l1:Int):=by omega) (b_v4_block:v4.block<E.j:=by omega),zQ tP 109 [.slice who aW bh,qf (stL now),pz v0,pz v1,pz v2,pz v3,pz v4,pz v5] E Q:=
 let s1:=E.row (stL now) 4;let s2:=s1.row [iV (-1)] 1;let y0:=qf (stL now);let y1:=qe E.j 0;λh1 h2 h3 h4 h5 h6 h7 h8 h9 h10 h11 h12 h13 h14 h15 h16 h17 b_who hL k0 u1 b_v4_block=>eQ [.g3,.l h1,.g,.b (wG u1),.l h2,.g2,.l h3,.l h4,.g2,.e h5,.l h6,.c h7,.p ((zI (zR (vQ b_v4_block 1)) zM):zL s1.j [pz v4]),.p ((zI (zFY b_who 2) (zI (vM (nlt E.j 1 2 rfl)) zM)):zL s2.j [.slice who aW bh,.slice (some ⟨(E.j+1),0,none⟩) 1 1]),.p h8,.p h9,.p h10,.p h11,.p h11,.p h12,.p (⟨⟨(nlt E.j 0 1 rfl),rfl⟩,h13⟩:(zLq s1 177 y1 y0)),.p (⟨⟨(nlt E.j 0 2 rfl),rfl⟩,h14⟩:(zLq s2 177 y1 y0)),.p (⟨⟨(nlt E.j 0 2 rfl),rfl⟩,h14⟩:(zLq s2 177 y1 y0)),.p h15,.l h16,.g3,.l h17,.g2,.k (.lf 110 (zFV who aW bh v0 v4 v5 E.j l9 0) [zLK who aW bh v0 v4 v5 E.j l9 P0])] (ai (ai tt (ai (arf (zFV who aW bh v0 v4 v5 E.j l9 0)) hL)) (ai (kz0 k0) trivial))
theorem wDS:let Y1:=E.row (stL now) 4;∀(h1:LDz Y1 48 v0 (.slice q1 l1 c1)) (h2:LDz Y1 167 v1 (pz a2)) (h3:LDz Y1 4 (zO a2 6) (.bool false)) (h4:LDz Y1 70 (zO a2 2) (.slice q4 l4 c4)) (hL:zXD who aW bh v0 v4 v5 E.j l4 0 Y1 P0) (k0:∀E',P0 E'->zLL who aW bh v0 v4 v5 E.j l4 E' Q) (u1:¬(aW:Int)=(l1:Int):=by omega),zQ tP 109 [.slice who aW bh,qf (stL now),pz v0,pz v1,pz v2,pz v3,pz v4,pz v5] E Q:=
 λh1 h2 h3 h4 hL k0 u1=>eQ [.g3,.l h1,.g,.b (wG u1),.l h2,.g2,.l h3,.l h2,.g3,.l h4,.g2,.k (.lf 110 (zFV who aW bh v0 v4 v5 E.j l4 0) [zLK who aW bh v0 v4 v5 E.j l4 P0])] (ai (ai tt (ai (arf (zFV who aW bh v0 v4 v5 E.j l4 0)) hL)) (ai (kz0 k0) trivial))
theorem xEE(nx:Q (.tuple ⟨[]⟩) E):zLL who aW bh v0 v4 v5 BA l9 E Q :=
 eK [] nx
end
structure GvK where
 K:PlK
 D:Nat
 r:Nat
 st0:Nat->Std
 pu:Option Addr
 cu:Nat
 Bu:Nat
 Bq:Nat
 Bs:Nat
 Bo:Nat
 Bg:Nat
 By:Nat
 n1:Nat
abbrev GvK.du(G:GvK):List Nat:=yS G.K.w G.D G.K.l
abbrev GvK.args(G:GvK):List Value:=[.pointer (some ⟨G.Bu,0,none⟩),.pointer (some ⟨G.Bq,0,none⟩),.pointer (some ⟨G.Bs,0,none⟩),.pointer (some ⟨G.Bo,0,none⟩),.pointer (some ⟨G.Bg,0,none⟩),.pointer (some ⟨G.By,0,none⟩)]
structure GvK.Ok(G:GvK):Prop where
 ok:G.K.Ok
 dr:G.D+(G.r+1)=G.K.n
 f0:G.K.Ef.j<=G.Bo
 f1:G.K.Ef.j<=G.n1
 lt:G.Bu<G.n1/\G.Bq<G.n1/\G.Bs<G.n1/\G.Bo<G.n1/\G.Bg<G.n1/\G.By<G.n1/\G.K.Bp<G.n1/\G.K.bm<G.n1
 no:G.Bo≠G.Bu/\G.Bo≠G.Bq/\G.Bo≠G.Bs/\G.Bo≠G.Bg/\G.Bo≠G.By/\G.Bo≠G.K.Bp/\G.Bo≠G.K.bm
 nm:G.K.bm≠G.Bu/\G.K.bm≠G.Bq/\G.K.bm≠G.Bs/\G.K.bm≠G.Bg/\G.K.bm≠G.By
structure GvW(G:GvK)(z:St)(F:Key->Option EndR)(X:Nat->Prop)(e:EndR):Prop where
 w:PlW G.K z F X
 ou:Row z ⟨G.Bu,0,none⟩ [.slice G.pu G.du.length G.cu]
 du:yM z G.pu G.du.length (zSW G.du)
 ux:∀b,AtP G.pu b->X b
 oq:Row z ⟨G.Bq,0,none⟩ [.pointer (some ⟨G.K.Bp,0,none⟩)]
 os:Row z ⟨G.Bs,0,none⟩ (iV (G.D:Int)::stL G.st0)
 og:Row z ⟨G.Bg,0,none⟩ [.func (.func 109) ⟨[]⟩ ⟨G.args⟩]
 oy:Row z ⟨G.By,0,none⟩ [.func (.func 108) ⟨[.pointer (some ⟨G.K.Bp,0,none⟩)]⟩ ⟨[]⟩]
 oo:Own z G.Bo (zGC e) 8
 xo:∀b,X b->b≠G.Bo
 nz:G.n1<=z.j
section
variable{G:GvK}{z z':St}{F:Key->Option EndR}{X:Nat->Prop}{e:EndR}
theorem GvW.le(h:GvW G z F X e)(k:Le z z'):GvW G z' F X e :=
 ⟨h.w.le k,h.ou.le k,SlV.le h.du k,h.ux,h.oq.le k,h.os.le k,h.og.le k,h.oy.le k,h.oo.le k,h.xo,Nat.le_trans h.nz k.j⟩
theorem GvW.only{S:Nat->Prop}(ok:G.Ok)(h:GvW G z F X e)(k:Only S z z')(hS:∀b,S b->G.n1<=b/\¬X b):GvW G z' F X e:=by
 obtain⟨l1,l2,l3,l4,l5,l6,l7,l8⟩:=ok.lt;have no:∀b,b<G.n1->¬S b:=λb hb hs=>by have:=(hS b hs).1;omega
 have f1:=ok.f1;exact⟨h.w.only k (λb hs=>by have:=(hS b hs).1;omega) (no _ l7) (no _ l8) (λb hb hs=>(hS b hs).2 hb),k.rw' h.ou (no _ l1),k.slv' h.du (λa e hs=>(hS _ hs).2 (h.ux _ ⟨a,e,rfl⟩)),h.ux,k.rw' h.oq (no _ l2),k.rw' h.os (no _ l3),k.rw' h.og (no _ l5),k.rw' h.oy (no _ l6),k.own' h.oo (no _ l4),h.xo,Nat.le_trans h.nz k.j⟩
theorem GvW.best{F':Key->Option EndR}{X':Nat->Prop}(ok:G.Ok)(h:GvW G z F X e)(k:Only (·=G.K.bm) z z')(hw:PlW G.K z' F' X')(h1:∀b,X b->X' b)(h2:∀b,X' b->X b\/z.j<=b):GvW G z' F' X' e:=by
 obtain⟨n1,n2,n3,n4,n5⟩:=ok.nm;obtain⟨o1,o2,o3,o4,o5,o6,o7⟩:=ok.no;obtain⟨l1,l2,l3,l4,l5,l6,l7,l8⟩:=ok.lt;have hnz:=h.nz;exact⟨hw,k.rw' h.ou (λe=>n1 e.symm),k.slv' h.du (λa e hs=>(h.w.xb _ (h.ux _ ⟨a,e,rfl⟩)).2 hs),λb hb=>h1 b (h.ux b hb),k.rw' h.oq (λe=>n2 e.symm),k.rw' h.os (λe=>n3 e.symm),k.rw' h.og (λe=>n4 e.symm),k.rw' h.oy (λe=>n5 e.symm),k.own' h.oo o7,λb hb=>by
  rcases h2 b hb with h3|h3
  .exact h.xo b h3
  .omega,Nat.le_trans h.nz k.j⟩
structure GvR(G:GvK)(z:St)(F:Key->Option EndR)(X:Nat->Prop)(e:EndR)(o:Option (List Int×List Int))(C:zLZ)(z':St)(F':Key->Option EndR)(X':Nat->Prop)(e':EndR)(o':Option (List Int×List Int)):Prop where
 w:GvW G z' F' X' e'
 ep:EndP z' X' e' o'
 bo:wN 6 C o'
 x1:∀b,X b->X' b
 x2:∀b,X' b->X b\/z.j<=b
 lo:z'.low<=G.Bo\/z'.low<=G.K.bm\/(F'=F/\X'=X/\e'=e/\o'=o)
def zXQ(K:PlK)(r:Nat):Prop:=∀(z:St) (F:Key->Option EndR) (X:Nat->Prop) (D:Nat) (st:Nat->Std),D+r=K.n->PlW K z F X->(∀k,k<K.m->StG (st k)) ->
 ∃z' e o F' X',zW tP 74 [.pointer (some ⟨K.Bp,0,none⟩),.agg ⟨iV (D:Int)::stL st⟩] z (zEE e) z'/\Only (·=K.bm) z z'/\PlW K z' F' X'/\EndP z' X' e o/\wN 6 (K.ch r D st) o/\(∀b,X b->X' b)/\(∀b,X' b->X b\/z.j<=b)/\(z'.low<=K.bm\/(F'=F/\X'=X))
abbrev GvK.give(G:GvK)(l:List Nat)(who:List Int)(st:Nat->Std):zLZ:=zZM G.K.w G.K.leaves G.K.wf G.r G.D l who st
theorem xXT{xs:List Int}:∀v∈xs.map yK,zDV tP 3 1 v/\v.cells.toList=[v]:=by
 intro v hv;obtain⟨x,_,rfl⟩:=List.mem_map.1 hv;exact⟨vU x,rfl⟩
theorem GvR.low{o:Option (List Int×List Int)}{C:zLZ}{F':Key->Option EndR}{X':Nat->Prop}{e':EndR}{o':Option (List Int×List Int)}{m:Nat}(hm:m<=z'.low)(h:GvR G z F X e o C z' F' X' e' o'):GvR G z F X e o C ⟨z'.heap,z'.j,m⟩ F' X' e' o':=by
 have k:Le z' ⟨z'.heap,z'.j,m⟩:=⟨Nat.le_refl _,λ_ _=>rfl⟩;refine⟨h.w.le k,h.ep.le k,h.bo,h.x1,h.x2, ?_⟩
 rcases h.lo with h1|h1|h1
 .exact .inl (Nat.le_trans hm h1)
 .exact .inr (.inl (Nat.le_trans hm h1))
 .exact .inr (.inr h1)
theorem xTM{b u a v:List Int}:pick (some (b,u)) a v=if zGL v u then some (a,v)else some (b,u):=rfl
theorem wQI(ok:G.Ok){m:Nat}(h:G.n1<=m):yQ RD m G.K.wfv=true:=ok.ok.bel m (Nat.le_trans ok.f1 h)
theorem yM.lt{E:St}{p:Option Addr}{l:Nat}{xs:List Int}(h:yM E p l xs)(b:Nat)(hb:AtP p b):b<E.j:=by
 obtain⟨a,rfl,rfl⟩:=hb;exact(show Row E a _ from h.1.2).lt
theorem wFN{w:Wk}{leaves:Bool}{wf:Nat->List Int->List Int}(hl:w.L.length<=12):∀{r D:Nat} {st:Nat->Std} {c v:List Int},Ch w leaves wf r D st c v->c.length<=12*r
 |0,_,_,_,_,h=>by rw[h.1];simp
 |r+1,D,st,c,v,h=>by
  obtain⟨a,b,u,x,h1,h2,h3,h4⟩:=h;have:=(zEI h1).1;have hd:=zEH (w:=w) (D:=D) (j:=w.L.length);have:=wFN hl h2;rw[h3,List.length_append];omega
theorem zPB{n l c:Nat}{p:Option Addr}{a0 a1 a2 a3 a4 a5:Int}{b:Bool}(h:∀a,p=some a->a.block<n):yQ RD n (.agg ⟨wIK a0 a1 a2 a3 a4 a5 p l c b⟩)=true:=by
 have h1:yQ RD n (.slice p l c)=true:=xH h;cases p with
 |none=>exact yX rfl
 |some a =>
  show(true&&(true&&(true&&(true&&(true&&(true&&(Nat.blt a.block n&&(true&&true))))))))=true;rw[(xY _ _).2 (h a rfl)];rfl
theorem GvW.put{pw:Option Addr}{lw cw:Nat}{v:List Int}{who:List Int}(ok:G.Ok)(h:GvW G z F X e)(hv:v.length=6)(hb:Bd 100 v)(hi:yM z pw lw who)(hf:∀b,AtP pw b->G.n1<=b/\b<z.j) :
  ∃z',yN tP (evL [.pointer (some ⟨G.Bo,0,none⟩),zEE ⟨v,pw,lw,cw,true⟩]) z (.store 172 (.tmp 0) (.tmp 1))=some (undef,z')/\Only (·=G.Bo) z z'/\z'.low<=G.Bo/\z'.low<=z.low/\GvW G z' F (λb=>X b\/AtP pw b) ⟨v,pw,lw,cw,true⟩/\EndP z' (λb=>X b\/AtP pw b) ⟨v,pw,lw,cw,true⟩ (some (who,v)):=by
 obtain⟨l1,l2,l3,l4,l5,l6,l7,l8⟩:=ok.lt;obtain⟨o1,o2,o3,o4,o5,o6,o7⟩:=ok.no;have f0:=ok.f0;have st:=h.oo.store (P:=tP) (k:=0) (t:=172) (v:=zEE ⟨v,pw,lw,cw,true⟩) (vs:=zGC ⟨v,pw,lw,cw,true⟩) (ds:=zGC ⟨v,pw,lw,cw,true⟩) rfl uN rfl (by simp) rfl;have k:Only (·=G.Bo) z (z.own G.Bo (zGC ⟨v,pw,lw,cw,true⟩) 8):=Only.own (.inr rfl);have w':=h.w.only k (λb e=>by subst e;exact f0) (λe=>o6 e.symm) (λe=>o7 e.symm) h.xo;have hk:=k.slv' hi (λa ea e=>by have:=(hf _ ⟨a,ea,rfl⟩).1;omega);have w8:PlW G.K (z.own G.Bo (zGC ⟨v,pw,lw,cw,true⟩) 8) F (λb=>X b\/AtP pw b):=w'.mono (λb hb=>.inl hb) (λb hb=>by
  rcases hb with hb|hb
  .exact w'.xb b hb
  .have h1:=hf b hb;exact⟨h1.2,by omega⟩)
 refine⟨_,st,k,by simp[St.own];omega,by simp[St.own];omega,⟨w8,k.rw' h.ou (λe=>o1 e.symm),k.slv' h.du (λa e hs=>h.xo _ (h.ux _ ⟨a,e,rfl⟩) hs),λb hb=>.inl (h.ux b hb),k.rw' h.oq (λe=>o2 e.symm),k.rw' h.os (λe=>o3 e.symm),k.rw' h.og (λe=>o4 e.symm),k.rw' h.oy (λe=>o5 e.symm),h.oo.put,λb hb=>?_,h.nz⟩,⟨hv,hb,λb hb=>.inr hb,rfl,rfl,hk⟩⟩
 rcases hb with hb|hb
 .exact h.xo b hb
 .have:=(hf b hb).1;omega
theorem xCV(ok:G.Ok)(hb:zXQ G.K G.r){F:Key->Option EndR}{X:Nat->Prop}{e:EndR}{o:Option (List Int×List Int)}{C:zLZ}{who:List Int}{pl:Option Addr}{lc:Nat}{sf:List (Nat×Nat)}{st:Nat->Std}
  (W:GvW G z F X e) (ep:EndP z X e o) (bo:wN 6 C o) (hC:∀a v,C a v->v.length=6) (S:Stk z G.n1 pl who.length lc (who.map yK) sf) (hX:∀b,AtP pl b->¬X b) (hw:who.length=G.du.length) (hst:∀k,k<G.K.m->StG (st k)) :
  ∃z',zW tP 109 (.slice pl who.length lc::.agg ⟨stL st⟩::G.args) z (.tuple ⟨[]⟩) z'/\Only (λb=>b=G.K.bm\/b=G.Bo) z z'/\∃F' X' e' o',GvR G z F X e o (λc v=>C c v\/G.give [] who st c v) z' F' X' e' o':=by
 suffices hmain:zQ tP 109 (.slice pl who.length lc::.agg ⟨stL st⟩::G.args) z.re λv s=>Only (λb=>b=G.K.bm\/b=G.Bo) z.re s/\(s.low<z.j\/yI RD v=false\/(v=.tuple ⟨[]⟩/\∃F' X' e' o',GvR G z F X e o (λc v=>C c v\/G.give [] who st c v) z F' X' e' o'))/\(v=.tuple ⟨[]⟩/\∃F' X' e' o',GvR G z F X e o (λc v=>C c v\/G.give [] who st c v) s F' X' e' o') by
  obtain⟨v,s,h1,h2,rfl,h3⟩:=wHS (Q:=λv s=>v=.tuple ⟨[]⟩/\∃F' X' e' o',GvR G z F X e o (λc v=>C c v\/G.give [] who st c v) s F' X' e' o') hmain (by
   rintro v s m hm ⟨h1,F',X',e',o',h2⟩;exact⟨h1,F',X',e',o',h2.low hm⟩)
  exact⟨s,h1,h2,h3⟩
 have zr:z.re.j=z.j:=rfl;have n7:=ok.ok.n7;have dr:=ok.dr;have hD:G.D<=6:=by omega
 obtain⟨l1,l2,l3,l4,l5,l6,l7,l8⟩:=ok.lt;have hnz:=W.nz;have hl12:who.length<=12:=by
  have h1:=zEH (w:=G.K.w) (D:=G.D) (j:=G.K.l);have h2:=ok.ok.sn.l12;have h3:who.length=(yS G.K.w G.D G.K.l).length:=hw;omega
 have hAt:∀b,AtP pl b->G.n1<=b/\b<z.j:=λb hb=>S.bd b hb
 obtain⟨be,hO1⟩:∃be,be=z.re.row (stL st) 4:=⟨_,rfl⟩;have N1:New z.re be:=by rw[hO1];exact New.row _ _ _
 have nx1:be.j=z.j+1:=by rw[hO1];rfl
 have oN1:Own be z.j (stL st) 4:=by rw[hO1];exact zX _ _ _
 have L1:Le z be:=(le0 z).trans N1.le;have W1:=W.le L1;have S1:=S.le L1;have c5:=wMT (D:=G.D) (st:=st) W1.w.pr ok.ok.wk.len.2 ok.ok.sn.m6 (by omega) ok.ok.sn.rest;obtain⟨z2,e2,o2,F2,X2,c6,k2,w2,ep2,bo2,x21,x22,lo2⟩:=hb be F X (G.D+1) (zDN G.K.w G.D st) (by omega) W1.w (λk hk=>by
  unfold zDN;split
  .exact(hst k hk).past hD ok.ok.sn.rest
  .exact hst k hk)
 rw[show((G.D+1:Nat):Int)=(G.D:Int)+1 by omega]at c6;have W2:=W1.best ok k2 w2 x21 x22;have nx2:=k2.j;have hlow2:=zLI c6;have S2:Stk z2 G.n1 pl who.length lc (who.map yK) sf:=S1.only k2 (λb hb e=>by have:=(hAt b hb).1;omega);have oN2:=k2.own' oN1 (show ¬z.j=G.K.bm by omega);have EP2:EndP z2 X2 e o:=((ep.le L1).only k2 (λb hb=>(W1.w.xb b hb).2)).mono x21;obtain⟨E3,hO3⟩:∃E3,E3=(z2.row (wIK 0 0 0 0 0 0 none 0 0 false) 8).own z2.j (zGC e2) 8:=⟨_,rfl⟩;have N3:New z2 E3:=by rw[hO3];exact(New.row _ _ _).own (Nat.le_refl _)
 have nx3:E3.j=z2.j+1:=by rw[hO3];rfl
 have oR3:Own E3 z2.j (zGC e2) 8:=by rw[hO3];exact(zX _ _ _).put
 have W3:=W2.le N3.le;have S3:=S2.le N3.le;have c19:=ok.ok.wfc E3 W3.w.fl G.D pl who.length lc who (S3.slv xXT) hl12;have wvl:=ok.ok.wfl G.D who;have wvb:=ok.ok.wfb G.D who hl12;have gl:=xUN (w:=G.K.w) (leaves:=G.K.leaves) (wf:=G.K.wf) (r:=G.r) (D:=G.D) (who:=who) (st:=st) ok.ok.wfl bo2 bo hC;have c20:=wMQ (E:=E3) ep2.len wvl (ep2.bd.mono (by decide)) (wvb.mono (by decide));have hpl:(zAM e2.v (G.K.wf G.D who)).length=6:=by rw[zPZ (by rw[ep2.len,wvl]),ep2.len]
 have hpb:∀b u,o2=some (b,u)->Bd 100 (zAM e2.v (G.K.wf G.D who)):=by
  rintro b u rfl;have ht:_/\_/\_:=ep2.tell;have h1:=wLH ok.ok.wfb ok.ok.dl bo2.1;rw[<- ht.2.1]at h1;exact(h1.plus wvb).mono (by omega)
 obtain⟨pv,hpv⟩:∃pv,pv=zAM e2.v (G.K.wf G.D who):=⟨_,rfl⟩;rw[<- hpv]at c20 hpl hpb;rw[zAY]at c19;rw[zAY,zAY,zAY]at c20;obtain⟨U5,hO5⟩:∃U5,U5=(E3.row (zS 0 0 0 0 0 0) 1).own E3.j (zS (pv.getD 0 0) (pv.getD 1 0) (pv.getD 2 0) (pv.getD 3 0) (pv.getD 4 0) (pv.getD 5 0)) 1:=⟨_,rfl⟩;have N5:New E3 U5:=by rw[hO5];exact(New.row _ _ _).own (Nat.le_refl _)
 have nx5:U5.j=E3.j+1:=by rw[hO5];rfl
 have oM5:Own U5 E3.j (six pv) 1:=by rw[hO5];exact(zX _ _ _).put
 have W5:=W3.le N5.le;have S5:=S3.le N5.le;have oR5:=oR3.le N5.le;have EP5:=(EP2.le N3.le).le N5.le;have hlow5:U5.low<=z2.low:=by rw[hO5,hO3];simp[St.own];omega
 have k5:Only (λb=>b=G.K.bm\/b=G.Bo) z.re U5:=((N1.only.trans' k2 (λb _ e=>.inl (.inl e))).trans' N3.only (S:=λb=>b=G.K.bm\/b=G.Bo) (T:=λ_=>False) (λb _ h=>h.elim)).trans' N5.only (T:=λ_=>False) (λb _ h=>h.elim);have lq:∀u,Row u ⟨G.Bq,0,none⟩ [.pointer (some ⟨G.K.Bp,0,none⟩)]->zJ tP u 167 ⟨G.Bq,0,none⟩=some (.pointer (some ⟨G.K.Bp,0,none⟩)):=λu o=>o.ld zAE rfl
 have ls:∀u,Row u ⟨G.Bs,0,none⟩ (iV (G.D:Int)::stL G.st0)->zJ tP u 3 ⟨G.Bs,0,none⟩=some (iV (G.D:Int)):=λu o=>o.ld zU rfl
 have l7':∀u,Row u ⟨G.K.Bp,0,none⟩ G.K.row->zJ tP u 128 (zO ⟨G.K.Bp,0,none⟩ 7)=some G.K.wfv:=λu o=>o.load1 wOL rfl
 have lv:∀(u:St) (b:Nat) (e:EndR),Own u b (zGC e) 8->zJ tP u 126 ⟨b,0,none⟩=some (.agg ⟨zS (e.v.getD 0 0) (e.v.getD 1 0) (e.v.getD 2 0) (e.v.getD 3 0) (e.v.getD 4 0) (e.v.getD 5 0)⟩):=λu b e o=>o.rw.ldN zAQ wK (k:=0) rfl rfl (nle rfl)
 have gw:=ok.ok.good;have ld1:zJ tP be 48 ⟨G.Bu,0,none⟩=some (.slice G.pu G.du.length G.cu):=W1.ou.ld xF rfl;have hb7:∀m,G.n1<=m->zL m [.pointer (some ⟨G.K.Bp,0,none⟩),iV (G.D:Int),.agg ⟨stL st⟩]:=λm hm=>zI (zR (by show G.K.Bp<m;omega)) (zI rfl (zI (yX rfl) zM))
 have hb8:∀m (f:Nat->Std),G.n1<=m->zL m [.pointer (some ⟨G.K.Bp,0,none⟩),.agg ⟨iV ((G.D:Int)+1)::stL f⟩]:=λm f hm=>zI (zR (by show G.K.Bp<m;omega)) (zI (yX rfl) zM)
 obtain⟨V2,hO2⟩:∃V2,V2=z2.row (wIK 0 0 0 0 0 0 none 0 0 false) 8:=⟨_,rfl⟩;have nx2':V2.j=z2.j+1:=by rw[hO2];rfl
 have N2':New z2 V2:=by rw[hO2];exact New.row _ _ _
 have oN2':=oN2.le N2'.le;have oN3:=oN2.le N3.le;obtain⟨E4,hO4⟩:∃E4,E4=E3.row (zS 0 0 0 0 0 0) 1:=⟨_,rfl⟩;have nx4:E4.j=E3.j+1:=by rw[hO4];rfl
 have N4:New E3 E4:=by rw[hO4];exact New.row _ _ _
 have oR4:=oR3.le N4.le;have W2':=W2.le N2'.le;have W4:=W3.le N4.le;have h1:=ld1;have h2:=lq be W1.oq;have h3:=ls be W1.os;have h4:=uS oN1;have h7:=hb7 be.j (by omega);have h8:=hb8 be.j (zDN G.K.w G.D st) (by omega);have h9:zL V2.j [.pointer (some ⟨z2.j,0,none⟩),.agg ⟨zGC e2⟩]:=(zI (zR (show z2.j<V2.j by omega)) (zI (zPB λa e=>(show a.block<V2.j by have:=(w2.xb a.block (ep2.bl a.block ⟨a,e,rfl⟩)).1;omega)) zM));have h10:=(⟨⟨show G.Bq<z2.j by omega,rfl⟩,lq z2 W2.oq⟩:(G.Bq<z2.j/\zN RD (.pointer (some ⟨G.K.Bp,0,none⟩))=true)/\_);have h11:=(⟨⟨show G.Bq<V2.j by omega,rfl⟩,lq V2 W2'.oq⟩:(G.Bq<V2.j/\zN RD (.pointer (some ⟨G.K.Bp,0,none⟩))=true)/\_);have h12:=(⟨⟨show G.Bs<z2.j by omega,rfl⟩,ls z2 W2.os⟩:(G.Bs<z2.j/\zN RD (iV (G.D:Int))=true)/\_);have h13:=(⟨⟨show G.Bs<V2.j by omega,rfl⟩,ls V2 W2'.os⟩:(G.Bs<V2.j/\zN RD (iV (G.D:Int))=true)/\_);have h14:=(⟨⟨show z.j<z2.j by omega,rfl⟩,uS oN2⟩:(z.j<z2.j/\zN RD (.agg ⟨stL st⟩)=true)/\_);have h15:=(⟨⟨show z.j<V2.j by omega,rfl⟩,uS oN2'⟩:(z.j<V2.j/\zN RD (.agg ⟨stL st⟩)=true)/\_);have h16:=lq E3 W3.oq;have h17:=l7' E3 W3.w.pr;have h18:=ls E3 W3.os;have h21:zL E3.j [.pointer (some ⟨z2.j,0,none⟩)]:=(zI (zR (show z2.j<E3.j by omega)) zM);have h22:zL E3.j [.pointer (some ⟨G.Bq,0,none⟩)]:=(zI (zR (show G.Bq<E3.j by omega)) zM);have h23:zL E3.j [.pointer (some (zO ⟨G.K.Bp,0,none⟩ 7))]:=(zI (zR (show G.K.Bp<E3.j by omega)) zM);have h24:zL E3.j [.pointer (some ⟨G.Bs,0,none⟩)]:=(zI (zR (show G.Bs<E3.j by omega)) zM);have h25:zL E3.j [G.K.wfv,iV (G.D:Int),.slice pl who.length lc]:=(zI (wQI ok (by omega)) (zI rfl (zI (xH λa e=>(show a.block<E3.j by have:=(S3.bd a.block ⟨a,e,rfl⟩).2;omega)) zM)));have h26:zL E4.j [.pointer (some ⟨E3.j,0,none⟩),.agg ⟨zS (pv.getD 0 0) (pv.getD 1 0) (pv.getD 2 0) (pv.getD 3 0) (pv.getD 4 0) (pv.getD 5 0)⟩]:=(zI (zR (show E3.j<E4.j by omega)) (zI (yX rfl) zM));have h27:=(⟨⟨show z2.j<E3.j by omega,rfl⟩,lv E3 z2.j e2 oR3⟩:(z2.j<E3.j/\zN RD (.agg ⟨zS (e2.v.getD 0 0) (e2.v.getD 1 0) (e2.v.getD 2 0) (e2.v.getD 3 0) (e2.v.getD 4 0) (e2.v.getD 5 0)⟩)=true)/\_);have h28:=h27;have h29:=(⟨⟨show z2.j<E4.j by omega,rfl⟩,lv E4 z2.j e2 oR4⟩:(z2.j<E4.j/\zN RD (.agg ⟨zS (e2.v.getD 0 0) (e2.v.getD 1 0) (e2.v.getD 2 0) (e2.v.getD 3 0) (e2.v.getD 4 0) (e2.v.getD 5 0)⟩)=true)/\_);have h30:=(⟨⟨show G.Bq<E3.j by omega,rfl⟩,lq E3 W3.oq⟩:(G.Bq<E3.j/\zN RD (.pointer (some ⟨G.K.Bp,0,none⟩))=true)/\_);have h31:=(⟨⟨show G.Bq<E4.j by omega,rfl⟩,lq E4 W4.oq⟩:(G.Bq<E4.j/\zN RD (.pointer (some ⟨G.K.Bp,0,none⟩))=true)/\_);have h32:=(⟨⟨show G.K.Bp<E3.j by omega,gw⟩,l7' E3 W3.w.pr⟩:((zO ⟨G.K.Bp,0,none⟩ 7).block<E3.j/\zN RD G.K.wfv=true)/\_);have h33:=(⟨⟨show G.K.Bp<E4.j by omega,gw⟩,l7' E4 W4.w.pr⟩:((zO ⟨G.K.Bp,0,none⟩ 7).block<E4.j/\zN RD G.K.wfv=true)/\_);have h34:=(⟨⟨show G.Bs<E3.j by omega,rfl⟩,ls E3 W3.os⟩:(G.Bs<E3.j/\zN RD (iV (G.D:Int))=true)/\_);have h35:=(⟨⟨show G.Bs<E4.j by omega,rfl⟩,ls E4 W4.os⟩:(G.Bs<E4.j/\zN RD (iV (G.D:Int))=true)/\_);have h36:zJ tP U5 4 ⟨z2.j,7,none⟩=some (.bool e2.can):=oR5.rw.ld zXI rfl;have h37:zJ tP U5 4 (zO ⟨G.Bo,0,none⟩ 7)=some (.bool e.can):=W5.oo.rw.load1 zXI rfl;have h38:=lv U5 G.Bo e W5.oo;have h40:zJ tP U5 48 ⟨z2.j,6,none⟩=some (.slice e2.p e2.l e2.c):=oR5.rw.ld xF rfl;have u2:I6 ((G.D:Int)+1):=⟨by omega,by omega⟩;have b1:G.Bq<z.re.j:=by show G.Bq<z.j;omega
 have b2:G.Bs<z.re.j:=by show G.Bs<z.j;omega
 have keep:wN 6 (λc v=>C c v\/G.give [] who st c v) o->(Only (λb=>b=G.K.bm\/b=G.Bo) z.re U5/\(U5.low<z.j\/yI RD (.tuple ⟨[]⟩)=false\/((.tuple ⟨[]⟩:Value)=.tuple ⟨[]⟩/\∃F' X' e' o',GvR G z F X e o (λc v=>C c v\/G.give [] who st c v) z F' X' e' o'))/\((.tuple ⟨[]⟩:Value)=.tuple ⟨[]⟩/\∃F' X' e' o',GvR G z F X e o (λc v=>C c v\/G.give [] who st c v) U5 F' X' e' o')):=λhbo=>by
  refine⟨k5, ?_,rfl,F2,X2,e,o,W5,EP5,hbo,x21,λb hb=>?_, ?_⟩
  .rcases lo2 with h|⟨rfl,rfl⟩
   .exact .inl (by omega)
   .exact .inr (.inr ⟨rfl,F2,X2,e,o,W,ep,hbo,λ_ h=>h,λ_ h=>.inl h,.inr (.inr ⟨rfl,rfl,rfl,rfl⟩)⟩)
  .rcases x22 b hb with h|h
   .exact .inl h
   .exact .inr (by omega)
  .rcases lo2 with h|⟨rfl,rfl⟩
   .exact .inr (.inl (by omega))
   .exact .inr (.inr ⟨rfl,rfl,rfl,rfl⟩)
 cases hc2:e2.can with
 |false =>
  rw[hc2]at h36;have hn:o2=none:=by
   cases o2 with
   |none=>rfl
   |some q=>have ht:=ep2.tell;simp only[hc2]at ht;exact absurd ht.1 (by decide)
  subst hn;have nx:=keep gl;subst hO5 hO4 hO3 hO2 hO1;exact wDU ⟨h1,h2,h3,h4,c5,c6,h7,h8,h9,h10,h11,h12,h13,h14,h15,h16,h17,h18,c19,c20,h21,h22,h23,h24,h25,h26,h27,h28,h29,h30,h31,h32,h33,h34,h35⟩ h36 nx (by rw[hw]) u2 b1 b2
 |true =>
 rw[hc2]at h36;obtain⟨b,u,rfl⟩:∃b u,o2=some (b,u):=by
  cases o2 with
  |none=>have ht:e2.can=false:=ep2.tell;rw[hc2]at ht;cases ht
  |some q=>exact⟨q.1,q.2,rfl⟩
 have ht:e2.can=true/\e2.v=u/\yM z2 e2.p e2.l b:=ep2.tell;have hev:=ht.2.1;subst hev;have gl:wN 6 (λc v=>C c v\/G.give [] who st c v) (pick o (who++b) pv):=by rw[hpv];exact gl
 obtain⟨E6,hO6⟩:∃E6,E6=U5.row [.slice pl who.length lc,.slice e2.p e2.l e2.c] 1:=⟨_,rfl⟩;have nx6:E6.j=U5.j+1:=by rw[hO6];rfl
 have N6:New U5 E6:=by rw[hO6];exact New.row _ _ _
 have ib:yM E6 e2.p e2.l b:=SlV.le (SlV.le ht.2.2 N3.le) (N5.le.trans N6.le);have lb:e2.l=b.length:=ib.len.symm;have rw6:zXN E6 (some ⟨U5.j,0,none⟩) 2 [who,b]:=by
  have r6:Row E6 ⟨U5.j,0,none⟩ [.slice pl who.length lc,.slice e2.p e2.l e2.c]:=by rw[hO6];exact wB _ _ _
  refine⟨[.slice pl who.length lc,.slice e2.p e2.l e2.c],⟨⟨rfl,r6⟩,rfl,λv hv=>?_⟩,rfl,λi r hi=>?_⟩
  .rcases List.mem_cons.1 hv with rfl|hv
   .exact .inl ⟨xF,rfl,rfl⟩
   .rw[List.mem_singleton.1 hv];exact .inl ⟨xF,rfl,rfl⟩
  .match i,hi with
   |0,hi=>cases hi;exact⟨pl,lc,rfl,(S5.le N6.le).slv xXT⟩
   |1,hi=>cases hi;exact⟨e2.p,e2.c,by rw[<- lb];rfl,by rw[<- lb];exact ib⟩
 have hflat:[who,b].flatten=who++b:=by simp
 have hb7l:(who++b).length<=1073741824:=by
  have:=wFN ok.ok.dl bo2.1;rw[List.length_append];omega
 obtain⟨p7,c7,E7,k7,N7,I7,f7⟩:=wIT (c:=2) rw6 (by decide) (by rw[hflat];exact hb7l);rw[hflat]at k7 I7;have W7:=(W5.le N6.le).le N7.le;have nx7:=N7.nx;obtain⟨U8,st8,k8,lo8,lo8',W8,EP8⟩:=W7.put (cw:=c7) ok hpl (hpb b _ rfl) I7 (λx hx=>⟨by have:=f7 x hx;omega,I7.lt x hx⟩);have low75:E7.low<=U5.low:=by
  have h1:=zLI k7;have h2:E6.low=U5.low:=by rw[hO6];rfl
  omega
 have store:wN 6 (λc v=>C c v\/G.give [] who st c v) (some (who++b,pv))->(Only (λb=>b=G.K.bm\/b=G.Bo) z.re U8/\(U8.low<z.j\/yI RD (.tuple ⟨[]⟩)=false\/((.tuple ⟨[]⟩:Value)=.tuple ⟨[]⟩/\∃F' X' e' o',GvR G z F X e o (λc v=>C c v\/G.give [] who st c v) z F' X' e' o'))/\((.tuple ⟨[]⟩:Value)=.tuple ⟨[]⟩/\∃F' X' e' o',GvR G z F X e o (λc v=>C c v\/G.give [] who st c v) U8 F' X' e' o')):=λhbo=>by
  refine⟨((k5.trans' N6.only (T:=λ_=>False) (λb _ h=>h.elim)).trans' N7.only (T:=λ_=>False) (λb _ h=>h.elim)).trans' k8 (λb _ h=>.inl (.inr h)),.inl (by omega),rfl,F2,_,_,_,W8,EP8,hbo,λb hb=>.inl (x21 b hb),λb hb=>?_,.inl lo8⟩
  rcases hb with hb|hb
  .rcases x22 b hb with h|h
   .exact .inl h
   .exact .inr (by omega)
  .exact .inr (by have:=f7 b hb;omega)
 have m5:zL U5.j [.pointer (some ⟨E3.j,0,none⟩)]:=(zI (zR (show E3.j<U5.j by omega)) zM);have m6:zL U5.j [.pointer (some ⟨z2.j,6,none⟩)]:=(zI (zR (show z2.j<U5.j by omega)) zM);have m7:zL U5.j [.slice pl who.length lc,.slice e2.p e2.l e2.c]:=(zI (xH λa e=>(show a.block<U5.j by have:=(S5.bd a.block ⟨a,e,rfl⟩).2;omega)) (zI (xH λa e=>(show a.block<U5.j by have:=(w2.xb a.block (ep2.bl a.block ⟨a,e,rfl⟩)).1;omega)) zM));have m8:zL E6.j [.slice (some ⟨U5.j,0,none⟩) 2 2]:=(zI (xH λa e=>by cases e;show U5.j<E6.j;omega) zM);have m9:zL E7.j [.pointer (some ⟨G.Bo,0,none⟩),zEE ⟨pv,p7,(who++b).length,c7,true⟩]:=(zI (zR (show G.Bo<E7.j by omega)) (zI (zPB λa e=>I7.lt a.block ⟨a,e,rfl⟩) zM));have oM6:=oM5.le N6.le;have oM7:=oM6.le N7.le;have q5:=(⟨⟨show E3.j<U5.j by omega,rfl⟩,oM5.rw.ldN zAQ wK (k:=0) rfl rfl (nle rfl)⟩:(E3.j<U5.j/\zN RD (.agg ⟨zS (pv.getD 0 0) (pv.getD 1 0) (pv.getD 2 0) (pv.getD 3 0) (pv.getD 4 0) (pv.getD 5 0)⟩)=true)/\zJ tP U5 126 ⟨E3.j,0,none⟩=some (.agg ⟨zS (pv.getD 0 0) (pv.getD 1 0) (pv.getD 2 0) (pv.getD 3 0) (pv.getD 4 0) (pv.getD 5 0)⟩));have q6:=(⟨⟨show E3.j<E6.j by omega,rfl⟩,oM6.rw.ldN zAQ wK (k:=0) rfl rfl (nle rfl)⟩:(E3.j<E6.j/\zN RD (.agg ⟨zS (pv.getD 0 0) (pv.getD 1 0) (pv.getD 2 0) (pv.getD 3 0) (pv.getD 4 0) (pv.getD 5 0)⟩)=true)/\zJ tP E6 126 ⟨E3.j,0,none⟩=some (.agg ⟨zS (pv.getD 0 0) (pv.getD 1 0) (pv.getD 2 0) (pv.getD 3 0) (pv.getD 4 0) (pv.getD 5 0)⟩));have q7:=(⟨⟨show E3.j<E7.j by omega,rfl⟩,oM7.rw.ldN zAQ wK (k:=0) rfl rfl (nle rfl)⟩:(E3.j<E7.j/\zN RD (.agg ⟨zS (pv.getD 0 0) (pv.getD 1 0) (pv.getD 2 0) (pv.getD 3 0) (pv.getD 4 0) (pv.getD 5 0)⟩)=true)/\zJ tP E7 126 ⟨E3.j,0,none⟩=some (.agg ⟨zS (pv.getD 0 0) (pv.getD 1 0) (pv.getD 2 0) (pv.getD 3 0) (pv.getD 4 0) (pv.getD 5 0)⟩));cases hc:e.can with
 |false =>
  rw[hc]at h37;have hn:o=none:=by
   cases o with
   |none=>rfl
   |some q=>have ht:=ep.tell;simp only[hc]at ht;exact absurd ht.1 (by decide)
  subst hn;have nx:=store gl;subst hO6 hO5 hO4 hO3 hO2 hO1;exact wDV ⟨h1,h2,h3,h4,c5,c6,h7,h8,h9,h10,h11,h12,h13,h14,h15,h16,h17,h18,c19,c20,h21,h22,h23,h24,h25,h26,h27,h28,h29,h30,h31,h32,h33,h34,h35⟩ h36 h37 h40 k7 st8 m5 m6 m7 m8 m9 q5 q6 q7 nx (by rw[hw]) u2 b1 b2
 |true =>
  rw[hc]at h37;obtain⟨b',u',rfl⟩:∃b u,o=some (b,u):=by
   cases o with
   |none=>have ht:e.can=false:=ep.tell;rw[hc]at ht;cases ht
   |some q=>exact⟨q.1,q.2,rfl⟩
  have ht':e.can=true/\e.v=u'/\yM z e.p e.l b':=ep.tell;have hev:=ht'.2.1;subst hev;have c39:=wMX (E:=U5) hpl ep.len;rw[zAY,zAY]at c39;rw[xTM]at gl;cases hm:zGL pv e.v with
  |false =>
   rw[hm]at gl c39;have nx:=keep gl;subst hO5 hO4 hO3 hO2 hO1;exact wDW ⟨h1,h2,h3,h4,c5,c6,h7,h8,h9,h10,h11,h12,h13,h14,h15,h16,h17,h18,c19,c20,h21,h22,h23,h24,h25,h26,h27,h28,h29,h30,h31,h32,h33,h34,h35⟩ h36 h37 h38 c39 nx (by rw[hw]) u2 b1 b2
  |true =>
   rw[hm]at gl c39;have nx:=store gl;subst hO6 hO5 hO4 hO3 hO2 hO1;exact wDX ⟨h1,h2,h3,h4,c5,c6,h7,h8,h9,h10,h11,h12,h13,h14,h15,h16,h17,h18,c19,c20,h21,h22,h23,h24,h25,h26,h27,h28,h29,h30,h31,h32,h33,h34,h35⟩ h36 h37 h38 c39 h40 k7 st8 m5 m6 m7 m8 m9 q5 q6 q7 nx (by rw[hw]) u2 b1 b2
end
abbrev xEW:=Option (List Int×List Int)
section
variable{G:GvK}{z y y':St}{F F' F2:Key->Option EndR}{X X' X2:Nat->Prop}{e e' e2:EndR}{o o' o2:xEW}{C C':zLZ}
theorem GvR.self(W:GvW G z F X e)(ep:EndP z X e o)(bo:wN 6 C o):GvR G z F X e o C z F X e o:=⟨W,ep,bo,λ_ h=>h,λ_ h=>.inl h,.inr (.inr ⟨rfl,rfl,rfl,rfl⟩)⟩
theorem GvR.iff(h:GvR G z F X e o C y F' X' e' o')(k:∀a v,C a v↔C' a v):GvR G z F X e o C' y F' X' e' o':=⟨h.w,h.ep,h.bo.iff k,h.x1,h.x2,h.lo⟩
theorem GvR.step{S:Nat->Prop}(ok:G.Ok)(h:GvR G z F X e o C y F' X' e' o')(k:Only S y y')(hS:∀b,S b->G.n1<=b/\¬X' b)(hl:y'.low<=y.low):GvR G z F X e o C y' F' X' e' o':=by
 refine⟨h.w.only ok k hS,h.ep.only k λb hb hs=>(hS b hs).2 hb,h.bo,h.x1,h.x2, ?_⟩
 rcases h.lo with g|g|g
 .exact .inl (Nat.le_trans hl g)
 .exact .inr (.inl (Nat.le_trans hl g))
 .exact .inr (.inr g)
theorem GvR.new(ok:G.Ok)(h:GvR G z F X e o C y F' X' e' o')(k:New y y')(hl:y'.low<=y.low):GvR G z F X e o C y' F' X' e' o':=h.step (S:=λ_=>False) ok k.only (λ_ h=>h.elim) hl
theorem GvR.trans(h:GvR G z F X e o C y F' X' e' o')(k:GvR G y F' X' e' o' C' y' F2 X2 e2 o2)(hn:z.j<=y.j)(hl:y'.low<=y.low):GvR G z F X e o C' y' F2 X2 e2 o2:=by
 refine⟨k.w,k.ep,k.bo,λb hb=>k.x1 b (h.x1 b hb),λb hb=>?_, ?_⟩
 .rcases k.x2 b hb with g|g
  .exact h.x2 b g
  .exact .inr (Nat.le_trans hn g)
 .rcases k.lo with g|g|⟨rfl,rfl,rfl,rfl⟩
  .exact .inl g
  .exact .inr (.inl g)
  .rcases h.lo with g|g|g
   .exact .inl (Nat.le_trans hl g)
   .exact .inr (.inl (Nat.le_trans hl g))
   .exact .inr (.inr g)
end
def zRW(G:GvK)(z:St)(F:Key->Option EndR)(X:Nat->Prop)(e:EndR)(o:xEW)(C:zLZ)(pl:Option Addr)(lc:Nat)(who:List Int)(sf:List (Nat×Nat))(s:St):Prop:=∃F' X' e' o',GvR G z F X e o C s F' X' e' o'/\Stk s G.n1 pl who.length lc (who.map yK) sf
abbrev zRV(G:GvK)(pl:Option Addr):Nat->Prop:=λb=>b=G.K.bm\/b=G.Bo\/AtP pl b
def xEU(G:GvK)(rest:List Nat):Prop:=∀{z:St} {F:Key->Option EndR} {X:Nat->Prop} {e:EndR} {o:xEW} {C:zLZ} {who:List Int} {pl:Option Addr} {lc:Nat} {sf:List (Nat×Nat)} {st:Nat->Std},
 GvW G z F X e->EndP z X e o->wN 6 C o->(∀a v,C a v->v.length=6)->Stk z G.n1 pl who.length lc (who.map yK) sf->(∀b,AtP pl b->¬X b)->(∃pre,G.du=pre++rest/\pre.length=who.length)->(∀k,k<G.K.m->StG (st k)) ->
 ∃z',zW tP 109 (.slice pl who.length lc::.agg ⟨stL st⟩::G.args) z (.tuple ⟨[]⟩) z'/\Only (zRV G pl) z z'/\zRW G z F X e o (λc v=>C c v\/G.give rest who st c v) pl lc who sf z'
section
variable{G:GvK}
theorem wCE(ok:G.Ok)(hb:zXQ G.K G.r):xEU G []:=by
 intro z F X e o C who pl lc sf st W ep bo hC S hX hd hst;obtain⟨pre,h1,h2⟩:=hd;have hw:who.length=G.du.length:=by rw[h1];simp[h2]
 obtain⟨l1,l2,l3,l4,l5,l6,l7,l8⟩:=ok.lt;obtain⟨z',c,k,F',X',e',o',r⟩:=xCV ok hb W ep bo hC S hX hw hst;exact⟨z',c,k.mono (λb _ h=>by rcases h with h|h;exact .inl h;exact .inr (.inl h)),F',X',e',o',r,S.only k (λb hb h=>by have:=(S.bd b hb).1;omega)⟩
theorem xEH(ok:G.Ok){m:Nat}(h:G.n1<=m):yQ RD m (.func (.func 109) ⟨[]⟩ ⟨G.args⟩)=true:=by
 obtain⟨l1,l2,l3,l4,l5,l6,l7,l8⟩:=ok.lt;show((true&&true)&&(Nat.blt G.Bu m&&(Nat.blt G.Bq m&&(Nat.blt G.Bs m&&(Nat.blt G.Bo m&&(Nat.blt G.Bg m&&(Nat.blt G.By m&&true)))))))=true;rw[(xY _ _).2 (by omega:G.Bu<m),(xY _ _).2 (by omega:G.Bq<m),(xY _ _).2 (by omega:G.Bs<m),(xY _ _).2 (by omega:G.Bo<m),(xY _ _).2 (by omega:G.Bg<m),(xY _ _).2 (by omega:G.By<m)];rfl
theorem wJR(ok:G.Ok){m:Nat}(h:G.n1<=m):yQ RD m (.func (.func 108) ⟨[.pointer (some ⟨G.K.Bp,0,none⟩)]⟩ ⟨[]⟩)=true:=by
 obtain⟨l1,l2,l3,l4,l5,l6,l7,l8⟩:=ok.lt;show((Nat.blt G.K.Bp m&&true)&&true)=true;rw[(xY _ _).2 (by omega:G.K.Bp<m)];rfl
theorem yIH(ok:G.Ok){i:Nat}{rest:List Nat}(ih:xEU G rest){z y:St}{F F':Key->Option EndR}{X X':Nat->Prop}{e e':EndR}{o o':xEW}{C:zLZ}{who:List Int}{pl:Option Addr}{lc:Nat}{sf:List (Nat×Nat)}{st:Nat->Std}{x:Int}
  (R:GvR G z F X e o C y F' X' e' o') (hC:∀a v,C a v->v.length=6) (S:Stk y G.n1 pl who.length lc (who.map yK) sf) (hX:∀b,AtP pl b->¬X b) (hz:∀b,AtP pl b->b<z.j) (hzy:z.j<=y.j) (hd:∃pre,G.du=pre++i::rest/\pre.length=who.length) (hst:∀k,k<G.K.m->StG (st k)) :
  ∃p' c' y4 y5,xO tP 48 48 (.slice pl who.length lc) (.slice (some ⟨y.j,0,none⟩) 1 1) (y.row [yK x] 1)=some (.slice p' (who.length+1) c',y4)/\Only (AtP pl) y y4/\(∀b,AtP p' b->AtP pl b\/y.j<=b)/\(∀b,AtP p' b->b<y4.j)/\y4.low<=y.low /\
   zW tP 109 (.slice p' (who.length+1) c'::.agg ⟨stL st⟩::G.args) y4 (.tuple ⟨[]⟩) y5/\Only (λb=>b=G.K.bm\/b=G.Bo\/AtP p' b) y4 y5/\GvW G y4 F' X' e'/\y5.low<=y.low /\
   zRW G z F X e o (λc v=>C c v\/G.give rest (who++[x]) st c v) pl lc who sf y5:=by
 obtain⟨pre,hd1,hd2⟩:=hd;have hlen:who.length+1<=1073741824:=by
  have h1:=zEH (w:=G.K.w) (D:=G.D) (j:=G.K.l);have h2:=ok.ok.sn.l12;have h3:(yS G.K.w G.D G.K.l).length=pre.length+(rest.length+1):=by
   show G.du.length=_;rw[hd1];simp
  omega
 have hxp:∀b,AtP pl b->¬X' b:=λb hb hx=>by
  rcases R.x2 b hx with h|h
  .exact hX b hb h
  .have:=hz b hb;omega
 have hny:=R.w.nz;obtain⟨p',c',sf',y4,g1,g2,g3,g4,g5,g6⟩:=S.push (v:=yK x) uH rfl hlen hny;have hS4:∀b,AtP pl b->G.n1<=b/\¬X' b:=λb hb=>⟨(S.bd b hb).1,hxp b hb⟩
 have R4:=R.step ok g4 hS4 g5;have exs:who.map yK++[yK x]=(who++[x]).map yK:=by simp
 rw[exs]at g2;have el:(who++[x]).length=who.length+1:=by simp
 have n4:=g4.j;rw[<- el]at g2;have hX4:∀b,AtP p' b->¬X' b:=λb hb hx=>by
  rcases g6 b hb with h|h
  .exact hxp b h hx
  .have:=(R.w.w.xb b hx).1;omega
 obtain⟨y5,k5,o5,F5,X5,e5,o5',r5,s5⟩:=ih R4.w R4.ep R4.bo hC g2 hX4 ⟨pre++[i],by rw[hd1];simp,by rw[el];simp[hd2]⟩ hst;have hl5:=zLI k5;have s5':Stk y5 G.n1 pl who.length lc (who.map yK) sf:=Kid.pop (by rw[<- exs];exact g3) s5;rw[el]at k5 g2;exact⟨p',c',y4,y5,g1,g4,g6,λb hb=>(g2.bd b hb).2,g5,k5,o5,R4.w,by omega,F5,X5,e5,o5',R4.trans r5 (by omega) (by omega),s5'⟩
theorem xUO(ok:G.Ok)(hb:zXQ G.K G.r){i:Nat}{rest:List Nat}(ih:xEU G rest):xEU G (i::rest):=by
 intro z F X e o C who pl lc sf st W ep bo hC S hX hd hst;suffices hmain:zQ tP 109 (.slice pl who.length lc::.agg ⟨stL st⟩::G.args) z.re λv s=>Only (zRV G pl) z.re s/\(s.low<z.j\/yI RD v=false\/(v=.tuple ⟨[]⟩/\zRW G z F X e o (λc v=>C c v\/G.give (i::rest) who st c v) pl lc who sf z))/\(v=.tuple ⟨[]⟩/\zRW G z F X e o (λc v=>C c v\/G.give (i::rest) who st c v) pl lc who sf s) by
  obtain⟨v,s,h1,h2,rfl,h3⟩:=wHS (Q:=λv s=>v=.tuple ⟨[]⟩/\zRW G z F X e o (λc v=>C c v\/G.give (i::rest) who st c v) pl lc who sf s) hmain (by
   rintro v s m hm ⟨h1,F',X',e',o',h2,h3⟩;exact⟨h1,F',X',e',o',h2.low hm,h3.le ⟨Nat.le_refl _,λ_ _=>rfl⟩⟩)
  exact⟨s,h1,h2,h3⟩
 have zr:z.re.j=z.j:=rfl;obtain⟨l1,l2,l3,l4,l5,l6,l7,l8⟩:=ok.lt;have hnz:=W.nz;have hAt:∀b,AtP pl b->G.n1<=b/\b<z.j:=λb hb=>S.bd b hb
 have hm6:=ok.ok.sn.m6;have hwm:=ok.ok.wk.len.2;have hwl:=ok.ok.wk.len.1;obtain⟨pre,hd1,hd2⟩:=hd;have hlt:who.length<G.du.length:=by rw[hd1];simp;omega
 have hgi:G.du[who.length]?=some i:=by rw[hd1,<- hd2];simp
 have himem:i∈yS G.K.w G.D G.K.l:=List.mem_of_getElem? hgi;obtain⟨hil,hiD⟩:=zQH.1 himem;have hdt:=ok.ok.sn.duty i hil;have hdo:DtOk (dty G.K.w i):=⟨⟨hdt.1,hdt.2.1⟩,⟨hdt.2.2.1,hdt.2.2.2.1⟩⟩;obtain⟨be,hO1⟩:∃be,be=z.re.row (stL st) 4:=⟨_,rfl⟩;have N1:New z.re be:=by rw[hO1];exact New.row _ _ _
 have nx1:be.j=z.j+1:=by rw[hO1];rfl
 have oN1:Own be z.j (stL st) 4:=by rw[hO1];exact zX _ _ _
 have L1:Le z be:=(le0 z).trans N1.le;have R1:GvR G z F X e o C be F X e o:=⟨W.le L1,ep.le L1,bo,λ_ h=>h,λ_ h=>.inl h,.inr (.inr ⟨rfl,rfl,rfl,rfl⟩)⟩;have S1:=S.le L1;let Cj:Nat->zLZ:=λj c v=>C c v\/((G.K.leaves=true/\G.give rest (who++[-1]) st c v)\/∃k,k<j/\zHB G.K.w k i (st k)=true/\G.give rest (who++[(k:Int)]) (yGQ G.K.w st k i) c v)
 have hCj:∀j a v,Cj j a v->v.length=6:=by
  rintro j a v (h|⟨_,h⟩|⟨k,_,_,h⟩)
  .exact hC a v h
  .exact zZM.len ok.ok.wfl h
  .exact zZM.len ok.ok.wfl h
 let J:Nat->St->Prop:=λj y=>Only (zRV G pl) z.re y/\be.j<=y.j/\zRW G z F X e o (Cj j) pl lc who sf y/\Own y z.j (stL st) 4
 let P0:St->Prop:=λs=>Only (zRV G pl) z.re s/\(s.low<z.j\/yI RD (.tuple ⟨[]⟩)=false\/((.tuple ⟨[]⟩:Value)=.tuple ⟨[]⟩/\zRW G z F X e o (λc v=>C c v\/G.give (i::rest) who st c v) pl lc who sf z))/\((.tuple ⟨[]⟩:Value)=.tuple ⟨[]⟩/\zRW G z F X e o (λc v=>C c v\/G.give (i::rest) who st c v) pl lc who sf s)
 have hdone:∀y,J G.K.m y->P0 y:=by
  rintro y ⟨a1,a2,⟨F',X',e',o',r,s⟩,a3⟩;have r':GvR G z F X e o (λc v=>C c v\/G.give (i::rest) who st c v) y F' X' e' o':=r.iff λa v=>by
   show Cj G.K.m a v↔_;rw[show G.give (i::rest) who st a v↔_ from xWH,hwm]
  refine⟨a1, ?_,rfl,F',X',e',o',r',s⟩
  have f0:=ok.f0;rcases r'.lo with g|g|⟨rfl,rfl,rfl,rfl⟩
  .exact .inl (by omega)
  .exact .inl (by omega)
  .exact .inr (.inr ⟨rfl,F',X',e',o',GvR.self W ep r'.bo,S⟩)
 have lg:∀u,Row u ⟨G.Bg,0,none⟩ [.func (.func 109) ⟨[]⟩ ⟨G.args⟩]->zJ tP u 206 ⟨G.Bg,0,none⟩=some (.func (.func 109) ⟨[]⟩ ⟨G.args⟩):=λu o=>o.ld wEQ rfl
 have ly:∀u,Row u ⟨G.By,0,none⟩ [.func (.func 108) ⟨[.pointer (some ⟨G.K.Bp,0,none⟩)]⟩ ⟨[]⟩]->zJ tP u 205 ⟨G.By,0,none⟩=some (.func (.func 108) ⟨[.pointer (some ⟨G.K.Bp,0,none⟩)]⟩ ⟨[]⟩):=λu o=>o.ld wOB rfl
 have lq:∀u,Row u ⟨G.Bq,0,none⟩ [.pointer (some ⟨G.K.Bp,0,none⟩)]->zJ tP u 167 ⟨G.Bq,0,none⟩=some (.pointer (some ⟨G.K.Bp,0,none⟩)):=λu o=>o.ld zAE rfl
 have lu:∀u,Row u ⟨G.Bu,0,none⟩ [.slice G.pu G.du.length G.cu]->zJ tP u 48 ⟨G.Bu,0,none⟩=some (.slice G.pu G.du.length G.cu):=λu o=>o.ld xF rfl
 have lsl:∀u:St,wA tP (evL [.slice pl who.length lc]) u (.call { callee:=.builtin .len,args:=⟨wT 1⟩,argTypes:=⟨[48]⟩ })=some (iV (who.length:Int)):=λu=>rfl
 have gg:zN RD (.func (.func 109) ⟨[]⟩ ⟨G.args⟩)=true:=rfl;have gy:zN RD (.func (.func 108) ⟨[.pointer (some ⟨G.K.Bp,0,none⟩)]⟩ ⟨[]⟩)=true:=rfl;have bw:∀a,pl=some a->a.block<z.j:=λa e=>(hAt a.block ⟨a,e,rfl⟩).2
 have eas:∀(y:St) (p':Option Addr) (y4 y5:St),Only (zRV G pl) z.re y->z.j<y.j->Only (AtP pl) y y4->(∀b,AtP p' b->AtP pl b\/y.j<=b)->Only (λb=>b=G.K.bm\/b=G.Bo\/AtP p' b) y4 y5->Only (zRV G pl) z.re y5:=λy p' y4 y5 h1 h0 h2 h3 h4=>(h1.trans' h2 (λb _ h=>.inl (.inr (.inr h)))).trans' h4 (λb _ h=>by
  have hy:=h1.j;rcases h with h|h|h
  .exact .inl (.inl h)
  .exact .inl (.inr (.inl h))
  .rcases h3 b h with g|g
   .exact .inl (.inr (.inr g))
   .exact .inr (by omega))
 have hownS:∀(y:St) (p':Option Addr) (y4 y5:St),z.j<y.j->Only (AtP pl) y y4->(∀b,AtP p' b->AtP pl b\/y.j<=b)->Only (λb=>b=G.K.bm\/b=G.Bo\/AtP p' b) y4 y5->Own y z.j (stL st) 4->Own y4 z.j (stL st) 4/\Own y5 z.j (stL st) 4:=λy p' y4 y5 h1 h2 h3 h4 o=>by
  have o4:=h2.own' o (λh=>by have:=(hAt _ h).2;omega);refine⟨o4,h4.own' o4 ?_⟩
  rintro(h|h|h)
  .omega
  .omega
  .rcases h3 _ h with g|g
   .have:=(hAt _ g).2;omega
   .omega
 have hloop:∀y0,J 0 y0->zXD pl who.length lc ⟨G.Bu,0,none⟩ ⟨G.Bg,0,none⟩ ⟨G.By,0,none⟩ z.j G.K.m 0 y0 P0:=by
  intro y0 hJ0;refine xEF (Inv:=λk i' y=>∃j:Nat,i'=j/\j+k=G.K.m/\J j y) ?_ G.K.m 0 y0 ⟨0,rfl,by omega,hJ0⟩;rintro k i' y ⟨j,rfl,hk,hJ⟩;obtain⟨a1,a2,⟨F',X',e',o',r,s⟩,a3⟩:=hJ;by_cases hj:j<G.K.m;rotate_left
  .have:j=G.K.m:=by omega
   subst this;exact xVV (hdone y ⟨a1,a2,⟨F',X',e',o',r,s⟩,a3⟩)
  have hj6:j<6:=by omega
  have W':=r.w;have yn:=a1.j;obtain⟨s',cm,hs'⟩:=wPE (k:=j) (i:=i) (s:=st j) W'.w.pr (ok.ok.wk.le W'.w.fl) ok.ok.sh hj hil (hst j hj).ok hdo (by omega);obtain⟨qa,hqa,_⟩:=W'.du.some hlt;have h1:=ly y W'.oy;have h2:=lu y W'.ou;rw[hqa]at h2;have h3:zJ tP y 3 (zO qa (Int.toNat ((who.length:Nat):Int)*1))=some (iV (i:Int)):=W'.du.at hqa (by simp[zSW,hgi]);have h4:=ySL a3 hj6;have hqb:qa.block<y.j:=(W'.w.xb _ (W'.ux _ ⟨qa,hqa,rfl⟩)).1;have h6:zL y.j [.func (.func 108) ⟨[.pointer (some ⟨G.K.Bp,0,none⟩)]⟩ ⟨[]⟩,iV (j:Int),iV (i:Int),zQN (st j)]:=(zI (wJR ok (by omega)) (zI rfl (zI rfl (zI (yX rfl) zM))));obtain⟨y1,hy1⟩:∃y1,y1=y.row (zK 0 0 0 0) 4:=⟨_,rfl⟩;have ny1:y1.j=y.j+1:=by rw[hy1];rfl
  have M1:New y y1:=by rw[hy1];exact New.row _ _ _
  have W1:=W'.le M1.le;have h7:zL y1.j [.pointer (some ⟨y.j,0,none⟩),zQN s']:=(zI (zR (show y.j<y1.j by omega)) (zI (yX rfl) zM));have h8:=(⟨⟨show G.By<y.j by omega,gy⟩,h1⟩:(G.By<y.j/\_)/\_);have h9:=(⟨⟨show G.By<y1.j by omega,gy⟩,ly y1 W1.oy⟩:(G.By<y1.j/\_)/\_);have h10:=(⟨⟨show G.Bu<y.j by omega,rfl⟩,h2⟩:(G.Bu<y.j/\zN RD (.slice (some qa) G.du.length G.cu)=true)/\_);have h11:=(⟨⟨show G.Bu<y1.j by omega,rfl⟩,by rw[<- hqa];exact lu y1 W1.ou⟩:(G.Bu<y1.j/\zN RD (.slice (some qa) G.du.length G.cu)=true)/\zJ tP y1 48 ⟨G.Bu,0,none⟩=some (.slice (some qa) G.du.length G.cu));have bwy:∀n,y.j<=n->zL n [.slice pl who.length lc]:=λn hn=>zI (xH λa e=>by have:=bw a e;omega) zM
  have h12:(zL y.j [.slice pl who.length lc]/\zN RD (iV ((who.length:Nat):Int))=true)/\Callee.builtin .len=Callee.builtin .len/\wA tP (evL [.slice pl who.length lc]) y (.call { callee:=.builtin .len,args:=⟨wT 1⟩,argTypes:=⟨[48]⟩ })=some (iV (who.length:Int)):=⟨⟨bwy _ (Nat.le_refl _),rfl⟩,rfl,lsl y⟩;have h13:(zL y1.j [.slice pl who.length lc]/\zN RD (iV ((who.length:Nat):Int))=true)/\Callee.builtin .len=Callee.builtin .len/\wA tP (evL [.slice pl who.length lc]) y1 (.call { callee:=.builtin .len,args:=⟨wT 1⟩,argTypes:=⟨[48]⟩ })=some (iV (who.length:Int)):=⟨⟨bwy _ (by omega),rfl⟩,rfl,lsl y1⟩;have h14:=(⟨⟨hqb,rfl⟩,h3⟩:(qa.block<y.j/\zN RD (iV (i:Int))=true)/\_);have h15:((zO qa (Int.toNat ((who.length:Nat):Int)*1)).block<y1.j/\zN RD (iV (i:Int))=true)/\zJ tP y1 3 (zO qa (Int.toNat ((who.length:Nat):Int)*1))=some (iV (i:Int)):=⟨⟨show qa.block<y1.j by omega,rfl⟩,W1.du.at hqa (by simp[zSW,hgi])⟩;have h16:=(⟨⟨show z.j<y.j by omega,rfl⟩,h4⟩:(z.j<y.j/\zN RD (zQN (st j))=true)/\_);have h17:=(⟨⟨show z.j<y1.j by omega,rfl⟩,ySL (a3.le M1.le) hj6⟩:(z.j<y1.j/\zN RD (zQN (st j))=true)/\_);obtain⟨y2,hy2⟩:∃y2,y2=y1.own y.j (zGX s') 4:=⟨_,rfl⟩;have ny2:y2.j=y.j+1:=by rw[hy2];exact ny1
  have M2:New y y2:=by rw[hy2];exact M1.own (Nat.le_refl _)
  have lo2:y2.low<=y.low:=by rw[hy2,hy1];simp[St.own];omega
  have oS2:Own y2 y.j (zGX s') 4:=by rw[hy2,hy1];exact(zX _ _ _).put
  have R2:=r.new ok M2 lo2;have s2:=s.le M2.le;have a32:=a3.le M2.le;have k2:Only (zRV G pl) z.re y2:=a1.trans' M2.only (T:=λ_=>False) (λb _ h=>h.elim);have u1:(j:Int)<((G.K.m:Nat):Int):=by omega
  have u2:Ix ((who.length:Nat):Int) G.du.length:=⟨by omega,by omega⟩;have u3:Ix (j:Int) 6:=⟨by omega,by omega⟩;have u4:I6 ((j:Int)+1):=⟨by omega,by omega⟩;have b5:G.By<y.j:=by omega
  have b0:G.Bu<y.j:=by omega
  have bB:z.j<y.j:=by omega
  have bwy':∀a,pl=some a->a.block<y.j:=λa e=>by have:=bw a e;omega
  cases hmb:zHB G.K.w j i (st j)with
  |false =>
   rw[hmb]at cm;have nx:∃k',k' < k/\∃j':Nat,(j:Int)+1=j'/\j'+k'=G.K.m/\J j' y2:=⟨k-1,by omega,j+1,by omega,by omega,k2,by omega,⟨F',X',e',o',R2.iff λa v=>by
    show Cj j a v↔Cj (j+1) a v;constructor
    .rintro(h|h|⟨q,h1,h2⟩)
     .exact .inl h
     .exact .inr (.inl h)
     .exact .inr (.inr ⟨q,by omega,h2⟩)
    .rintro(h|h|⟨q,h1,h2,h3⟩)
     .exact .inl h
     .exact .inr (.inl h)
     .by_cases hq:q=j
      .subst hq;rw[hmb]at h2;cases h2
      .exact .inr (.inr ⟨q,by omega,h2,h3⟩),s2⟩,a32⟩
   subst hy2 hy1;exact xVW h1 h2 h3 h4 cm h6 h7 h8 h9 h10 h11 h12 h13 h14 h15 h16 h17 bwy' nx u1 u2 u3 u4 b5 b0 hqb bB
  |true =>
   rw[hmb]at cm;have es':=hs' hmb;have h18:=uS a32;obtain⟨y3,hy3⟩:∃y3,y3=y2.row zGR 4:=⟨_,rfl⟩;have ny3:y3.j=y.j+2:=by rw[hy3];show y2.j+1=_;omega
   have M3:New y2 y3:=by rw[hy3];exact New.row _ _ _
   have o3:Own y3 (y.j+1) zGR 4:=by rw[hy3,<- ny2];exact zX _ _ _
   have h19:=yCZ (show Own y3 (y.j+1) (stL λ_=>yCT) 4 from o3) st;obtain⟨y4,hy4⟩:∃y4,y4=y3.own (y.j+1) (stL st) 4:=⟨_,rfl⟩;have ny4:y4.j=y.j+2:=by rw[hy4];exact ny3
   have M4:New y2 y4:=by rw[hy4];exact M3.own (by omega)
   have o4:Own y4 (y.j+1) (stL st) 4:=by rw[hy4];exact o3.put
   have h20:zJ tP y4 175 ⟨y.j,0,none⟩=some (zQN s'):=(oS2.le M4.le).rw.ldN uI xS (k:=0) (ds:=zGX s') rfl rfl (nle rfl);have h21:=xIB o4 hj6 s';obtain⟨y5,hy5⟩:∃y5,y5=y4.own (y.j+1) (stL (upd st j s')) 4:=⟨_,rfl⟩;have ny5:y5.j=y.j+2:=by rw[hy5];exact ny4
   have M5:New y2 y5:=by rw[hy5];exact M4.own (by omega)
   have o5:Own y5 (y.j+1) (stL (upd st j s')) 4:=by rw[hy5];exact o4.put
   have lo5:y5.low<=y2.low:=by rw[hy5,hy4,hy3];simp[St.own];omega
   rw[<- hy4]at h19;rw[<- hy5]at h21;have R5:=R2.new ok M5 lo5;have s5:=s2.le M5.le;have W5:=R5.w;have h22:=lg y5 W5.og;have k5:Only (zRV G pl) z.re y5:=k2.trans' M5.only (T:=λ_=>False) (λb _ h=>h.elim);have hst':∀q,q<G.K.m->StG (upd st j s' q):=λq hq=>by
    unfold upd;by_cases e1:q=j
    .subst e1;rw[if_pos rfl,es'];have hmb2:=hmb;unfold zHB at hmb2;have hu:=of_decide_eq_true (Bool.and_eq_true_iff.1 hmb2).2;exact(hst q hq).take ⟨hdt.1,hdt.2.1⟩ ⟨hdt.2.2.1,hdt.2.2.2.1⟩ (by omega) (by have:=ok.ok.sn.N;omega)
    .rw[if_neg e1];exact hst q hq
   obtain⟨p',c',y6,y7,g1,g2,g3,g4,g5,g6,g7,g8,g9,g10⟩:=yIH (x:=(j:Int)) ok ih R5 (hCj j) s5 hX (λb hb=>(hAt b hb).2) (by omega) ⟨pre,hd1,hd2⟩ hst';have n6:=g2.j;have o6:Own y6 (y.j+1) (stL (upd st j s')) 4:=g2.own' o5 (λh=>by have:=(hAt _ h).2;omega);have W6:=g8;have h24:=uS o6;have M5r:Le y5 (y5.row [iV (j:Int)] 1):=Le.row _ _ _;have h26:zL y5.j [.pointer (some ⟨G.Bg,0,none⟩)]:=(zI (zR (show G.Bg<y5.j by omega)) zM);have h27:zL (y5.row [iV (j:Int)] 1).j [.slice pl who.length lc,.slice (some ⟨y5.j,0,none⟩) 1 1]:=(zI (xH λa e=>(show a.block<y5.j+1 by have:=bw a e;omega)) (zI (xH λa e=>by cases e;show y5.j<y5.j+1;omega) zM));have h28:zL y6.j [.pointer (some ⟨y.j+1,0,none⟩)]:=(zI (zR (show y.j+1<y6.j by omega)) zM);have h29:zL y6.j [.func (.func 109) ⟨[]⟩ ⟨G.args⟩,.slice p' (who.length+1) c',.agg ⟨stL (upd st j s')⟩]:=(zI (xEH ok (by omega)) (zI (xH λa e=>g4 a.block ⟨a,e,rfl⟩) (zI (yX rfl) zM)));have h30:=(⟨⟨show G.Bg<y5.j by omega,gg⟩,h22⟩:(G.Bg<y5.j/\_)/\_);have h31:=(⟨⟨show G.Bg<(y5.row [iV (j:Int)] 1).j by show G.Bg<y5.j+1;omega,gg⟩,lg _ (W5.og.le M5r)⟩:(G.Bg<(y5.row [iV (j:Int)] 1).j/\_)/\_);have h32:=(⟨⟨show G.Bg<y6.j by omega,gg⟩,lg y6 W6.og⟩:(G.Bg<y6.j/\_)/\_);have h33:=(⟨⟨show y.j+1<y5.j by omega,rfl⟩,uS o5⟩:(y.j+1<y5.j/\zN RD (.agg ⟨stL (upd st j s')⟩)=true)/\_);have h34:=(⟨⟨show y.j+1<(y5.row [iV (j:Int)] 1).j by show y.j+1<y5.j+1;omega,rfl⟩,uS (o5.le M5r)⟩:(y.j+1<(y5.row [iV (j:Int)] 1).j/\zN RD (.agg ⟨stL (upd st j s')⟩)=true)/\_);have h35:=(⟨⟨show y.j+1<y6.j by omega,rfl⟩,h24⟩:(y.j+1<y6.j/\zN RD (.agg ⟨stL (upd st j s')⟩)=true)/\_);have nx:∃k',k' < k/\∃j':Nat,(j:Int)+1=j'/\j'+k'=G.K.m/\J j' y7:=by
    obtain⟨F7,X7,e7,o7,r7,s7⟩:=g10;have g7n:=g7.j;refine⟨k-1,by omega,j+1,by omega,by omega,eas y5 p' y6 y7 k5 (by omega) g2 g3 g7,by omega,⟨F7,X7,e7,o7,r7.iff λa v=>?_,s7⟩,(hownS y5 p' y6 y7 (by omega) g2 g3 g7 ((a32).le M5.le)).2⟩
    show(Cj j a v\/_)↔Cj (j+1) a v;have etk:yGQ G.K.w st j i=upd st j s':=by rw[es'];rfl
    constructor
    .rintro((h|h|⟨q,h1,h2⟩)|h)
     .exact .inl h
     .exact .inr (.inl h)
     .exact .inr (.inr ⟨q,by omega,h2⟩)
     .exact .inr (.inr ⟨j,by omega,hmb,by rw[etk];exact h⟩)
    .rintro(h|h|⟨q,h1,h2,h3⟩)
     .exact .inl (.inl h)
     .exact .inl (.inr (.inl h))
     .by_cases hq:q=j
      .subst hq;rw[etk]at h3;exact .inr h3
      .exact .inl (.inr (.inr ⟨q,by omega,h2,h3⟩))
   subst hy3 hy2 hy1;exact xVX h1 h2 h3 h4 cm h6 h7 h8 h9 h10 h11 h12 h13 h14 h15 h16 h17 h18 h19 h20 h21 h22 g1 h24 g6 h26 h27 h28 h29 h30 h31 h32 h33 h34 h35 bwy' nx u1 u2 u3 u4 b5 b0 hqb bB
 have l32:∀u,Row u ⟨G.K.Bp,0,none⟩ G.K.row->zJ tP u 70 (zO ⟨G.K.Bp,0,none⟩ 2)=some (.slice G.K.q G.K.m G.K.d):=λu o=>o.load1 zLW rfl
 have W1:=R1.w;have h1:=lu be W1.ou;have h2:=lq be W1.oq;have h3:zJ tP be 4 (zO ⟨G.K.Bp,0,none⟩ 6)=some (.bool G.K.leaves):=W1.w.pr.load1 zXI rfl;have u1:¬((who.length:Nat):Int)=((G.du.length:Nat):Int):=by omega
 have bg:G.Bg<z.re.j:=by show G.Bg<z.j;omega
 have k0:∀s,P0 s->zLL pl who.length lc ⟨G.Bu,0,none⟩ ⟨G.Bg,0,none⟩ ⟨G.By,0,none⟩ z.re.j G.K.m s (λv s=>Only (zRV G pl) z.re s/\(s.low<z.j\/yI RD v=false\/(v=.tuple ⟨[]⟩/\zRW G z F X e o (λc v=>C c v\/G.give (i::rest) who st c v) pl lc who sf z))/\(v=.tuple ⟨[]⟩/\zRW G z F X e o (λc v=>C c v\/G.give (i::rest) who st c v) pl lc who sf s)):=λs h=>xEE h
 cases hlv:G.K.leaves with
 |false =>
  rw[hlv]at h3;have hJ0:J 0 be:=⟨N1.only,Nat.le_refl _,⟨F,X,e,o,R1.iff λa v=>by
   show C a v↔Cj 0 a v;constructor
   .exact λh=>.inl h
   .rintro(h|⟨h,_⟩|⟨q,h,_⟩)
    .exact h
    .rw[hlv]at h;cases h
    .omega,S1⟩,oN1⟩
  have hL:=hloop be hJ0;have h4:=l32 be W1.w.pr;subst hO1;exact wDS h1 h2 h3 h4 hL k0 u1
 |true =>
  rw[hlv]at h3;obtain⟨p',c',y4,y5,g1,g2,g3,g4,g5,g6,g7,g8,g9,g10⟩:=yIH (x:=-1) ok ih R1 hC S1 hX (λb hb=>(hAt b hb).2) (by omega) ⟨pre,hd1,hd2⟩ hst;have n4:=g2.j;have n5:=g7.j;have g2':Only (AtP pl) be y4:=g2;obtain⟨o4,o5⟩:=hownS be p' y4 y5 (by omega) g2 g3 g7 oN1;have M1r:Le be (be.row [iV (-1)] 1):=Le.row _ _ _;obtain⟨F5,X5,e5,o5',r5,s5⟩:=g10;have h4:=lg be W1.og;have h6:=uS o4;have h8:zL y4.j [.pointer (some ⟨z.re.j,0,none⟩)]:=(zI (zR (show z.j<y4.j by omega)) zM);have h9:zL y4.j [.func (.func 109) ⟨[]⟩ ⟨G.args⟩,.slice p' (who.length+1) c',.agg ⟨stL st⟩]:=(zI (xEH ok (by omega)) (zI (xH λa e=>g4 a.block ⟨a,e,rfl⟩) (zI (yX rfl) zM)));have h10:=(⟨⟨show G.Bg<be.j by omega,gg⟩,h4⟩:(G.Bg<be.j/\_)/\_);have h11:=(⟨⟨show G.Bg<(be.row [iV (-1)] 1).j by show G.Bg<be.j+1;omega,gg⟩,lg _ (W1.og.le M1r)⟩:(G.Bg<(be.row [iV (-1)] 1).j/\_)/\_);have h12:=(⟨⟨show G.Bg<y4.j by omega,gg⟩,lg y4 g8.og⟩:(G.Bg<y4.j/\_)/\_);have h13:=uS oN1;have h14:=uS (oN1.le M1r);have h15:=(⟨⟨show z.j<y4.j by omega,rfl⟩,h6⟩:(z.j<y4.j/\zN RD (.agg ⟨stL st⟩)=true)/\_);have h16:=lq y5 r5.w.oq;have h17:=l32 y5 r5.w.w.pr;have hJ0:J 0 y5:=⟨eas be p' y4 y5 N1.only (by omega) g2 g3 g7,by omega,⟨F5,X5,e5,o5',r5.iff λa v=>by
   show _↔Cj 0 a v;constructor
   .rintro(h|h)
    .exact .inl h
    .exact .inr (.inl ⟨hlv,h⟩)
   .rintro(h|⟨_,h⟩|⟨q,h,_⟩)
    .exact .inl h
    .exact .inr h
    .omega,s5⟩,o5⟩
  have hL:=hloop y5 hJ0;subst hO1;exact wDT h1 h2 h3 h4 g1 h6 g6 h8 h9 h10 h11 h12 h13 h14 h15 h16 h17 bw hL k0 u1 bg
theorem wCF(ok:G.Ok)(hb:zXQ G.K G.r):∀rest:List Nat,xEU G rest
 |[]=>wCE ok hb
 |i::rest=>xUO ok hb (wCF ok hb rest)
end
section
variable{p a22 a25:Addr}{s_d n1 n2 n4 n5 n6 n7 n8 n9 n13 n16 n17 n18 n19 n27 n29 n30 n31 n32 n33 n34 n38 n39 n40 n41 n42 n43 n47 n48 n49 n50 n51 n52:Int}{s f23 f28:Nat->Std}{E E21 E24 E37 E46:St}{Q:vPa}{m3 l10 c10 l14 c14 l15 c15 l20 c20 m26 l35 c35 l44 c44 l53 c53:Nat}{q10 q14 q15 q20 q35 q44 q53:oAa}{b11 b36 b45 b54:Bool}
theorem wJQ:let Y1:=E.row [pz p] 1;let Y2:=Y1.row (iV s_d::stL s) (iV s_d::stL s).length;let Y3:=Y2.row [iV 0,iV 0,iV 0,iV 0,iV 0,iV 0,.slice none 0 0,.bool false] 8;∀(h1:LDz Y3 3 ⟨(E.j+1),0,none⟩ (iV n1)) (h2:LDz Y3 3 p (iV n2)) (nx:Q (qf [iV 0,iV 0,iV 0,iV 0,iV 0,iV 0,.slice none 0 0,.bool true]) (Y3.own (E.j+2) [iV 0,iV 0,iV 0,iV 0,iV 0,iV 0,.slice none 0 0,.bool true] 8)) (u1:n1=n2:=by omega),zQ tP 74 [pz p,qf (iV s_d::stL s)] E Q:=
 λh1 h2 nx u1=>let ch1:List Bs:=[.r [iV 0,iV 0,iV 0,iV 0,iV 0,iV 0,.slice none 0 0,.bool false] 8,.r (iV s_d::stL s) (iV s_d::stL s).length,.r [pz p] 1];let ch2:List Bs:=.o 2 [iV 0,iV 0,iV 0,iV 0,iV 0,iV 0,.slice none 0 0,.bool true] 8::ch1;eQ [.g4,.l h1,.f E ch1 0 0 zAE,.g3,.l h2,.b (wU u1),.g,.s E ch1 2 0 uN (qf [iV 0,iV 0,iV 0,iV 0,iV 0,iV 0,.slice none 0 0,.bool true]),.F E ch2 2 0 yVI uN] nx
theorem wJP:let s1:=E.row [pz p] 1;let s2:=s1.row (iV s_d::stL s) (iV s_d::stL s).length;let s3:=s2.row [iV 0,iV 0,iV 0,iV 0,iV 0,iV 0,.slice none 0 0,.bool false] 8;let s4:=s3.row [iV 0,iV 0,iV 0,iV 0,iV 0,iV 0,.slice none 0 0,.bool false] 8;let s5:=s4.own (E.j+3) [iV n4,iV n5,iV n6,iV n7,iV n8,iV n9,.slice q10 l10 c10,.bool b11] 8;let s6:=s5.own (E.j+2) [iV n4,iV n5,iV n6,iV n7,iV n8,iV n9,.slice q10 l10 c10,.bool b11] 8;let s7:=E.j+1;∀(h1:LDz s3 3 (qe s7 0) (iV n1)) (h2:LDz s3 3 p (iV n2)) (h3:LDz s3 168 (zO p 8) (.map (some m3))) (h4:LDz s3 180 (qe s7 0) (qf (iV s_d::stL s))) (h5:xJ tP (evL [.map (some m3),qf (iV s_d::stL s)]) s3 (.lookup 168 (.tmp 0) (.tmp 1) true)=some (.tuple ⟨[qf [iV n4,iV n5,iV n6,iV n7,iV n8,iV n9,.slice q10 l10 c10,.bool b11],.bool true]⟩)) (h6:zL s3.j [.map (some m3),qf (iV s_d::stL s)]) (h7:zL s4.j [pq ((E.j+3)) 0,qf [iV n4,iV n5,iV n6,iV n7,iV n8,iV n9,.slice q10 l10 c10,.bool b11]]) (h8:LDz s4 167 (qe E.j 0) (pz p)) (h9:LDz s4 168 (zO p 8) (.map (some m3))) (h10:LDz s4 180 (qe s7 0) (qf (iV s_d::stL s))) (h11:((zL s3.j [.map (some m3),qf (iV s_d::stL s)]/\zN RD (.tuple ⟨[qf [iV n4,iV n5,iV n6,iV n7,iV n8,iV n9,.slice q10 l10 c10,.bool b11],.bool true]⟩)=true)/\xJ tP (evL [.map (some m3),qf (iV s_d::stL s)]) s3 (.lookup 168 (.tmp 0) (.tmp 1) true)=some (.tuple ⟨[qf [iV n4,iV n5,iV n6,iV n7,iV n8,iV n9,.slice q10 l10 c10,.bool b11],.bool true]⟩))) (h12:((zL s4.j [.map (some m3),qf (iV s_d::stL s)]/\zN RD (.tuple ⟨[qf [iV n4,iV n5,iV n6,iV n7,iV n8,iV n9,.slice q10 l10 c10,.bool b11],.bool true]⟩)=true)/\xJ tP (evL [.map (some m3),qf (iV s_d::stL s)]) s4 (.lookup 168 (.tmp 0) (.tmp 1) true)=some (.tuple ⟨[qf [iV n4,iV n5,iV n6,iV n7,iV n8,iV n9,.slice q10 l10 c10,.bool b11],.bool true]⟩))) (nx:Q (qf [iV n4,iV n5,iV n6,iV n7,iV n8,iV n9,.slice q10 l10 c10,.bool b11]) s6) (u1:¬n1=n2:=by omega) (dF:p.block<E.j:=by omega),zQ tP 74 [pz p,qf (iV s_d::stL s)] E Q:=
 let s1:=E.row [pz p] 1;let s2:=s1.row (iV s_d::stL s) (iV s_d::stL s).length;let s3:=s2.row [iV 0,iV 0,iV 0,iV 0,iV 0,iV 0,.slice none 0 0,.bool false] 8;let s4:=s3.row [iV 0,iV 0,iV 0,iV 0,iV 0,iV 0,.slice none 0 0,.bool false] 8;let s5:=s4.own (E.j+3) [iV n4,iV n5,iV n6,iV n7,iV n8,iV n9,.slice q10 l10 c10,.bool b11] 8;let s6:=s5.own (E.j+2) [iV n4,iV n5,iV n6,iV n7,iV n8,iV n9,.slice q10 l10 c10,.bool b11] 8;let s7:=E.j+1;λh1 h2 h3 h4 h5 h6 h7 h8 h9 h10 h11 h12 nx u1 dF=>let ch1:List Bs:=[.r [iV 0,iV 0,iV 0,iV 0,iV 0,iV 0,.slice none 0 0,.bool false] 8,.r (iV s_d::stL s) (iV s_d::stL s).length,.r [pz p] 1];let ch2:List Bs:=.r [iV 0,iV 0,iV 0,iV 0,iV 0,iV 0,.slice none 0 0,.bool false] 8::ch1;let ch3:List Bs:=.o 3 [iV n4,iV n5,iV n6,iV n7,iV n8,iV n9,.slice q10 l10 c10,.bool b11] 8::ch2;eQ [.g4,.l h1,.f E ch1 0 0 zAE,.g3,.l h2,.b (wG u1),.f E ch1 0 0 zAE,.g2,.l h3,.l h4,.v h5,.g4,.s E ch2 3 0 uN (qf [iV n4,iV n5,iV n6,iV n7,iV n8,iV n9,.slice q10 l10 c10,.bool b11]),.g2,.q E ch1 0 0,.p ((zI (zR (vQ dF 3)) zM):zL s3.j [pz (zO p 8)]),.q E ch1 1 0,.p h6,.p h7,.u E ch1 0 0 zAE,.p (⟨⟨(nlt E.j 0 4 rfl),rfl⟩,h8⟩:(zLq s4 167 (qe E.j 0) (pz p))),.p (⟨⟨(vQ dF 3),rfl⟩,h3⟩:(zLq s3 168 (zO p 8) (.map (some m3)))),.p (⟨⟨(vQ dF 4),rfl⟩,h9⟩:(zLq s4 168 (zO p 8) (.map (some m3)))),.p (⟨⟨(nlt E.j 1 3 rfl),rfl⟩,h4⟩:(zLq s3 180 (qe s7 0) (qf (iV s_d::stL s)))),.p (⟨⟨(nlt E.j 1 4 rfl),rfl⟩,h10⟩:(zLq s4 180 (qe s7 0) (qf (iV s_d::stL s)))),.p h11,.p h12,.F E ch3 3 0 yVI uN,.e (((zX _ _ _).row.own (nne E.j 2 3 rfl)).store (vs:=[iV n4,iV n5,iV n6,iV n7,iV n8,iV n9,.slice q10 l10 c10,.bool b11]) rfl uN rfl (nle rfl) rfl:yN tP (evL [pq ((E.j+2)) 0,qf [iV n4,iV n5,iV n6,iV n7,iV n8,iV n9,.slice q10 l10 c10,.bool b11]]) s5 (.store 172 (.tmp 0) (.tmp 1))=some (undef,s6)),.l (((zX _ _ _).row.own (nne E.j 2 3 rfl)).put.rw.ldN yVI uN (k:=0) rfl rfl (nle rfl):zJ tP s6 172 ⟨(E.j+2),0,none⟩=some (qf [iV n4,iV n5,iV n6,iV n7,iV n8,iV n9,.slice q10 l10 c10,.bool b11]))] nx
theorem wJO:let s1:=E.row [pz p] 1;let s2:=s1.row (iV s_d::stL s) (iV s_d::stL s).length;let s3:=s2.row [iV 0,iV 0,iV 0,iV 0,iV 0,iV 0,.slice none 0 0,.bool false] 8;let s4:=s3.row [iV 0,iV 0,iV 0,iV 0,iV 0,iV 0,.slice none 0 0,.bool false] 8;let s5:=s4.own (E.j+3) [iV n4,iV n5,iV n6,iV n7,iV n8,iV n9,.slice q10 l10 c10,.bool b11] 8;let s6:=E.j+1;let Y1:=E21.row [.slice none 0 0] 1;let Y2:=Y1.own E21.j [.slice q20 l20 c20] 1;∀(h1:LDz s3 3 (qe s6 0) (iV n1)) (h2:LDz s3 3 p (iV n2)) (h3:LDz s3 168 (zO p 8) (.map (some m3))) (h4:LDz s3 180 (qe s6 0) (qf (iV s_d::stL s))) (h5:xJ tP (evL [.map (some m3),qf (iV s_d::stL s)]) s3 (.lookup 168 (.tmp 0) (.tmp 1) true)=some (.tuple ⟨[qf [iV n4,iV n5,iV n6,iV n7,iV n8,iV n9,.slice q10 l10 c10,.bool b11],.bool false]⟩)) (h6:zL s3.j [.map (some m3),qf (iV s_d::stL s)]) (h7:zL s4.j [pq ((E.j+3)) 0,qf [iV n4,iV n5,iV n6,iV n7,iV n8,iV n9,.slice q10 l10 c10,.bool b11]]) (h8:LDz s4 167 (qe E.j 0) (pz p)) (h9:LDz s4 168 (zO p 8) (.map (some m3))) (h10:LDz s4 180 (qe s6 0) (qf (iV s_d::stL s))) (h11:((zL s3.j [.map (some m3),qf (iV s_d::stL s)]/\zN RD (.tuple ⟨[qf [iV n4,iV n5,iV n6,iV n7,iV n8,iV n9,.slice q10 l10 c10,.bool b11],.bool false]⟩)=true)/\xJ tP (evL [.map (some m3),qf (iV s_d::stL s)]) s3 (.lookup 168 (.tmp 0) (.tmp 1) true)=some (.tuple ⟨[qf [iV n4,iV n5,iV n6,iV n7,iV n8,iV n9,.slice q10 l10 c10,.bool b11],.bool false]⟩))) (h12:((zL s4.j [.map (some m3),qf (iV s_d::stL s)]/\zN RD (.tuple ⟨[qf [iV n4,iV n5,iV n6,iV n7,iV n8,iV n9,.slice q10 l10 c10,.bool b11],.bool false]⟩)=true)/\xJ tP (evL [.map (some m3),qf (iV s_d::stL s)]) s4 (.lookup 168 (.tmp 0) (.tmp 1) true)=some (.tuple ⟨[qf [iV n4,iV n5,iV n6,iV n7,iV n8,iV n9,.slice q10 l10 c10,.bool b11],.bool false]⟩))) (h13:LDz s5 72 p (qf (wkc n13 q14 l14 c14 q15 l15 c15 n16 n17 n18))) (h14:LDz s5 3 (qe s6 0) (iV n19)) (h15:CAz 76 [qf (wkc n13 q14 l14 c14 q15 l15 c15 n16 n17 n18),iV n19] s5 (.slice q20 l20 c20) E21) (h16:zL s5.j [qf (wkc n13 q14 l14 c14 q15 l15 c15 n16 n17 n18),iV n19]) (h17:zL Y1.j [pq E21.j 0,.slice q20 l20 c20]) (h18:(zLq E21 167 (qe E.j 0) (pz p))) (h19:(zLq Y1 167 (qe E.j 0) (pz p))) (h20:(zLq E21 72 p (qf (wkc n13 q14 l14 c14 q15 l15 c15 n16 n17 n18)))) (h21:(zLq Y1 72 p (qf (wkc n13 q14 l14 c14 q15 l15 c15 n16 n17 n18)))) (h22:(zLq E21 3 (qe s6 0) (iV n19))) (h23:(zLq Y1 3 (qe s6 0) (iV n19))) (h24:LDz Y2 167 (qe E.j 0) (pz a22)) (h25:LDz (((((Y2.row [.nilFunc] 1).own (E21.j+1) [.func (.func 108) ⟨[pz a22]⟩ ⟨[]⟩] 1).row [iV 0,iV 0,iV 0,iV 0,iV 0,iV 0,.slice none 0 0,.bool false] 8).row [.nilFunc] 1).own (E21.j+3) [.func (.func 109) ⟨[]⟩ ⟨[pq E21.j 0,pq E.j 0,pq s6 0,pq ((E21.j+2)) 0,pq ((E21.j+3)) 0,pq ((E21.j+1)) 0]⟩] 1) 177 (qe s6 1) (qf (stL f23))) (h26:CAz 109 [.slice none 0 0,qf (stL f23),pq E21.j 0,pq E.j 0,pq s6 0,pq ((E21.j+2)) 0,pq ((E21.j+3)) 0,pq ((E21.j+1)) 0] (((((Y2.row [.nilFunc] 1).own (E21.j+1) [.func (.func 108) ⟨[pz a22]⟩ ⟨[]⟩] 1).row [iV 0,iV 0,iV 0,iV 0,iV 0,iV 0,.slice none 0 0,.bool false] 8).row [.nilFunc] 1).own (E21.j+3) [.func (.func 109) ⟨[]⟩ ⟨[pq E21.j 0,pq E.j 0,pq s6 0,pq ((E21.j+2)) 0,pq ((E21.j+3)) 0,pq ((E21.j+1)) 0]⟩] 1) (.tuple ⟨[]⟩) E24) (h27:LDz E24 167 (qe E.j 0) (pz a25)) (h28:LDz E24 168 (zO a25 8) (.map (some m26))) (h29:LDz E24 180 (qe s6 0) (qf (iV n27::stL f28))) (h30:LDz E24 172 ⟨(E21.j+2),0,none⟩ (qf [iV n29,iV n30,iV n31,iV n32,iV n33,iV n34,.slice q35 l35 c35,.bool b36])) (h31:yN tP (evL [.map (some m26),qf (iV n27::stL f28),qf [iV n29,iV n30,iV n31,iV n32,iV n33,iV n34,.slice q35 l35 c35,.bool b36]]) E24 (.mapUpdate 168 (.tmp 0) (.tmp 1) (.tmp 2))=some (undef,E37)) (h32:LDz E37 172 ⟨(E21.j+2),0,none⟩ (qf [iV n38,iV n39,iV n40,iV n41,iV n42,iV n43,.slice q44 l44 c44,.bool b45])) (h33:SOz E37 172 ⟨(E.j+2),0,none⟩ (qf [iV n38,iV n39,iV n40,iV n41,iV n42,iV n43,.slice q44 l44 c44,.bool b45]) E46) (h34:LDz E46 172 ⟨(E.j+2),0,none⟩ (qf [iV n47,iV n48,iV n49,iV n50,iV n51,iV n52,.slice q53 l53 c53,.bool b54])) (nx:Q (qf [iV n47,iV n48,iV n49,iV n50,iV n51,iV n52,.slice q53 l53 c53,.bool b54]) E46) (u1:¬n1=n2:=by omega) (dF:p.block<E.j:=by omega),zQ tP 74 [pz p,qf (iV s_d::stL s)] E Q:=
 let s1:=E.row [pz p] 1;let s2:=s1.row (iV s_d::stL s) (iV s_d::stL s).length;let s3:=s2.row [iV 0,iV 0,iV 0,iV 0,iV 0,iV 0,.slice none 0 0,.bool false] 8;let s4:=s3.row [iV 0,iV 0,iV 0,iV 0,iV 0,iV 0,.slice none 0 0,.bool false] 8;let s5:=s4.own (E.j+3) [iV n4,iV n5,iV n6,iV n7,iV n8,iV n9,.slice q10 l10 c10,.bool b11] 8;let s6:=E.j+1;λh1 h2 h3 h4 h5 h6 h7 h8 h9 h10 h11 h12 h13 h14 h15 h16 h17 h18 h19 h20 h21 h22 h23 h24 h25 h26 h27 h28 h29 h30 h31 h32 h33 h34 nx u1 dF=>let ch1:List Bs:=[.r [iV 0,iV 0,iV 0,iV 0,iV 0,iV 0,.slice none 0 0,.bool false] 8,.r (iV s_d::stL s) (iV s_d::stL s).length,.r [pz p] 1];let ch2:List Bs:=.r [iV 0,iV 0,iV 0,iV 0,iV 0,iV 0,.slice none 0 0,.bool false] 8::ch1;let ch3:List Bs:=[.r [.slice none 0 0] 1];let ch4:List Bs:=.o 3 [iV n4,iV n5,iV n6,iV n7,iV n8,iV n9,.slice q10 l10 c10,.bool b11] 8::ch2;let ch5:List Bs:=.r [.nilFunc] 1::.o 0 [.slice q20 l20 c20] 1::ch3;let ch6:List Bs:=.r [.nilFunc] 1::.r [iV 0,iV 0,iV 0,iV 0,iV 0,iV 0,.slice none 0 0,.bool false] 8::.o 1 [.func (.func 108) ⟨[pz a22]⟩ ⟨[]⟩] 1::ch5;let ch7:List Bs:=.o 3 [.func (.func 109) ⟨[]⟩ ⟨[pq E21.j 0,pq E.j 0,pq s6 0,pq ((E21.j+2)) 0,pq ((E21.j+3)) 0,pq ((E21.j+1)) 0]⟩] 1::ch6;eQ [.g4,.l h1,.f E ch1 0 0 zAE,.g3,.l h2,.b (wG u1),.f E ch1 0 0 zAE,.g2,.l h3,.l h4,.v h5,.g4,.s E ch2 3 0 uN (qf [iV n4,iV n5,iV n6,iV n7,iV n8,iV n9,.slice q10 l10 c10,.bool b11]),.g2,.q E ch1 0 0,.p ((zI (zR (vQ dF 3)) zM):zL s3.j [pz (zO p 8)]),.q E ch1 1 0,.p h6,.p h7,.u E ch1 0 0 zAE,.p (⟨⟨(nlt E.j 0 4 rfl),rfl⟩,h8⟩:(zLq s4 167 (qe E.j 0) (pz p))),.p (⟨⟨(vQ dF 3),rfl⟩,h3⟩:(zLq s3 168 (zO p 8) (.map (some m3)))),.p (⟨⟨(vQ dF 4),rfl⟩,h9⟩:(zLq s4 168 (zO p 8) (.map (some m3)))),.p (⟨⟨(nlt E.j 1 3 rfl),rfl⟩,h4⟩:(zLq s3 180 (qe s6 0) (qf (iV s_d::stL s)))),.p (⟨⟨(nlt E.j 1 4 rfl),rfl⟩,h10⟩:(zLq s4 180 (qe s6 0) (qf (iV s_d::stL s)))),.p h11,.p h12,.l (((zX _ _ _).row.row.row.own (nne E.j 0 3 rfl)).rw.ld zAE (k:=0) rfl:zJ tP s5 167 (qe E.j 0)=some (pz p)),.g2,.l h13,.g,.l h14,.c h15,.g,.s E21 ch3 0 0 ySR (.slice q20 l20 c20),.q E ch4 0 0,.p ((zI (zR (vQ dF 4)) zM):zL s5.j [pz p]),.q E ch4 1 0,.p h16,.p h17,.p h18,.p h19,.p h20,.p h21,.p h22,.p h23,.l h24,.g2,.s E21 ch5 1 0 wGP (.func (.func 108) ⟨[pz a22]⟩ ⟨[]⟩),.g3,.s E21 ch6 3 0 wGO (.func (.func 109) ⟨[]⟩ ⟨[pq E21.j 0,pq E.j 0,pq s6 0,pq ((E21.j+2)) 0,pq ((E21.j+3)) 0,pq ((E21.j+1)) 0]⟩),.f E21 ch7 3 0 wEQ,.g,.l h25,.c h26,.l h27,.g2,.l h28,.l h29,.l h30,.e h31,.l h32,.e h33,.l h34] nx
end
section
variable{K:PlK}{z:St}{F:Key->Option EndR}{X:Nat->Prop}
def zIQ(K:PlK)(r D:Nat)(st:Nat->Std)(z:St)(F:Key->Option EndR)(X:Nat->Prop)(v:Value)(s:St):Prop:=∃e o F' X',v=zEE e/\PlW K s F' X'/\EndP s X' e o/\wN 6 (K.ch r D st) o/\(∀b,X b->X' b)/\(∀b,X' b->X b\/z.j<=b)/\(s.low<=K.bm\/(F'=F/\X'=X))
theorem zIQ.low{r D:Nat}{st:Nat->Std}{v:Value}{s:St}{m:Nat}(hm:m<=s.low)(h:zIQ K r D st z F X v s):zIQ K r D st z F X v ⟨s.heap,s.j,m⟩:=by
 obtain⟨e,o,F',X',h1,h2,h3,h4,h5,h6,h7⟩:=h;have k:Le s ⟨s.heap,s.j,m⟩:=⟨Nat.le_refl _,λ_ _=>rfl⟩;refine⟨e,o,F',X',h1,h2.le k,h3.le k,h4,h5,h6, ?_⟩
 rcases h7 with h|h
 .exact .inl (Nat.le_trans hm h)
 .exact .inr h
theorem xOY{b n:Nat}(h:b<n):yQ RD n (.map (some b))=true:=by
 show Nat.blt b n=true;exact(xY _ _).2 h
theorem xOX(r:Nat)(h:∀(z:St) (F:Key->Option EndR) (X:Nat->Prop) (D:Nat) (st:Nat->Std),D+r=K.n->PlW K z F X->(∀k,k<K.m->StG (st k))->zQ tP 74 [.pointer (some ⟨K.Bp,0,none⟩),.agg ⟨iV (D:Int)::stL st⟩] z.re λv s=>Only (·=K.bm) z.re s/\(s.low<z.j\/yI RD v=false\/zIQ K r D st z F X v z)/\zIQ K r D st z F X v s):zXQ K r:=by
 intro z F X D st hr W hst;obtain⟨v,s,h1,h2,e,o,F',X',rfl,h3⟩:=wHS (h z F X D st hr W hst) (λv s m hm q=>q.low hm);exact⟨s,e,o,F',X',h1,h2,h3⟩
theorem xVT(ok:K.Ok):zXQ K 0:=by
 refine xOX 0 λz F X D st hr W hst=>?_
 have zr:z.re.j=z.j:=rfl;obtain⟨be,hO1⟩:∃be,be=((z.re.row [.pointer (some ⟨K.Bp,0,none⟩)] 1).row (iV (D:Int)::stL st) (iV (D:Int)::stL st:List Value).length).row [iV 0,iV 0,iV 0,iV 0,iV 0,iV 0,.slice none 0 0,.bool false] 8:=⟨_,rfl⟩;have N1:New z.re be:=by rw[hO1];exact((New.row _ _ _).row').row'
 have o1:Own be (z.j+1) (iV (D:Int)::stL st) (iV (D:Int)::stL st:List Value).length:=by rw[hO1];exact(zX _ _ _).row
 have h1:zJ tP be 3 ⟨z.re.j+1,0,none⟩=some (iV (D:Int)):=o1.ld (k:=0) rfl zU rfl;have h2:zJ tP be 3 ⟨K.Bp,0,none⟩=some (iV K.w.J):=(W.pr.le ((le0 z).trans N1.le)).ld zU rfl;obtain⟨V2,hO2⟩:∃V2,V2=be.own (z.re.j+2) (zGC ⟨zEM,none,0,0,true⟩) 8:=⟨_,rfl⟩;have N2:New z.re V2:=by rw[hO2];exact N1.own (by omega)
 have L2:Le z V2:=(le0 z).trans N2.le;have eo:∀s,EndP s X ⟨zEM,none,0,0,true⟩ (some ([],zEM)):=λs=>⟨rfl,(λx hx=>by simp[zEM]at hx;omega),(λb hb=>by obtain⟨a,e,_⟩:=hb;cases e),rfl,rfl,⟨SlP.nil _ _,rfl,λv hv=>by cases hv⟩⟩
 have hb:wN 6 (K.ch 0 D st) (some ([],zEM)):=⟨⟨rfl,rfl⟩,rfl⟩;have key:∀s,Le z s->zIQ K 0 D st z F X (zEE ⟨zEM,none,0,0,true⟩) s:=λs hs=>⟨_,_,F,X,rfl,W.le hs,eo s,hb,λ_ h=>h,λ_ h=>.inl h,.inr ⟨rfl,rfl⟩⟩
 have nx:Only (·=K.bm) z.re V2/\(V2.low<z.j\/yI RD (zEE ⟨zEM,none,0,0,true⟩)=false\/zIQ K 0 D st z F X (zEE ⟨zEM,none,0,0,true⟩) z)/\zIQ K 0 D st z F X (zEE ⟨zEM,none,0,0,true⟩) V2:=⟨N2.only,.inr (.inr (key z (Le.refl _))),key V2 L2⟩;have u1:(D:Int)=K.w.J:=by have:=ok.dn;omega
 subst hO2 hO1;exact wJQ h1 h2 nx u1
theorem xVU(ok:K.Ok){r:Nat}(ih:zXQ K r):zXQ K (r+1):=by
 refine xOX (r+1) λz F X D st hr W hst=>?_
 have zr:z.re.j=z.j:=rfl;have hbp:=W.pr.lt;have hbp:K.Bp<z.j:=hbp;have hbm:K.bm<z.j:=W.mp.1;have hln:=ok.wk.len;have hn7:=ok.n7;obtain⟨be,hO1⟩:∃be,be=z.re.row [.pointer (some ⟨K.Bp,0,none⟩)] 1:=⟨_,rfl⟩;have n1:be.j=z.j+1:=by rw[hO1];rfl
 have M1:New z.re be:=by rw[hO1];exact New.row _ _ _
 have q1:Own be z.j [.pointer (some ⟨K.Bp,0,none⟩)] 1:=by rw[hO1];exact zX z.re _ _
 obtain⟨V2,hO2⟩:∃V2,V2=be.row (iV (D:Int)::stL st) (iV (D:Int)::stL st:List Value).length:=⟨_,rfl⟩;have n2:V2.j=z.j+2:=by rw[hO2];show be.j+1=_;omega
 have M2:New z.re V2:=by rw[hO2];exact M1.row'
 have o2:Own V2 (z.j+1) (iV (D:Int)::stL st) (iV (D:Int)::stL st:List Value).length:=by rw[hO2,<- n1];exact zX _ _ _
 have q2:Own V2 z.j [.pointer (some ⟨K.Bp,0,none⟩)] 1:=by rw[hO2];exact q1.row
 obtain⟨E3,hO3⟩:∃E3,E3=V2.row [iV 0,iV 0,iV 0,iV 0,iV 0,iV 0,.slice none 0 0,.bool false] 8:=⟨_,rfl⟩;have n3:E3.j=z.j+3:=by rw[hO3];show V2.j+1=_;omega
 have M3:New z.re E3:=by rw[hO3];exact M2.row'
 have r3:Own E3 (z.j+2) [iV 0,iV 0,iV 0,iV 0,iV 0,iV 0,.slice none 0 0,.bool false] 8:=by rw[hO3,<- n2];exact zX _ _ _
 have o3:Own E3 (z.j+1) (iV (D:Int)::stL st) (iV (D:Int)::stL st:List Value).length:=by rw[hO3];exact o2.row
 have q3:Own E3 z.j [.pointer (some ⟨K.Bp,0,none⟩)] 1:=by rw[hO3];exact q2.row
 obtain⟨E4,hO4⟩:∃E4,E4=E3.row [iV 0,iV 0,iV 0,iV 0,iV 0,iV 0,.slice none 0 0,.bool false] 8:=⟨_,rfl⟩;have n4:E4.j=z.j+4:=by rw[hO4];show E3.j+1=_;omega
 have M4:New z.re E4:=by rw[hO4];exact M3.row'
 have l4:Own E4 (z.j+3) [iV 0,iV 0,iV 0,iV 0,iV 0,iV 0,.slice none 0 0,.bool false] 8:=by rw[hO4,<- n3];exact zX _ _ _
 have o4:Own E4 (z.j+1) (iV (D:Int)::stL st) (iV (D:Int)::stL st:List Value).length:=by rw[hO4];exact o3.row
 have q4:Own E4 z.j [.pointer (some ⟨K.Bp,0,none⟩)] 1:=by rw[hO4];exact q3.row
 have L:∀{s},New z.re s->Le z s:=λh=>(le0 z).trans h.le
 have ldD:∀s,Own s (z.j+1) (iV (D:Int)::stL st) (iV (D:Int)::stL st:List Value).length->zJ tP s 3 ⟨z.j+1,0,none⟩=some (iV (D:Int)):=λs o=>o.ld (k:=0) rfl zU rfl
 have lds:∀s,Own s (z.j+1) (iV (D:Int)::stL st) (iV (D:Int)::stL st:List Value).length->zJ tP s 180 ⟨z.j+1,0,none⟩=some (.agg ⟨iV (D:Int)::stL st⟩):=λs o=>o.rw.ldN wOF wGR (k:=0) rfl rfl (nle rfl)
 have ldn:∀s,Row s ⟨K.Bp,0,none⟩ K.row->zJ tP s 3 ⟨K.Bp,0,none⟩=some (iV K.w.J):=λs o=>o.ld zU rfl
 have ldm:∀s,Row s ⟨K.Bp,0,none⟩ K.row->zJ tP s 168 (zO ⟨K.Bp,0,none⟩ 8)=some (.map (some K.bm)):=λs o=>o.load1 wOG rfl
 have ldq:∀s,Own s z.j [.pointer (some ⟨K.Bp,0,none⟩)] 1->zJ tP s 167 ⟨z.j,0,none⟩=some (.pointer (some ⟨K.Bp,0,none⟩)):=λs o=>o.ld (k:=0) rfl zAE rfl
 have h1:=ldD E3 o3;have h2:=ldn E3 (W.pr.le (L M3));have h3:=ldm E3 (W.pr.le (L M3));have h4:=lds E3 o3;have h6:zL E3.j [.map (some K.bm),.agg ⟨iV (D:Int)::stL st⟩]:=(zI (xOY (by omega)) (zI (yX rfl) zM));have h6':zL E4.j [.map (some K.bm),.agg ⟨iV (D:Int)::stL st⟩]:=(zI (xOY (by omega)) (zI (yX rfl) zM));have h8:=ldq E4 q4;have h9:=ldm E4 (W.pr.le (L M4));have h10:=lds E4 o4;have u1:¬(D:Int)=K.w.J:=by have:=ok.dn;omega
 have bp:K.Bp<z.re.j:=hbp;have mp3:=W.mp.le (L M3);have mp4:=W.mp.le (L M4);have zt:uO tP 172=some (.agg ⟨[iV 0,iV 0,iV 0,iV 0,iV 0,iV 0,.slice none 0 0,.bool false]⟩):=by kernel_rfl
 cases hF:F (zOE (D:Int) st)with
 |some e =>
  obtain⟨o,eo,bo⟩:=W.kn D st e hF (r+1) hr;have h5:=mp3.look1 zFR wAU zt hF;have h5':=mp4.look1 zFR wAU zt hF;rw[yTX]at h5 h5';have h7:zL E4.j [.pointer (some ⟨z.j+3,0,none⟩),zEE e]:=(zI (zR (show z.j+3<E4.j by omega)) (zI (zPB λa h=>(show a.block<E4.j by have:=(W.xb a.block (eo.bl a.block ⟨a,h,rfl⟩)).1;omega)) zM));have h11:((zL E3.j [.map (some K.bm),.agg ⟨iV (D:Int)::stL st⟩]/\zN RD (.tuple ⟨[zEE e,.bool true]⟩)=true)/\_):=⟨⟨h6,rfl⟩,h5⟩;have h12:((zL E4.j [.map (some K.bm),.agg ⟨iV (D:Int)::stL st⟩]/\zN RD (.tuple ⟨[zEE e,.bool true]⟩)=true)/\_):=⟨⟨h6',rfl⟩,h5'⟩;obtain⟨U5,hO5⟩:∃U5,U5=(E4.own (z.re.j+3) (zGC e) 8).own (z.re.j+2) (zGC e) 8:=⟨_,rfl⟩;have M5:New z.re U5:=by rw[hO5];exact(M4.own (by omega)).own (by omega)
  have key:∀s,Le z s->zIQ K (r+1) D st z F X (zEE e) s:=λs hs=>⟨e,o,F,X,rfl,W.le hs,eo.le hs,bo,λ_ h=>h,λ_ h=>.inl h,.inr ⟨rfl,rfl⟩⟩
  have nx:Only (·=K.bm) z.re U5/\(U5.low<z.j\/yI RD (zEE e)=false\/zIQ K (r+1) D st z F X (zEE e) z)/\zIQ K (r+1) D st z F X (zEE e) U5:=⟨M5.only,.inr (.inr (key z (Le.refl _))),key U5 (L M5)⟩;subst hO5 hO4 hO3 hO2 hO1;exact wJP h1 h2 h3 h4 h5 h6 h7 h8 h9 h10 h11 h12 nx u1 bp
 |none =>
  have h5:=mp3.look0 zFR wAU zt hF;have h5':=mp4.look0 zFR wAU zt hF;rw[yTX]at h5 h5';have h7:zL E4.j [.pointer (some ⟨z.j+3,0,none⟩),.agg ⟨[iV 0,iV 0,iV 0,iV 0,iV 0,iV 0,.slice none 0 0,.bool false]⟩]:=(zI (zR (show z.j+3<E4.j by omega)) (zI (yX rfl) zM));have h11:((zL E3.j [.map (some K.bm),.agg ⟨iV (D:Int)::stL st⟩]/\zN RD (.tuple ⟨[.agg ⟨[iV 0,iV 0,iV 0,iV 0,iV 0,iV 0,.slice none 0 0,.bool false]⟩,.bool false]⟩)=true)/\_):=⟨⟨h6,rfl⟩,h5⟩;have h12:((zL E4.j [.map (some K.bm),.agg ⟨iV (D:Int)::stL st⟩]/\zN RD (.tuple ⟨[.agg ⟨[iV 0,iV 0,iV 0,iV 0,iV 0,iV 0,.slice none 0 0,.bool false]⟩,.bool false]⟩)=true)/\_):=⟨⟨h6',rfl⟩,h5'⟩;obtain⟨U5,hO5⟩:∃U5,U5=E4.own (z.re.j+3) [iV 0,iV 0,iV 0,iV 0,iV 0,iV 0,.slice none 0 0,.bool false] 8:=⟨_,rfl⟩;have n5:U5.j=z.j+4:=by rw[hO5];exact n4
  have M5:New z.re U5:=by rw[hO5];exact M4.own (by omega)
  have k5:Only (·=z.j+3) E4 U5:=by rw[hO5];exact Only.own (.inr rfl)
  have q5:=k5.own' q4 (show ¬z.j=z.j+3 by omega);have o5:=k5.own' o4 (show ¬z.j+1=z.j+3 by omega);have r5:=k5.own' (show Own E4 (z.j+2) [iV 0,iV 0,iV 0,iV 0,iV 0,iV 0,.slice none 0 0,.bool false] 8 by rw[hO4];exact r3.row) (show ¬z.j+2=z.j+3 by omega);have ldw:∀s,Row s ⟨K.Bp,0,none⟩ K.row->zJ tP s 72 ⟨K.Bp,0,none⟩=some (.agg ⟨[iV K.w.J,.slice K.p K.l K.c,.slice K.q K.m K.d,iV K.w.rest,iV K.w.run,iV K.w.N]⟩):=λs o=>o.ldN zAD vB (k:=0) rfl rfl (nle rfl)
  have W5:=W.le (L M5);have h13:=ldw U5 W5.pr;have h14:=ldD U5 o5;obtain⟨p6,c6,E6,c15,M6,I6',f6⟩:=xDE (E:=U5) (D:=D) (c:=K.c) (d:=K.d) (ok.wk.le W5.fl) (by have:=ok.sn.l12;omega);have n6:=M6.nx;have wk5:=ok.wk.le W5.fl;have pab:∀a,K.p=some a->a.block<U5.j:=xW wk5.dty;have qab:∀a,K.q=some a->a.block<U5.j:=by obtain⟨vs,g,_⟩:=wk5.drv;exact xW g
  have h16:zL U5.j [.agg ⟨[iV K.w.J,.slice K.p K.l K.c,.slice K.q K.m K.d,iV K.w.rest,iV K.w.run,iV K.w.N]⟩,iV (D:Int)]:=(zI (xVZ pab qab) (zI rfl zM));obtain⟨E7,hO7⟩:∃E7,E7=E6.row [.slice none 0 0] 1:=⟨_,rfl⟩;have n7:E7.j=E6.j+1:=by rw[hO7];rfl
  have M7:New E6 E7:=by rw[hO7];exact New.row _ _ _
  have h17:zL E7.j [.pointer (some ⟨E6.j,0,none⟩),.slice p6 (yS K.w D K.l).length c6]:=(zI (zR (show E6.j<E7.j by omega)) (zI (xH λa h=>(show a.block<E7.j by have:=I6'.lt a.block ⟨a,h,rfl⟩;omega)) zM));have q6:=q5.le M6.le;have q7:=q6.le M7.le;have o6:=o5.le M6.le;have o7:=o6.le M7.le;have W6:=W5.le M6.le;have W7:=W6.le M7.le;have h18:=(⟨⟨show z.j<E6.j by omega,rfl⟩,ldq E6 q6⟩:(z.j<E6.j/\zN RD (.pointer (some ⟨K.Bp,0,none⟩))=true)/\_);have h19:=(⟨⟨show z.j<E7.j by omega,rfl⟩,ldq E7 q7⟩:(z.j<E7.j/\zN RD (.pointer (some ⟨K.Bp,0,none⟩))=true)/\_);have h20:=(⟨⟨show K.Bp<E6.j by omega,rfl⟩,ldw E6 W6.pr⟩:(K.Bp<E6.j/\zN RD (.agg ⟨[iV K.w.J,.slice K.p K.l K.c,.slice K.q K.m K.d,iV K.w.rest,iV K.w.run,iV K.w.N]⟩)=true)/\_);have h21:=(⟨⟨show K.Bp<E7.j by omega,rfl⟩,ldw E7 W7.pr⟩:(K.Bp<E7.j/\zN RD (.agg ⟨[iV K.w.J,.slice K.p K.l K.c,.slice K.q K.m K.d,iV K.w.rest,iV K.w.run,iV K.w.N]⟩)=true)/\_);have h22:=(⟨⟨show z.j+1<E6.j by omega,rfl⟩,ldD E6 o6⟩:(z.j+1<E6.j/\zN RD (iV (D:Int))=true)/\_);have h23:=(⟨⟨show z.j+1<E7.j by omega,rfl⟩,ldD E7 o7⟩:(z.j+1<E7.j/\zN RD (iV (D:Int))=true)/\_);let G:GvK:=⟨K,D,r,st,p6,c6,E6.j,z.j,z.j+1,E6.j+2,E6.j+3,E6.j+1,E6.j+4⟩;obtain⟨U8,hO8⟩:∃U8,U8=E7.own E6.j [.slice p6 (yS K.w D K.l).length c6] 1:=⟨_,rfl⟩;have n8:U8.j=E6.j+1:=by rw[hO8];exact n7
  have M8:New E6 U8:=by rw[hO8];exact M7.own (Nat.le_refl _)
  have u8:Own U8 E6.j [.slice p6 (yS K.w D K.l).length c6] 1:=by rw[hO8,hO7];exact(zX _ _ _).put
  have h24:=ldq U8 (q6.le M8.le);obtain⟨O9,hO9⟩:∃O9,O9=(U8.row [.nilFunc] 1).own (E6.j+1) [.func (.func 108) ⟨[.pointer (some ⟨K.Bp,0,none⟩)]⟩ ⟨[]⟩] 1:=⟨_,rfl⟩;have n9:O9.j=E6.j+2:=by rw[hO9];show U8.j+1=_;omega
  have M9:New E6 O9:=by rw[hO9];exact M8.row'.own (by omega)
  have y9:Own O9 (E6.j+1) [.func (.func 108) ⟨[.pointer (some ⟨K.Bp,0,none⟩)]⟩ ⟨[]⟩] 1:=by rw[hO9,<- n8];exact(zX _ _ _).put
  have u9:Own O9 E6.j [.slice p6 (yS K.w D K.l).length c6] 1:=by rw[hO9];exact u8.row.own (by omega)
  obtain⟨Oa,hOa⟩:∃Oa,Oa=(O9.row [iV 0,iV 0,iV 0,iV 0,iV 0,iV 0,.slice none 0 0,.bool false] 8).row [.nilFunc] 1:=⟨_,rfl⟩;have na:Oa.j=E6.j+4:=by rw[hOa];show O9.j+1+1=_;omega
  have Ma:New E6 Oa:=by rw[hOa];exact M9.row'.row'
  obtain⟨Ob,hOb⟩:∃Ob,Ob=Oa.own (E6.j+3) [.func (.func 109) ⟨[]⟩ ⟨G.args⟩] 1:=⟨_,rfl⟩;have nb:Ob.j=E6.j+4:=by rw[hOb];exact na
  have Mb:New E6 Ob:=by rw[hOb];exact Ma.own (by omega)
  have gb:Own Ob (E6.j+3) [.func (.func 109) ⟨[]⟩ ⟨G.args⟩] 1:=by
   rw[hOb,hOa,show E6.j+3=(O9.row [iV 0,iV 0,iV 0,iV 0,iV 0,iV 0,.slice none 0 0,.bool false] 8).j by show _=O9.j+1;omega];exact(zX _ _ _).put
  have eb:Own Ob (E6.j+2) [iV 0,iV 0,iV 0,iV 0,iV 0,iV 0,.slice none 0 0,.bool false] 8:=by
   rw[hOb,hOa];refine Own.own ?_ (by omega);rw[<- n9];exact(zX _ _ _).row
  have yb:Own Ob (E6.j+1) [.func (.func 108) ⟨[.pointer (some ⟨K.Bp,0,none⟩)]⟩ ⟨[]⟩] 1:=by rw[hOb,hOa];exact y9.row.row.own (by omega)
  have ub:Own Ob E6.j [.slice p6 (yS K.w D K.l).length c6] 1:=by rw[hOb,hOa];exact u9.row.row.own (by omega)
  have ob:=o6.le Mb.le;have qb:=q6.le Mb.le;have Wb:=W6.le Mb.le;have Ib:yM Ob p6 (yS K.w D K.l).length (zSW (yS K.w D K.l)):=SlV.le I6' Mb.le;have okG:G.Ok:=⟨ok,by show D+(r+1)=K.n;exact hr,by show K.Ef.j<=E6.j+2;have:=W.fl.j;omega,by show K.Ef.j<=E6.j+4;have:=W.fl.j;omega,⟨by show E6.j<E6.j+4;omega,by show z.j<E6.j+4;omega,by show z.j+1<E6.j+4;omega,by show E6.j+2<E6.j+4;omega,by show E6.j+3<E6.j+4;omega,by show E6.j+1<E6.j+4;omega,by show K.Bp<E6.j+4;omega,by show K.bm<E6.j+4;omega⟩,⟨by show E6.j+2≠E6.j;omega,by show E6.j+2≠z.j;omega,by show E6.j+2≠z.j+1;omega,by show E6.j+2≠E6.j+3;omega,by show E6.j+2≠E6.j+1;omega,by show E6.j+2≠K.Bp;omega,by show E6.j+2≠K.bm;omega⟩,⟨by show K.bm≠E6.j;omega,by show K.bm≠z.j;omega,by show K.bm≠z.j+1;omega,by show K.bm≠E6.j+3;omega,by show K.bm≠E6.j+1;omega⟩⟩;have hx6:∀b,AtP p6 b->U5.j<=b/\b<E6.j:=λb hb=>⟨f6 b hb,I6'.lt b hb⟩
  have Wg:PlW K Ob F (λb=>X b\/AtP p6 b):=Wb.mono (λb h=>.inl h) (λb h=>by
   rcases h with h|h
   .exact Wb.xb b h
   .have:=hx6 b h;exact⟨by omega,by omega⟩)
  have GW:GvW G Ob F (λb=>X b\/AtP p6 b) ⟨zEM,none,0,0,false⟩:=⟨Wg,ub.rw,Ib,λb h=>.inr h,qb.rw,ob.rw,gb.rw,yb.rw,eb,λb h=>by
   show b≠E6.j+2;rcases h with h|h
   .have:=(W.xb b h).1;omega
   .have:=hx6 b h;omega,by show E6.j+4<=Ob.j;omega⟩
  have e0:EndP Ob (λb=>X b\/AtP p6 b) ⟨zEM,none,0,0,false⟩ none:=⟨rfl,(λx hx=>by simp[zEM]at hx;omega),(λb hb=>by obtain⟨a,e,_⟩:=hb;cases e),rfl⟩;obtain⟨Oc,c26,kc,F',X',e',o',R,_⟩:=wCF okG ih G.du (who:=[]) (pl:=none) (lc:=0) (sf:=[]) (st:=st) (C:=λ_ _=>False) (o:=none) GW e0 (λ_ _ h=>h) (λ_ _ h=>h.elim) Stk.nil (λb hb=>by obtain⟨a,e,_⟩:=hb;cases e) ⟨[],rfl,rfl⟩ hst;have nc:=kc.j;have noS:∀b,b≠K.bm->b≠E6.j+2->¬zRV G none b:=λb h1 h2 h=>by
   rcases h with h|h|⟨a,h,_⟩
   .exact h1 h
   .exact h2 h
   .cases h
  have bo':wN 6 (K.ch (r+1) D st) o':=R.bo.iff λa v=>by
   show(False\/zZM K.w K.leaves K.wf r D (yS K.w D K.l) [] st a v)↔Ch K.w K.leaves K.wf (r+1) D st a v;rw[wKF,hln.1];simp
  have qc:Own Oc z.j [.pointer (some ⟨K.Bp,0,none⟩)] 1:=kc.own' qb (noS _ (by omega) (by omega));have oc:=kc.own' ob (noS _ (by omega) (by omega));have rc':=kc.own' ((r5.le M6.le).le Mb.le) (noS _ (by omega) (by omega));have h25:zJ tP Ob 177 ⟨z.j+1,1,none⟩=some (.agg ⟨stL st⟩):=ob.rw.ldN wER yST (k:=1) (ds:=stL st) rfl rfl (by simp[stL]);have h27:=ldq Oc qc;have h28:=ldm Oc R.w.w.pr;have h29:=lds Oc oc;have lde:∀s b,Own s b (zGC e') 8->zJ tP s 172 ⟨b,0,none⟩=some (zEE e'):=λs b o=>o.rw.ldN yVI uN (k:=0) rfl rfl (nle rfl)
  have h30:=lde Oc (E6.j+2) R.w.oo;obtain⟨Od,h31,kd,lod,lod',Wd⟩:=R.w.w.set ok hr R.ep bo';have nd:=kd.j;have ed:Own Od (E6.j+2) (zGC e') 8:=kd.own' R.w.oo (show ¬E6.j+2=K.bm by omega);have h32:=lde Od (E6.j+2) ed;have rd:=kd.own' rc' (show ¬z.j+2=K.bm by omega);have h33:=rd.store (P:=tP) (k:=0) (t:=172) (v:=zEE e') (vs:=zGC e') (ds:=zGC e') rfl uN rfl (nle rfl) rfl;obtain⟨Oe,hOe⟩:∃Oe,Oe=Od.own (z.j+2) (zGC e') 8:=⟨_,rfl⟩;have re:Own Oe (z.j+2) (zGC e') 8:=by rw[hOe];exact rd.put
  have ke:Only (·=z.j+2) Od Oe:=by rw[hOe];exact Only.own (.inr rfl)
  have loe:Oe.low<=Od.low:=by rw[hOe];simp[St.own];omega
  rw[<- hOe]at h33;have h34:=lde Oe (z.j+2) re;have hxd:∀b,X' b->b≠z.j+2:=λb hb h=>by
   rcases R.x2 b hb with g|g
   .rcases g with g|g
    .have:=(W.xb b g).1;omega
    .have:=hx6 b g;omega
   .omega
  have We:=Wd.only ke (λb h=>by have:=W.fl.j;omega) (show ¬K.Bp=z.j+2 by omega) (show ¬K.bm=z.j+2 by omega) hxd;have Ee:EndP Oe X' e' o':=(R.ep.only kd (λb hb=>(R.w.w.xb b hb).2)).only ke hxd;have kAll:Only (·=K.bm) z.re Oe:=((((M5.only.trans' M6.only (T:=λ_=>False) (λb _ h=>h.elim)).trans' Mb.only (T:=λ_=>False) (λb _ h=>h.elim)).trans' kc (λb _ h=>by
   rcases h with h|h|⟨a,h,_⟩
   .exact .inl h
   .exact .inr (by have h:b=E6.j+2:=h;omega)
   .cases h)).trans' kd (λb _ h=>.inl h)).trans' ke (λb _ h=>.inr (by omega))
  have nx:Only (·=K.bm) z.re Oe/\(Oe.low<z.j\/yI RD (zEE e')=false\/zIQ K (r+1) D st z F X (zEE e') z)/\zIQ K (r+1) D st z F X (zEE e') Oe:=⟨kAll,.inl (by omega),e',o',_,X',rfl,We,Ee,bo',λb hb=>R.x1 b (.inl hb),λb hb=>by
   rcases R.x2 b hb with (g|g)|g
   .exact .inl g
   .exact .inr (by have:=hx6 b g;omega)
   .exact .inr (by omega),.inl (by omega)⟩
  subst hOb hOa hO9 hO8 hO7 hO5 hO4 hO3 hO2 hO1;exact wJO h1 h2 h3 h4 h5 h6 h7 h8 h9 h10 h11 h12 h13 h14 c15 h16 h17 h18 h19 h20 h21 h22 h23 h24 h25 c26 h27 h28 h29 h30 h31 h32 h33 h34 nx u1 bp
theorem wDR(ok:K.Ok):∀r,zXQ K r
 |0=>xVT ok
 |r+1=>xVU ok (wDR ok r)
end
section
noncomputable section
variable(BA BB BC:Nat)(aP bx bf:Int)(q1:Bool->St->Prop)(fZ:Bool)(q2:St->Prop)(q0:Int->St->Prop)(E:St)(Nx:Int->St->Prop)(Q:vPa)(Qr:Bool->St->Prop)(Q2 Q0:St->Prop)
def xPE:Code:=(Code.part [1,0,1,0,0] (zV tP 7))
def zXK:lNa:=[(1,pq BA 0),(3,iV aP)]
def wFI:Alt:=⟨Int,.normal,λt=>zXK BA t,λt=>[],λt E=>q0 t E⟩
def yPW(BA:Nat)(fZ:Bool):lNa:=[(2,.bool fZ)]
def zZK:Alt:=⟨Bool,.ret,λt=>yPW BA t,λt=>[],λt E=>q1 t E⟩
def yPX:lNa:=[(1,pq BA 0)]
def zZL:Alt:=⟨Unit,(.exit 0),λt=>yPX BA,λt=>[],λt E=>q2 E⟩
def zLR:Prop:=yT tP (zZ tP) none xPE 47 (zXK BA aP) [] [wFI BA Nx,zZK BA Qr,zZL BA Q0] E
def xPF:Prop:=yW tP (zZ tP) none xPE 47 (zXK BA aP) [] [zZK BA Qr,zZL BA Q0] E
def yPY:Prop:=kZ (zZ tP) (zV tP 7) [1,0,1,0] (kFn tP 7 Q) .ret 47 (yPW BA fZ) E
def zQM:Prop:=kZ (zZ tP) (zV tP 7) [1,0,1,0] (kFn tP 7 Q) (.exit 0) 47 (yPX BA) E
def xPB:Code:=(Code.part [1,1,0,1,0,0] (zV tP 18))
def yDI:lNa:=[(1,pq BA 0),(2,pq BB 0),(3,pq BC 0),(4,iV bf)]
def wFB:Alt:=⟨Int,.normal,λt=>yDI BA BB BC t,λt=>[],λt E=>q0 t E⟩
def yPT:lNa:=[(1,pq BA 0),(2,pq BB 0),(3,pq BC 0)]
def zZJ:Alt:=⟨Unit,(.exit 0),λt=>yPT BA BB BC,λt=>[],λt E=>q2 E⟩
def yVM:Prop:=yT tP (zZ tP) none xPB 82 (yDI BA BB BC bf) [] [wFB BA BB BC Nx,zZJ BA BB BC Q0] E
def xPD:Prop:=yW tP (zZ tP) none xPB 82 (yDI BA BB BC bf) [] [zZJ BA BB BC Q0] E
def yPV:Prop:=kZ (zZ tP) (zV tP 18) [1,1,0,1,0] (kFn tP 18 Q) (.exit 0) 82 (yPT BA BB BC) E
def xPA:Code:=(Code.part [1,1,1,0,1,0,0] (zV tP 18))
def zXJ:lNa:=[(1,pq BA 0),(2,pq BB 0),(3,pq BC 0),(6,iV bx)]
def wFA:Alt:=⟨Int,.normal,λt=>zXJ BA BB BC t,λt=>[],λt E=>q0 t E⟩
def yPS(BA BB BC:Nat):lNa:=[(2,pq BB 0),(3,pq BC 0)]
def zZI:Alt:=⟨Unit,(.exit 2),λt=>yPS BA BB BC,λt=>[],λt E=>q2 E⟩
def yDJ:Prop:=yT tP (zZ tP) none xPA 82 (zXJ BA BB BC bx) [] [wFA BA BB BC Nx,zZI BA BB BC Q2] E
def xPC:Prop:=yW tP (zZ tP) none xPA 82 (zXJ BA BB BC bx) [] [zZI BA BB BC Q2] E
def yPU:Prop:=kZ (zZ tP) (zV tP 18) [1,1,1,0,1,0] (kFn tP 18 Q) (.exit 2) 82 (yPS BA BB BC) E
end
variable{BA lA cA lE cD lK cF lU cN ae af aa ac lW cP lT cL BB BC lM cH lCB cT lI cI lB cB lG cC lH cE lY cR lMB cCB lGB cY lNB cDB lDB cU lOB cEB lBJ cBD lBX cBQ lBY cBR lBZ cBS lBa cBT:Nat}{Inv:Nat->Int->St->Prop}{Qr Pr:Bool->St->Prop}{Q0 P0 Q2 P2:St->Prop}{aP nF nB nC ak ao au aj bf nJ nD nE bx nK nL nM nIB nJB nKB nB3 nB4 nB5 nB6 nB7 nB8 nB9 nCA:Int}{dU eS:Addr}{qC qG qN qA ah ag qO qM qI qU qB qD qE qQ qJB qBB qKB qW qLB qBD qH qBR qBS qBT qBU:oAa}{E EE EB EH EK EF EUB EBJ EVB:St}{Nx:Int->St->Prop}{Q:vPa}{fZ:Bool}
theorem xMQ(hb:∀k aP E,Inv k aP E->zLR BA aP E (NX1 Inv k) Qr Q0):∀k aP E,Inv k aP E->xPF BA aP E Qr Q0 :=
 xE (ai wX (ai (wF 0) trivial)) hb
theorem wFH:let y0:=yH qC lE cD qG lK cF qN lU cN nF nB nC;∀(h1:LDz E 29 (qe BA 2) (.slice (some dU) lA cA)) (h2:LDz E 83 (zO dU (Int.toNat aP*6)) (qf y0)) (nx:Qr false ((E.row (yH none 0 0 none 0 0 none 0 0 0 0 0) 6).own E.j y0 6)) (u1:aP<(lA:Int):=by omega) (u2:aP<10:=by omega) (u3:Ix aP lA:=by omega) (u4:20<(lE:Int):=by omega),zLR BA aP E Nx Qr Q0 :=
 let y0:=yH qC lE cD qG lK cF qN lU cN nF nB nC;λh1 h2 nx u1 u2 u3 u4=>let ch1:List Bs:=[.r (yH none 0 0 none 0 0 none 0 0 0 0 0) 6];let ch2:List Bs:=.o 0 y0 6::ch1;eO 1 false [.g2,.l h1,.g,.b (zT u1),.g2,.b (zT u2),.g2,.l h1,.g,.i u3,.l h2,.g,.s E ch1 0 0 zBW (qf y0),.g,.f E ch2 0 0 xF,.g,.b (zT u4),.g5] nx
theorem wFG:let y0:=yH qC lE cD qG lK cF qN lU cN nF nB nC;∀(h1:LDz E 29 (qe BA 2) (.slice (some dU) lA cA)) (h2:LDz E 83 (zO dU (Int.toNat aP*6)) (qf y0)) (nx:Qr false ((E.row (yH none 0 0 none 0 0 none 0 0 0 0 0) 6).own E.j y0 6)) (u1:aP<(lA:Int):=by omega) (u2:aP<10:=by omega) (u3:Ix aP lA:=by omega) (u4:¬20<(lE:Int):=by omega) (u5:20<(lK:Int):=by omega),zLR BA aP E Nx Qr Q0 :=
 let y0:=yH qC lE cD qG lK cF qN lU cN nF nB nC;λh1 h2 nx u1 u2 u3 u4 u5=>let ch1:List Bs:=[.r (yH none 0 0 none 0 0 none 0 0 0 0 0) 6];let ch2:List Bs:=.o 0 y0 6::ch1;eO 1 false [.g2,.l h1,.g,.b (zT u1),.g2,.b (zT u2),.g2,.l h1,.g,.i u3,.l h2,.g,.s E ch1 0 0 zBW (qf y0),.g,.f E ch2 0 0 xF,.g,.b (zY u4),.g2,.f E ch2 0 1 xF,.g,.b (zT u5),.g4] nx
theorem wFF:let y0:=yH qC lE cD qG lK cF qN lU cN nF nB nC;∀(h1:LDz E 29 (qe BA 2) (.slice (some dU) lA cA)) (h2:LDz E 83 (zO dU (Int.toNat aP*6)) (qf y0)) (nx:Qr false ((E.row (yH none 0 0 none 0 0 none 0 0 0 0 0) 6).own E.j y0 6)) (u1:aP<(lA:Int):=by omega) (u2:aP<10:=by omega) (u3:Ix aP lA:=by omega) (u4:¬20<(lE:Int):=by omega) (u5:¬20<(lK:Int):=by omega) (u6:20<(lU:Int):=by omega),zLR BA aP E Nx Qr Q0 :=
 let y0:=yH qC lE cD qG lK cF qN lU cN nF nB nC;λh1 h2 nx u1 u2 u3 u4 u5 u6=>let ch1:List Bs:=[.r (yH none 0 0 none 0 0 none 0 0 0 0 0) 6];let ch2:List Bs:=.o 0 y0 6::ch1;eO 1 false [.g2,.l h1,.g,.b (zT u1),.g2,.b (zT u2),.g2,.l h1,.g,.i u3,.l h2,.g,.s E ch1 0 0 zBW (qf y0),.g,.f E ch2 0 0 xF,.g,.b (zY u4),.g2,.f E ch2 0 1 xF,.g,.b (zY u5),.g3,.f E ch2 0 2 xF,.g,.b (zT u6),.g2] nx
theorem wFE:let y0:=yH qC lE cD qG lK cF qN lU cN nF nB nC;∀(h1:LDz E 29 (qe BA 2) (.slice (some dU) lA cA)) (h2:LDz E 83 (zO dU (Int.toNat aP*6)) (qf y0)) (nx:Nx (aP+1) ((E.row (yH none 0 0 none 0 0 none 0 0 0 0 0) 6).own E.j y0 6)) (u1:aP<(lA:Int):=by omega) (u2:aP<10:=by omega) (u3:Ix aP lA:=by omega) (u4:¬20<(lE:Int):=by omega) (u5:¬20<(lK:Int):=by omega) (u6:¬20<(lU:Int):=by omega) (u7:I6 (aP+1):=by omega),zLR BA aP E Nx Qr Q0 :=
 let y0:=yH qC lE cD qG lK cF qN lU cN nF nB nC;λh1 h2 nx u1 u2 u3 u4 u5 u6 u7=>let ch1:List Bs:=[.r (yH none 0 0 none 0 0 none 0 0 0 0 0) 6];let ch2:List Bs:=.o 0 y0 6::ch1;eO 0 (aP+1) [.g2,.l h1,.g,.b (zT u1),.g2,.b (zT u2),.g2,.l h1,.g,.i u3,.l h2,.g,.s E ch1 0 0 zBW (qf y0),.g,.f E ch2 0 0 xF,.g,.b (zY u4),.g2,.f E ch2 0 1 xF,.g,.b (zY u5),.g3,.f E ch2 0 2 xF,.g,.b (zY u6),.g2,.w u7,.g] nx
theorem wFD(h1:LDz E 29 (qe BA 2) (.slice qA lA cA))(nx:Q0 E)(u1:aP<(lA:Int):=by omega)(u2:¬aP<10:=by omega):zLR BA aP E Nx Qr Q0 :=
 eO 2 () [.g2,.l h1,.g,.b (zT u1),.g2,.b (zY u2),.g] nx
theorem wFC(h1:LDz E 29 (qe BA 2) (.slice qA lA cA))(nx:Q0 E)(u1:¬aP<(lA:Int):=by omega):zLR BA aP E Nx Qr Q0 :=
 eO 2 () [.g2,.l h1,.g,.b (zY u1),.g2] nx
theorem wKC:let y0:=wkc ak ah ae af ag aa ac ao au aj;∀(hL:xPF E.j 0 (E.row y0 6) Pr P0) (kr:∀t2_1' E',Pr t2_1' E'->yPY E.j t2_1' E' Q) (k0:∀E',P0 E'->zQM E.j E' Q),zQ tP 7 [qf y0] E Q :=
 λhL kr k0=>eQ [.g3,.k (.lf 47 (zXK E.j 0) [zZK E.j Pr,zZL E.j P0])] (ai (ai tt (ai (arf (zXK E.j 0)) hL)) (ai (kz1 kr) (ai (kz0 k0) trivial)))
theorem xMM(nx:Q (.bool fZ) E):yPY BA fZ E Q :=
 eK [] nx
theorem xMP(h1:LDz E 28 (qe BA 1) (.slice qO lW cP))(h2:LDz E 29 (qe BA 2) (.slice qM lT cL))(nx:Q (.bool true) E)(u1:(lW:Int)<=15:=by omega)(u2:(lT:Int)<=9:=by omega):zQM BA E Q :=
 eK [.g,.l h1,.g,.b (xV u1),.g2,.l h2,.g,.b (xV u2),.g2] nx
theorem xMO(h1:LDz E 28 (qe BA 1) (.slice qO lW cP))(h2:LDz E 29 (qe BA 2) (.slice qM lT cL))(nx:Q (.bool false) E)(u1:(lW:Int)<=15:=by omega)(u2:¬(lT:Int)<=9:=by omega):zQM BA E Q :=
 eK [.g,.l h1,.g,.b (xV u1),.g2,.l h2,.g,.b (xX u2),.g2] nx
theorem xMN(h1:LDz E 28 (qe BA 1) (.slice qO lW cP))(nx:Q (.bool false) E)(u1:¬(lW:Int)<=15:=by omega):zQM BA E Q :=
 eK [.g,.l h1,.g,.b (xX u1),.g3] nx
theorem xML(hb:∀k bf E,Inv k bf E->yVM BA BB BC bf E (NX1 Inv k) Q0):∀k bf E,Inv k bf E->xPD BA BB BC bf E Q0 :=
 xE (ai (wF 0) trivial) hb
theorem wEY:let y0:=zP nJ nD nE nF nB;let y1:=(E.row (zP 0 0 0 0 0) 5).own E.j y0 5;∀(h1:LDz E 28 (qe BA 1) (.slice (some dU) lA cA)) (h2:LDz E 62 (zO dU (Int.toNat bf*5)) (qf y0)) (h3:LDz y1 69 (qe BC 1) (.slice qI lM cH)) (h4:APz 69 69 (.slice qI lM cH) (.slice (some ⟨(E.j+1),0,none⟩) 1 1) (y1.row y0 5) (.slice qU lCB cT) EE) (h5:SOz EE 69 (qe BC 1) (.slice qU lCB cT) EB) (nx:Nx (bf+1) EB) (u1:bf<(lA:Int):=by omega) (u2:Ix bf lA:=by omega) (u3:I6 (bf+1):=by omega),yVM BA BB BC bf E Nx Q0 :=
 let y0:=zP nJ nD nE nF nB;λh1 h2 h3 h4 h5 nx u1 u2 u3=>let ch1:List Bs:=[.r (zP 0 0 0 0 0) 5];let ch2:List Bs:=.o 0 y0 5::ch1;eO 0 (bf+1) [.g2,.l h1,.g,.b (zT u1),.g,.l h1,.g,.i u2,.l h2,.g,.s E ch1 0 0 zSQ (qf y0),.g,.l h3,.g,.f E ch2 0 0 zU,.g,.f E ch2 0 1 zU,.g2,.f E ch2 0 2 zU,.g2,.f E ch2 0 3 zU,.g2,.f E ch2 0 4 zU,.g2,.e h4,.g,.e h5,.g,.w u3,.g] nx
theorem wEX(h1:LDz E 28 (qe BA 1) (.slice qA lA cA))(nx:Q0 E)(u1:¬bf<(lA:Int):=by omega):yVM BA BB BC bf E Nx Q0 :=
 eO 1 () [.g2,.l h1,.g,.b (zY u1)] nx
theorem wKB:let y0:=wkc 0 none 0 0 none 0 0 0 0 0;let y1:=wkc ak ah ae af ag aa ac ao au aj;∀(hL:xPD E.j (E.j+1) (E.j+2) 0 ((((E.row y1 6).row y0 6).row y0 6).own (E.j+2) (wkc ak none 0 0 none 0 0 ao au aj) 6) P0) (k0:∀E',P0 E'->yPV E.j (E.j+1) (E.j+2) E' Q),zQ tP 18 [qf y1] E Q :=
 let s1:=yDI E.j (E.j+1) (E.j+2) 0;let y0:=wkc 0 none 0 0 none 0 0 0 0 0;let y1:=wkc ak ah ae af ag aa ac ao au aj;λhL k0=>let ch1:List Bs:=[.r y0 6,.r y1 6];let ch2:List Bs:=.r y0 6::ch1;eQ [.g3,.f E ch1 0 0 zU,.g,.f E ch1 0 3 zU,.g,.f E ch1 0 4 zU,.g,.f E ch1 0 5 zU,.g2,.s E ch2 2 0 vB (qf (wkc ak none 0 0 none 0 0 ao au aj)),.g,.k (.lf 82 s1 [zZJ E.j (E.j+1) (E.j+2) P0])] (ai (ai tt (ai (arf s1) hL)) (ai (kz0 k0) trivial))
theorem xMK(hb:∀k bx E,Inv k bx E->yDJ BA BB BC bx E (NX1 Inv k) Q2):∀k bx E,Inv k bx E->xPC BA BB BC bx E Q2 :=
 xE (ai (wF 2) trivial) hb
theorem wEW:let s1:=E.row (yH none 0 0 none 0 0 none 0 0 0 0 0) 6;let s2:=s1.own E.j (yH qB lB cB qD lG cC qE lH cE nK nL nM) 6;let Y1:=EF.row (yH qJB lMB cCB qKB lNB cDB qLB lOB cEB nIB nJB nKB) 6;∀(h1:LDz E 29 (qe BA 2) (.slice (some eS) lI cI)) (h2:LDz E 83 (zO eS (Int.toNat bx*6)) (qf (yH qB lB cB qD lG cC qE lH cE nK nL nM))) (h3:LDz s2 70 (qe BC 2) (.slice qQ lY cR)) (h4:CAz 45 [.slice qB lB cB] s2 (.slice qJB lMB cCB) EH) (h5:LDz EH 48 (qe E.j 1) (.slice qBB lGB cY)) (h6:CAz 45 [.slice qBB lGB cY] EH (.slice qKB lNB cDB) EK) (h7:LDz EK 48 (qe E.j 2) (.slice qW lDB cU)) (h8:CAz 45 [.slice qW lDB cU] EK (.slice qLB lOB cEB) EF) (h9:LDz EF 3 (qe E.j 3) (iV nIB)) (h10:LDz EF 3 (qe E.j 4) (iV nJB)) (h11:LDz EF 3 (qe E.j 5) (iV nKB)) (h12:APz 70 70 (.slice qQ lY cR) (.slice (some (qe EF.j 0)) 1 1) Y1 (.slice qBD lBJ cBD) EUB) (h13:SOz EUB 70 (qe BC 2) (.slice qBD lBJ cBD) EBJ) (h14:zL EH.j [pq E.j 1]) (h15:zL EH.j [.slice qBB lGB cY]) (h16:zL EK.j [pq E.j 2]) (h17:zL EK.j [.slice qW lDB cU]) (h18:zL EF.j [pq E.j 3]) (h19:zL EF.j [pq E.j 4]) (h20:zL EF.j [pq E.j 5]) (h21:zL EF.j [qf (yH qJB lMB cCB qKB lNB cDB qLB lOB cEB nIB nJB nKB)]) (h22:zL Y1.j [.slice qQ lY cR,.slice (some (qe EF.j 0)) 1 1]) (h23:zL EUB.j [pq BC 2,.slice qBD lBJ cBD]) (h24:(zLq EH 70 (qe BC 2) (.slice qQ lY cR))) (h25:(zLq EK 70 (qe BC 2) (.slice qQ lY cR))) (h26:(zLq EF 70 (qe BC 2) (.slice qQ lY cR))) (h27:(zLq Y1 70 (qe BC 2) (.slice qQ lY cR))) (h28:LDz s2 48 (qe E.j 1) (.slice qBB lGB cY)) (h29:(zLq EH 48 (qe E.j 1) (.slice qBB lGB cY))) (h30:LDz s2 48 (qe E.j 2) (.slice qW lDB cU)) (h31:(zLq EH 48 (qe E.j 2) (.slice qW lDB cU))) (h32:(zLq EK 48 (qe E.j 2) (.slice qW lDB cU))) (h33:LDz s2 3 (qe E.j 3) (iV nIB)) (h34:(zLq EH 3 (qe E.j 3) (iV nIB))) (h35:(zLq EK 3 (qe E.j 3) (iV nIB))) (h36:(zLq EF 3 (qe E.j 3) (iV nIB))) (h37:LDz s2 3 (qe E.j 4) (iV nJB)) (h38:(zLq EH 3 (qe E.j 4) (iV nJB))) (h39:(zLq EK 3 (qe E.j 4) (iV nJB))) (h40:(zLq EF 3 (qe E.j 4) (iV nJB))) (h41:LDz s2 3 (qe E.j 5) (iV nKB)) (h42:(zLq EH 3 (qe E.j 5) (iV nKB))) (h43:(zLq EK 3 (qe E.j 5) (iV nKB))) (h44:(zLq EF 3 (qe E.j 5) (iV nKB))) (b_qB:∀a,qB=some a->a.block<E.j) (nx:Nx (bx+1) EBJ) (u1:bx<(lI:Int):=by omega) (u2:Ix bx lI:=by omega) (u3:I6 (bx+1):=by omega) (b_BC:BC<E.j:=by omega),yDJ BA BB BC bx E Nx Q2:=
 let s1:=E.row (yH none 0 0 none 0 0 none 0 0 0 0 0) 6;let s2:=s1.own E.j (yH qB lB cB qD lG cC qE lH cE nK nL nM) 6;λh1 h2 h3 h4 h5 h6 h7 h8 h9 h10 h11 h12 h13 h14 h15 h16 h17 h18 h19 h20 h21 h22 h23 h24 h25 h26 h27 h28 h29 h30 h31 h32 h33 h34 h35 h36 h37 h38 h39 h40 h41 h42 h43 h44 b_qB nx u1 u2 u3 b_BC=>let ch1:List Bs:=[.r (yH none 0 0 none 0 0 none 0 0 0 0 0) 6];let ch2:List Bs:=.o 0 (yH qB lB cB qD lG cC qE lH cE nK nL nM) 6::ch1;eO 0 (bx+1) [.g2,.l h1,.g,.b (zT u1),.g,.l h1,.g,.i u2,.l h2,.g,.s E ch1 0 0 zBW (qf (yH qB lB cB qD lG cC qE lH cE nK nL nM)),.g,.l h3,.g,.f E ch2 0 0 xF,.c h4,.g,.l h5,.c h6,.g,.l h7,.c h8,.g,.l h9,.g,.l h10,.g,.l h11,.g2,.e h12,.g,.e h13,.g,.p ((zI (zR (vQ b_BC 1)) zM):zL s2.j [pq BC 2]),.q E ch2 0 0,.p ((zI (zFY b_qB 1) zM):zL s2.j [.slice qB lB cB]),.p h14,.p h15,.p h16,.p h17,.p h18,.p h19,.p h20,.p h21,.p h22,.p h23,.p (⟨⟨(vQ b_BC 1),rfl⟩,h3⟩:(zLq s2 70 (qe BC 2) (.slice qQ lY cR))),.p h24,.p h24,.p h25,.p h25,.p h26,.p h26,.p h27,.p (⟨⟨(nlt E.j 0 1 rfl),rfl⟩,h28⟩:(zLq s2 48 (qe E.j 1) (.slice qBB lGB cY))),.p h29,.p (⟨⟨(nlt E.j 0 1 rfl),rfl⟩,h30⟩:(zLq s2 48 (qe E.j 2) (.slice qW lDB cU))),.p h31,.p h31,.p h32,.p (⟨⟨(nlt E.j 0 1 rfl),rfl⟩,h33⟩:(zLq s2 3 (qe E.j 3) (iV nIB))),.p h34,.p h34,.p h35,.p h35,.p h36,.p (⟨⟨(nlt E.j 0 1 rfl),rfl⟩,h37⟩:(zLq s2 3 (qe E.j 4) (iV nJB))),.p h38,.p h38,.p h39,.p h39,.p h40,.p (⟨⟨(nlt E.j 0 1 rfl),rfl⟩,h41⟩:(zLq s2 3 (qe E.j 5) (iV nKB))),.p h42,.p h42,.p h43,.p h43,.p h44,.w u3,.g] nx
theorem wEV(h1:LDz E 29 (qe BA 2) (.slice qH lI cI))(nx:Q2 E)(u1:¬bx<(lI:Int):=by omega):yDJ BA BB BC bx E Nx Q2 :=
 eO 1 () [.g2,.l h1,.g,.b (zY u1)] nx
theorem xMJ(hL:xPC BA BB BC 0 E P2)(k2:∀E',P2 E'->yPU BA BB BC E' Q):yPV BA BB BC E Q :=
 eK [.g,.k (.lf 82 (zXJ BA BB BC 0) [zZI BA BB BC P2])] (ai (ai tt (ai (arf (zXJ BA BB BC 0)) hL)) (ai (kz0 k2) trivial))
theorem xMI:let y0:=qf (wkc nB3 qBR lBX cBQ qBS lBY cBR nB4 nB5 nB6);let y1:=qf (wkc nB7 qBT lBZ cBS qBU lBa cBT nB8 nB9 nCA);∀(h1:LDz E 72 (qe BC 0) y0) (h2:SOz E 72 (qe BB 0) y0 EVB) (h3:LDz EVB 72 (qe BB 0) y1) (nx:Q y1 EVB),yPU BA BB BC E Q :=
 λh1 h2 h3 nx=>eK [.l h1,.e h2,.l h3] nx
end
section
variable{E:St}{w:Wk}{p q r t:Option Addr}{l m c d rl rc tl tc:Nat}{rs ts:List Int}
theorem xBD{i j:Nat}{k:Int}(hi:i<rs.length):yU (rs.set i k) j=if j=i then k else yU rs j:=by
 unfold yU;rw[List.getD_eq_getElem?_getD,List.getD_eq_getElem?_getD,List.getElem?_set];by_cases e:i=j
 .subst e;rw[if_pos rfl,if_pos hi,if_pos rfl];rfl
 .rw[if_neg e,if_neg (Ne.symm e)]
def zRG(x:Drv):Bool:=decide (x.qa.length<=20)&&(decide (x.qb.length<=20)&&decide (x.qc.length<=20))
def zRH(w:Wk):Bool:=(w.M.take 10).all zRG&&(decide (w.L.length<=15)&&decide (w.M.length<=9))
theorem xIA(h:zRH w=true):zCE w/\w.L.length<=15/\w.M.length<=9:=by
 unfold zRH at h;rw[Bool.and_eq_true,Bool.and_eq_true,decide_eq_true_eq,decide_eq_true_eq]at h;obtain⟨h1,h2,h3⟩:=h;refine⟨λx hx=>?_,h2,h3⟩
 rw[List.take_of_length_le (by omega)]at h1;have:=List.all_eq_true.1 h1 x hx;unfold zRG at this;rw[Bool.and_eq_true,Bool.and_eq_true,decide_eq_true_eq,decide_eq_true_eq,decide_eq_true_eq]at this;omega
theorem wOO(h:WkP E 62 83 w p l q m):zW tP 7 [.agg ⟨wkc w.J p l c q m d w.rest w.run w.N⟩] E (.bool (zRH w)) E:=by
 have hln:=h.len.1;have hm:=h.len.2;obtain⟨E1,hE1⟩:∃E1,E1=E.re.row (wkc w.J p l c q m d w.rest w.run w.N) 6:=⟨_,rfl⟩;have N1:New E.re E1:=by rw[hE1];exact New.row _ _ _
 have L1:Le E E1:=(le0 E).trans N1.le;have hk0:=wB E.re (wkc w.J p l c q m d w.rest w.run w.N) 6;rw[<- hE1]at hk0;have lD:∀{O},New E1 O->zJ tP O 28 ⟨E.re.j,1,none⟩=some (.slice p l c):=λhN=>(hk0.le hN.le).ld zGB rfl
 have lV:∀{O},New E1 O->zJ tP O 29 ⟨E.re.j,2,none⟩=some (.slice q m d):=λhN=>(hk0.le hN.le).ld zGA rfl
 refine(wKC (xMQ (Inv:=λk i O=>New E1 O/\∃j:Nat,i=j/\j+k=m/\j<=10/\(w.M.take j).all zRG=true) (Qr:=λb O=>New E1 O/\b=false/\zRH w=false) (Q0:=λO=>New E1 O/\(w.M.take 10).all zRG=true) ?_ m 0 _ ⟨by rw[<- hE1];exact New.refl _,0,rfl,by omega,by omega,rfl⟩) ?_ ?_).pure
 .rintro k i O ⟨hN,j,rfl,hk,hj10,ha⟩;by_cases hj:j<m;rotate_left
  .refine wFC (lV hN) ⟨hN, ?_⟩;rw[List.take_of_length_le (by omega)]at ha ⊢;exact ha
  by_cases h10:j<10;rotate_left
  .have:j=10:=by omega
   subst this;exact wFD (lV hN) ⟨hN,ha⟩
  obtain⟨a,rfl,p',l',c',r',n',d',s',j',e',ld,hkn,hlv,hws,_⟩:=(h.le (L1.trans hN.le)).vld wLE zBW hj;have e1:=hkn.len;have e2:=hlv.len;have e3:=hws.len;have N2:New O ((O.row (yH none 0 0 none 0 0 none 0 0 0 0 0) 6).own O.j (yH p' l' c' r' n' d' s' j' e' (drQ w j).off (drQ w j).row (drQ w j).used) 6):=(New.row _ _ _).own (Nat.le_refl _);have hx:w.M[j]?=some (drQ w j):=by
   unfold drQ;rw[List.getD_eq_getElem?_getD,List.getElem?_eq_getElem (by omega)];rfl
  have no:zRG (drQ w j)=false->zRH w=false:=by
   intro hf;have:(w.M.take 10).all zRG=false:=by
    refine yVH (x:=drQ w j) ?_ hf;rw[List.mem_iff_getElem?];exact⟨j,by rw[List.getElem?_take,if_pos h10];exact hx⟩
   unfold zRH;rw[this];rfl
  by_cases g1:20<l'
  .exact wFH (lV hN) ld ⟨hN.trans N2,rfl,no (by unfold zRG;rw[decide_eq_false (by omega)];rfl)⟩ (by omega) (by omega) (by omega) (by omega)
  by_cases g2:20<n'
  .exact wFG (lV hN) ld ⟨hN.trans N2,rfl,no (by unfold zRG;rw[decide_eq_true (by omega),decide_eq_false (by omega)];rfl)⟩ (by omega) (by omega) (by omega) (by omega) (by omega)
  by_cases g3:20<j'
  .exact wFF (lV hN) ld ⟨hN.trans N2,rfl,no (by unfold zRG;rw[decide_eq_true (by omega),decide_eq_true (by omega),decide_eq_false (by omega)];rfl)⟩ (by omega) (by omega) (by omega) (by omega) (by omega) (by omega)
  .exact wFE (lV hN) ld ⟨k-1,by omega,hN.trans N2,j+1,by omega,by omega,by omega,zPC hx ha (by unfold zRG;rw[decide_eq_true (by omega),decide_eq_true (by omega),decide_eq_true (by omega)];rfl)⟩ (by omega) (by omega) (by omega) (by omega) (by omega) (by omega) (by omega)
 .rintro b O ⟨hN,rfl,e⟩;exact xMM ⟨by rw[e],(N1.trans hN).lw⟩
 .rintro O ⟨hN,e⟩;have hlow:=(N1.trans hN).lw;by_cases h15:l<=15
  .by_cases h9:m<=9
   .exact xMP (lD hN) (lV hN) ⟨by unfold zRH;rw[e,decide_eq_true (by omega),decide_eq_true (by omega)];rfl,hlow⟩
   .exact xMO (lD hN) (lV hN) ⟨by unfold zRH;rw[e,decide_eq_true (by omega),decide_eq_false (by omega)];rfl,hlow⟩
  .exact xMN (lD hN) ⟨by unfold zRH;rw[e,decide_eq_false (by omega)];rfl,hlow⟩
end
section
variable{w:Wk}{D i b:Nat}{rs:List Int}{x:Int}{E:St}
theorem zOI{w:Wk}:∀{a b D:Nat},xP w (a+b) D=xP w a D++xP w b (D+a)
 |0,b,D=>by rw[Nat.zero_add];rfl
 |a+1,b,D=>by
  rw[show a+1+b=(a+b)+1 by omega];show yS w D w.L.length++xP w (a+b) (D+1)=(yS w D w.L.length++xP w a (D+1))++_;rw[zOI (a:=a),List.append_assoc,show D+1+a=D+(a+1) by omega]
theorem xUR{n:Nat}(h:D<n):xP w n 0=xP w D 0++(yS w D w.L.length++xP w (n-D-1) (D+1)):=by
 have e:n=D+((n-D-1)+1):=by omega
 have:=zOI (w:=w) (a:=D) (b:=(n-D-1)+1) (D:=0);rw[<- e]at this;rw[this,Nat.zero_add];rfl
theorem xKT:xP w (D+1) 0=xP w D 0++yS w D w.L.length:=by
 rw[zOI (a:=D) (b:=1),Nat.zero_add];show _++(yS w D w.L.length++[])=_;rw[List.append_nil]
theorem xZB{L:List Nat}(hi:i<rs.length)(hn:i ∉ L):L.map (yU (rs.set i x))=L.map (yU rs):=by
 refine List.map_congr_left λj hj=>?_
 rw[xBD hi,if_neg (λe:j=i=>hn (by rw[<- e];exact hj))]
theorem wAE{l:Nat}(o:Own E b (rs.map yK) 1)(hl:rs.length=l):yM E (some ⟨b,0,none⟩) l rs:=by
 refine⟨?_,by simpa using hl,λx hx=>?_⟩
 .rw[zAJ rs .i64];exact⟨by simp[hl],o.rw⟩
 .obtain⟨x,_,rfl⟩:=List.mem_map.1 hx;exact vU x
theorem wHI(o:Own E b (rs.map yK) 1)(hi:i<rs.length):yN tP (evL [.pointer (some (zO ⟨b,0,none⟩ (Int.toNat (i:Int)*1))),iV x]) E (.store 3 (.tmp 0) (.tmp 1))=some (undef,E.own b ((rs.set i x).map yK) 1):=by
 have e:zO ⟨b,0,none⟩ (Int.toNat (i:Int)*1)=⟨b,i,none⟩:=by simp[zO]
 rw[e];refine o.store (k:=i) (v:=iV x) (vs:=[iV x]) rfl vL rfl (by simp;omega) ?_
 rw[List.set_eq_take_append_cons_drop,if_pos hi,List.map_append,List.map_cons,List.map_take,List.map_drop];rfl
theorem zZY:∀l:Nat,xL [iV 0] l=(List.replicate l (0:Int)).map yK
 |0=>rfl
 |l+1=>by
  have:=zZY l;rw[List.replicate_succ,List.map_cons,<- this];rfl
section
variable{z:St}{w:Wk}{p q:Option Addr}{l m c d n fw:Nat}{leaves:Bool}{fc:List Value}{wf:Nat->List Int->List Int}
structure RunJ(z:St)(w:Wk)(p:Option Addr)(l c:Nat)(q:Option Addr)(m d:Nat)(B br:Nat)(X:Nat->Prop)(e:EndR)(o:xEW)(L:List Nat)(at_:Int)(y:St)(rs:List Int):Prop where
 nw:New z.re y
 wk:Row y ⟨z.j,0,none⟩ (wkc w.J p l c q m d w.rest w.run w.N)
 wo:Own y (z.j+1) (zS 0 0 0 0 0 0) 1
 en:Own y B (zGC e) 8
 ro:Own y br (rs.map yK) 1
 len:rs.length=l
 ep:EndP y X e o
 atb:0<=at_/\at_<=L.length
 is:∀who u,o=some (who,u)->at_=L.length/\L.map (yU rs)=who.take L.length
theorem wKP(h:WkP z 93 94 w p l q m)(sh:zCE w)(sn:Sane w l m)(dn:w.J=(n:Int))(n7:n<=7)(vd:Days w n)
  (wfc:∀z',Le z z'->∀(D:Nat) (pw:Option Addr) (lw cw:Nat) (who:List Int),yM z' pw lw who->lw<=12->zW tP fw ([]++(iV (D:Int)::.slice pw lw cw::fc)) z' (.agg ⟨six (wf D who)⟩) z')
  (wfl:∀D a,(wf D a).length=6) (wfb:∀D a,a.length<=12->Bd 12 (wf D a)) (bel:∀k,z.j<=k->yQ RD k (.func (.func fw) ⟨[]⟩ ⟨fc⟩)=true) (good:zN RD (.func (.func fw) ⟨[]⟩ ⟨fc⟩)=true) :
  ∃(v:List Int) (can:Bool) (o:xEW) (rs:List Int) (p':Option Addr) (c':Nat) (z':St),zW tP 43 [.agg ⟨wkc w.J p l c q m d w.rest w.run w.N⟩,.bool leaves,.func (.func fw) ⟨[]⟩ ⟨fc⟩] z (.tuple ⟨[.slice p' l c',.agg ⟨six v⟩,.bool can]⟩) z'/\New z z'/\yM z' p' l rs/\(∀b,AtP p' b->z.j<=b)/\v.length=6/\Bd 100 v/\wN 6 (Ch w leaves wf n 0 (st0 w m)) o/\(match o with
   |none=>can=false
   |some (who,u)=>can=true/\v=u/\(xP w n 0).map (yU rs)=who):=by
 have hln:=h.len
 have zr:z.re.j=z.j:=rfl
 suffices hmain:zQ tP 43 [.agg ⟨wkc w.J p l c q m d w.rest w.run w.N⟩,.bool leaves,.func (.func fw) ⟨[]⟩ ⟨fc⟩] z.re λvv s=>New z.re s/\∃(v:List Int) (can:Bool) (o:xEW) (rs:List Int) (br:Nat),vv=.tuple ⟨[.slice (some ⟨br,0,none⟩) l l,.agg ⟨six v⟩,.bool can]⟩/\yM s (some ⟨br,0,none⟩) l rs/\z.j<=br/\v.length=6/\Bd 100 v/\wN 6 (Ch w leaves wf n 0 (st0 w m)) o/\(match o with
   |none=>can=false
   |some (who,u)=>can=true/\v=u/\(xP w n 0).map (yU rs)=who) by
  obtain⟨vv,z',h1,h2,v,can,o,rs,br,rfl,h3,h4,h5,h6,h7,h8⟩:=zQ.new hmain (by
   rintro vv s s' ⟨v,can,o,rs,br,h1,h2,h3⟩ hl;exact⟨v,can,o,rs,br,h1,SlV.le h2 hl,h3⟩) (by
   rintro vv s hr ⟨v,can,o,rs,br,rfl,h2,h3⟩;exact Bool.noConfusion (show false=true from hr))
  exact⟨v,can,o,rs,_,_,z',h1,h2,h3,λb hb=>by obtain⟨a,e,rfl⟩:=hb;cases e;exact h4,h5,h6,h7,h8⟩
 obtain⟨t1,ht1⟩:∃t1,t1=z.re.row (wkc w.J p l c q m d w.rest w.run w.N) 6:=⟨_,rfl⟩
 have n1:t1.j=z.j+1:=by rw[ht1];rfl
 have M1:New z.re t1:=by rw[ht1];exact New.row _ _ _
 have w1:Row t1 ⟨z.j,0,none⟩ (wkc w.J p l c q m d w.rest w.run w.N):=by rw[ht1];exact wB z.re _ _
 obtain⟨t2,ht2⟩:∃t2,t2=t1.row (zS 0 0 0 0 0 0) 1:=⟨_,rfl⟩
 have n2:t2.j=z.j+2:=by rw[ht2];show t1.j+1=_;omega
 have M2:New z.re t2:=by rw[ht2];exact M1.row'
 have v2:Own t2 (z.j+1) (zS 0 0 0 0 0 0) 1:=by rw[ht2,<- n1];exact zX _ _ _
 obtain⟨t3,ht3⟩:∃t3,t3=t2.add (.map []):=⟨_,rfl⟩
 have n3:t3.j=z.j+3:=by rw[ht3];show t2.j+1=_;omega
 have M23:New t2 t3:=by rw[ht3];exact New.add _ _
 have M3:New z.re t3:=M2.trans M23
 have mp3:zAR tP t3 (z.j+2) xCJ zEE (λ_=>none):=by rw[ht3,<- n2];exact zAR.new t2
 let K:PlK:=⟨z,z.j+3,z.j+2,w,p,l,c,q,m,d,leaves,fw,[],fc,wf,n⟩
 obtain⟨t4,ht4⟩:∃t4,t4=t3.row K.row 9:=⟨_,rfl⟩
 have n4:t4.j=z.j+4:=by rw[ht4];show t3.j+1=_;omega
 have M34:New t3 t4:=by rw[ht4];exact New.row _ _ _
 have M4:New z.re t4:=M3.trans M34
 have pr4:Row t4 ⟨z.j+3,0,none⟩ K.row:=by rw[ht4,<- n3];exact wB _ _ _
 have okK:K.Ok:=⟨h,sh,sn,dn,n7,vd,by show z.j<=z.j+2;omega,by show z.j+2≠z.j+3;omega,wfc,wfl,wfb,by show w.L.length<=12;rw[hln.1];exact sn.l12,bel,good⟩
 have L4:Le z t4:=(le0 z).trans M4.le
 have W4:PlW K t4 (λ_=>none) (λ_=>False):=⟨L4,pr4,mp3.le M34.le,λb hb=>hb.elim,λD st e he=>by cases he⟩
 have c1:=yNH (c:=c) (d:=d) (h.le L4) sn.m6
 have hst:∀k,k<m->StG (st0 w m k):=λk hk=>by
  unfold st0;rw[if_pos hk];have hd:=sn.dr k hk;exact StG.before ⟨hd.1,hd.2.1⟩ ⟨hd.2.2.1,hd.2.2.2.1⟩ ⟨hd.2.2.2.2.1,hd.2.2.2.2.2⟩
 obtain⟨z5,e,o,F',X',c2,k5,W5,E5,bo,x1,x2,_⟩:=wDR okK n t4 _ _ 0 (st0 w m) (by show 0+n=n;omega) W4 hst
 have M5:New z.re z5:=M4.of_only k5 (λb hb=>by have hb:b=z.j+2:=hb;show z.j<=b;omega)
 have n5:=k5.j
 have w5:Row z5 ⟨z.j,0,none⟩ (wkc w.J p l c q m d w.rest w.run w.N):=k5.rw' (((w1.le (by rw[ht2];exact Le.row _ _ _)).le M23.le).le M34.le) (λh=>by have h:z.j=z.j+2:=h;omega)
 have v5:Own z5 (z.j+1) (zS 0 0 0 0 0 0) 1:=k5.own' ((v2.le M23.le).le M34.le) (λh=>by have h:z.j+1=z.j+2:=h;omega)
 obtain⟨t6,ht6⟩:∃t6,t6=(z5.row [iV 0,iV 0,iV 0,iV 0,iV 0,iV 0,.slice none 0 0,.bool false] 8).own z5.j (zGC e) 8:=⟨_,rfl⟩
 have n6:t6.j=z5.j+1:=by rw[ht6];rfl
 have M56:New z5 t6:=by rw[ht6];exact(New.row _ _ _).own (Nat.le_refl _)
 have e6:Own t6 z5.j (zGC e) 8:=by rw[ht6];exact(zX _ _ _).put
 have w6:=w5.le M56.le
 have h3:zJ tP t6 69 ⟨z.j,1,none⟩=some (.slice p l c):=w6.ld zXG rfl
 have zt3:uO tP 3=some (iV 0):=by kernel_rfl
 have h4:=wHV (P:=tP) (E:=t6) (st:=48) (e:=3) (n:=1) (by kernel_rfl) zt3 (len:=l) (by have:=sn.l12;omega)
 obtain⟨t7,ht7⟩:∃t7,t7=t6.row (xL (Value.int .i64 0).cells.toList l) 1:=⟨_,rfl⟩
 have n7':t7.j=z5.j+2:=by rw[ht7];show t6.j+1=_;omega
 have M67:New t6 t7:=by rw[ht7];exact New.row _ _ _
 have r7:Own t7 t6.j ((List.replicate l (0:Int)).map yK) 1:=by rw[ht7,<- zZY];exact zX _ _ _
 rw[<- ht7]at h4
 have w7:=w6.le M67.le
 have h5:zJ tP t7 3 ⟨z.j,0,none⟩=some (iV w.J):=w7.ld zU rfl
 have M7:New z.re t7:=(M5.trans M56).trans M67
 have hx:∀b,X' b->b<z5.j:=λb hb=>(W5.xb b hb).1
 have e7:EndP t7 X' e o:=(E5.le M56.le).le M67.le
 have hnd:=zOJ (w:=w) (r:=n) (D:=0)
 have J0:RunJ z w p l c q m d z5.j t6.j X' e o (xP w 0 0) 0 t7 (List.replicate l 0):=⟨M7,w7,(v5.le M56.le).le M67.le,e6.le M67.le,r7,by simp,e7,⟨by omega,by simp[xP]⟩,λwho u _=>⟨rfl,by simp[xP]⟩⟩
 have hol:∀who u,o=some (who,u)->e.can=true/\e.v=u/\who.length=(xP w n 0).length:=by
  rintro who u rfl;have ht:e.can=true/\e.v=u/\_:=E5.tell;exact⟨ht.1,ht.2.1,(yUU bo.1).1⟩
 have hflen:(xP w n 0).length<=100:=by
  have:=yOY (w:=w) (r:=n) (D:=0);have h1:=sn.l12;have:n*w.L.length<=7*12:=Nat.mul_le_mul n7 (by omega);omega
 let P0:St->Prop:=λy=>∃at_ rs,RunJ z w p l c q m d z5.j t6.j X' e o (xP w n 0) at_ y rs
 have hL:xIG z.j (some ⟨t6.j,0,none⟩) l l (z.j+1) z5.j w.J 0 0 t7 P0:=by
  refine xSS (Inv:=λk a i y=>∃(D:Nat) (rs:List Int),i=D/\D+k=n/\RunJ z w p l c q m d z5.j t6.j X' e o (xP w D 0) a y rs) ?_ n 0 0 t7 ⟨0,_,rfl,by omega,J0⟩;rintro k a i y ⟨D,rs,rfl,hk,J⟩;by_cases hD:D<n;rotate_left
  .have:D=n:=by omega
   subst this;exact wHA ⟨a,rs,J⟩
  have hfd:=xUR (w:=w) hD;have hdl:(yS w D l).length<=l:=zEH;have hl12:=sn.l12;have g1:zJ tP y 72 ⟨z.j,0,none⟩=some (.agg ⟨wkc w.J p l c q m d w.rest w.run w.N⟩):=J.wk.ldN zAD vB (k:=0) rfl rfl (nle rfl);obtain⟨p2,c3,y2,g2,N2,I2,f2⟩:=xDE (E:=y) (D:=D) (c:=c) (d:=d) (h.le ((le0 z).trans J.nw.le)) (by have:=sn.l12;omega);have J2:RunJ z w p l c q m d z5.j t6.j X' e o (xP w D 0) a y2 rs:=⟨J.nw.trans N2,J.wk.le N2.le,J.wo.le N2.le,J.en.le N2.le,J.ro.le N2.le,J.len,J.ep.le N2.le,J.atb,J.is⟩;refine wHB g1 g2 (P2:=λa y=>∃rs,RunJ z w p l c q m d z5.j t6.j X' e o (xP w D 0++yS w D l) a y rs) (xSR (Inv:=λk a i y=>∃(s:Nat) (rs:List Int),i=s/\s+k=(yS w D l).length/\yM y p2 (yS w D l).length (zSW (yS w D l))/\RunJ z w p l c q m d z5.j t6.j X' e o (xP w D 0++(yS w D l).take s) a y rs) ?_ (yS w D l).length a 0 y2 ⟨0,rs,rfl,by omega,I2,by simpa using J2⟩) ?_
  .rintro k2 a2 i2 y3 ⟨s,rs3,rfl,hk2,I3,J3⟩;by_cases hs:s<(yS w D l).length;rotate_left
   .have hse:s=(yS w D l).length:=by omega
    rw[hse,List.take_length]at J3;exact wGX ⟨rs3,J3⟩
   obtain⟨qa,rfl,_⟩:=I3.some hs;have hgs:(yS w D l)[s]?=some (yS w D l)[s]:=List.getElem?_eq_getElem hs;generalize (yS w D l)[s]=i at hgs;have ld1:zJ tP y3 3 (zO qa (Int.toNat (s:Int)*1))=some (iV (i:Int)):=I3.at rfl (by simp[zSW,hgs]);have ld2:zJ tP y3 4 ⟨z5.j,7,none⟩=some (.bool e.can):=J3.en.rw.ld zXI rfl;have hi:i<l:=(zQH.1 (List.mem_of_getElem? hgs)).1;have etk:(yS w D l).take (s+1)=(yS w D l).take s++[i]:=by rw[List.take_add_one,hgs];rfl
   have hlenL:(xP w D 0++(yS w D l).take (s+1)).length=(xP w D 0++(yS w D l).take s).length+1:=by rw[etk];simp;omega
   have hfl:xP w n 0=(xP w D 0++(yS w D l).take s)++(i::((yS w D l).drop (s+1)++xP w (n-D-1) (D+1))):=by
    rw[hfd,hln.1];conv=>lhs;rw[<- List.take_append_drop (s+1) (yS w D l),etk]
    simp
   have hni:i ∉ xP w D 0++(yS w D l).take s:=λhm=>by
    rw[hfl]at hnd;exact(List.nodup_append.1 hnd).2.2 i hm i List.mem_cons_self rfl
   have hll:=congrArg List.length hfl;rw[List.length_append,List.length_cons]at hll;have hat:=J3.atb;cases hc:e.can with
   |false =>
    rw[hc]at ld2;have hn:∀who u,¬o=some (who,u):=λwho u ho=>by
     have:=(hol who u ho).1;rw[hc]at this;cases this
    exact wGY ld1 ld2 ⟨k2-1,by omega,s+1,rs3,by omega,by omega,I3,J3.nw,J3.wk,J3.wo,J3.en,J3.ro,J3.len,J3.ep,⟨hat.1,by rw[hlenL];omega⟩,λwho u ho=>absurd ho (hn who u)⟩ (by omega) ⟨by omega,by omega⟩ ⟨by omega,by have:=sn.l12;omega⟩
   |true =>
    rw[hc]at ld2;obtain⟨who,u,ho⟩:∃who u,o=some (who,u):=by
     cases o with
     |none=>have ht:e.can=false:=E5.tell;rw[hc]at ht;cases ht
     |some r=>exact⟨r.1,r.2,rfl⟩
    obtain⟨hat2,hmp⟩:=J3.is who u ho;have hwl:=(hol who u ho).2.2;have ht:e.can=true/\e.v=u/\yM y3 e.p e.l who:=by have:=J3.ep.tell;rw[ho]at this;exact this
    have Iw:=ht.2.2;have ewl:=Iw.len;subst hat2;generalize hLn:(xP w D 0++(yS w D l).take s).length=N at *;have hNw:N<who.length:=by omega
    obtain⟨ra,hra,_⟩:=Iw.some (by omega:N<e.l);have ld3:zJ tP y3 48 ⟨z5.j,6,none⟩=some (.slice (some ra) e.l e.c):=by rw[<- hra];exact J3.en.rw.ld xF rfl
    have hgw:who[N]?=some who[N]:=List.getElem?_eq_getElem hNw;generalize who[N]=x at hgw;have ld4:zJ tP y3 3 (zO ra (Int.toNat ((N:Nat):Int)*1))=some (iV x):=Iw.at hra (by simp[hgw]);have hir:i<rs3.length:=by rw[J3.len];exact hi
    have st5:=wHI (x:=x) J3.ro hir;have kS:Only (·=t6.j) y3 (y3.own t6.j ((rs3.set i x).map yK) 1):=Only.own (.inr rfl);have hz6:z.j+2<=z5.j:=by omega
    refine wGZ ld1 ld2 ld3 ld4 st5 ⟨k2-1,by omega,s+1,rs3.set i x,by omega,by omega,kS.slv' I3 (λa ea hh=>?_),J3.nw.own (by omega),kS.rw' J3.wk (λhh=>by have hh:z.j=t6.j:=hh;omega),kS.own' J3.wo (λhh=>by have hh:z.j+1=t6.j:=hh;omega),kS.own' J3.en (λhh=>by have hh:z5.j=t6.j:=hh;omega),J3.ro.put,by simp[J3.len],J3.ep.only kS (λb hb hh=>by have:=hx b hb;omega),⟨by omega,by omega⟩,λwho' u' ho'=>?_⟩ (by omega) ⟨by omega,by omega⟩ ⟨by omega,by omega⟩ ⟨by omega,by omega⟩ ⟨by omega,by omega⟩ ⟨by omega,by have:=sn.l12;omega⟩
    .cases ea
     have:=f2 qa.block ⟨qa,rfl,rfl⟩;have hyz:=J.ro.lt;omega
    .rw[ho]at ho';cases ho'
     refine⟨by omega, ?_⟩
     rw[hlenL,etk,<- List.append_assoc,List.map_append,xZB hir hni,hmp,List.map_cons,List.map_nil,xBD hir,if_pos rfl,List.take_add_one,hgw];rfl
  .rintro a2 y3 ⟨rs3,J3⟩;refine xSP ⟨k-1,by omega,D+1,rs3,by omega,by omega, ?_⟩ ?_
   .rw[xKT,hln.1];exact J3
   .have:=J3.atb;have hll:(xP w D 0++yS w D l).length<=100:=by
     have:=congrArg List.length hfd;rw[hln.1]at this;simp only[List.length_append]at this hflen ⊢;omega
    exact⟨by omega,by omega⟩
 have k0:∀y,P0 y->yHD z.j (some ⟨t6.j,0,none⟩) l l (z.j+1) z5.j w.J y (λvv s=>New z.re s/\∃(v:List Int) (can:Bool) (o:xEW) (rs:List Int) (br:Nat),vv=.tuple ⟨[.slice (some ⟨br,0,none⟩) l l,.agg ⟨six v⟩,.bool can]⟩/\yM s (some ⟨br,0,none⟩) l rs/\z.j<=br/\v.length=6/\Bd 100 v/\wN 6 (Ch w leaves wf n 0 (st0 w m)) o/\(match o with
   |none=>can=false
   |some (who,u)=>can=true/\v=u/\(xP w n 0).map (yU rs)=who)):=by
  rintro y ⟨a,rs,J⟩
  have g1:zJ tP y 126 ⟨z5.j,0,none⟩=some (.agg ⟨zS (e.v.getD 0 0) (e.v.getD 1 0) (e.v.getD 2 0) (e.v.getD 3 0) (e.v.getD 4 0) (e.v.getD 5 0)⟩):=J.en.rw.ldN zAQ wK (k:=0) rfl rfl (nle rfl)
  have g2:zJ tP y 4 ⟨z5.j,7,none⟩=some (.bool e.can):=J.en.rw.ld zXI rfl
  have g3:=J.wo.store (P:=tP) (k:=0) (t:=126) (v:=.agg ⟨zS (e.v.getD 0 0) (e.v.getD 1 0) (e.v.getD 2 0) (e.v.getD 3 0) (e.v.getD 4 0) (e.v.getD 5 0)⟩) (vs:=zS (e.v.getD 0 0) (e.v.getD 1 0) (e.v.getD 2 0) (e.v.getD 3 0) (e.v.getD 4 0) (e.v.getD 5 0)) (ds:=zS (e.v.getD 0 0) (e.v.getD 1 0) (e.v.getD 2 0) (e.v.getD 3 0) (e.v.getD 4 0) (e.v.getD 5 0)) rfl wK rfl (nle rfl) rfl
  have kS:Only (·=z.j+1) y (y.own (z.j+1) (zS (e.v.getD 0 0) (e.v.getD 1 0) (e.v.getD 2 0) (e.v.getD 3 0) (e.v.getD 4 0) (e.v.getD 5 0)) 1):=Only.own (.inr rfl)
  have e2:=kS.own' J.en (λhh=>by have hh:z5.j=z.j+1:=hh;omega)
  have r2:=kS.own' J.ro (λhh=>by have hh:t6.j=z.j+1:=hh;omega)
  have g4:(z5.j<(y.own (z.j+1) (zS (e.v.getD 0 0) (e.v.getD 1 0) (e.v.getD 2 0) (e.v.getD 3 0) (e.v.getD 4 0) (e.v.getD 5 0)) 1).j/\zN RD (.bool e.can)=true)/\zJ tP (y.own (z.j+1) (zS (e.v.getD 0 0) (e.v.getD 1 0) (e.v.getD 2 0) (e.v.getD 3 0) (e.v.getD 4 0) (e.v.getD 5 0)) 1) 4 ⟨z5.j,7,none⟩=some (.bool e.can):=⟨⟨e2.lt,rfl⟩,e2.rw.ld zXI rfl⟩
  have g5:zJ tP (y.own (z.j+1) (zS (e.v.getD 0 0) (e.v.getD 1 0) (e.v.getD 2 0) (e.v.getD 3 0) (e.v.getD 4 0) (e.v.getD 5 0)) 1) 126 ⟨z.j+1,0,none⟩=some (.agg ⟨zS (e.v.getD 0 0) (e.v.getD 1 0) (e.v.getD 2 0) (e.v.getD 3 0) (e.v.getD 4 0) (e.v.getD 5 0)⟩):=J.wo.put.rw.ldN zAQ wK (k:=0) rfl rfl (nle rfl)
  refine xSQ g1 g2 g3 g4 g5 ⟨J.nw.own (by omega),e.v,e.can,o,rs,t6.j,by rw[zAY],wAE r2 J.len,by omega,E5.len,E5.bd,bo, ?_⟩ J.en.lt J.wo.lt
  cases ho:o with
  |none =>
   have ht:=E5.tell;rw[ho]at ht;exact ht
  |some r =>
   obtain⟨h1,h2,h3⟩:=hol r.1 r.2 ho;refine⟨h1,h2, ?_⟩
   have h4:=(J.is r.1 r.2 ho).2;rw[h4,<- h3,List.take_length]
 subst ht7 ht6 ht4 ht3 ht2 ht1
 exact wMG c1 c2 h3 h4 h5 hL k0
end
end
section
variable{E:St}{b m:Nat}{v:List Int}{a:Addr}
section
variable{z:St}{w:Wk}{p q:Option Addr}{l m c d:Nat}
theorem wGM(hm:m<=6)(o:Own E b (six v) 1):∃c,uM tP E 126 (.pointer (some ⟨b,0,none⟩)) none (some (iV (m:Int))) none=some (.slice (some ⟨b,0,none⟩) m c):=by
 have hu:tP.underlying 126=some (.array 6 3):=by kernel_rfl
 have ha:yCP E ⟨b,0,none⟩ (6*1) 1=true:=by unfold yCP;simp only[o.get];rfl
 unfold uM;simp only[hu,vL,ha,cond_true];match m,hm with
 |0,_=>exact⟨_,rfl⟩
 |1,_=>exact⟨_,rfl⟩
 |2,_=>exact⟨_,rfl⟩
 |3,_=>exact⟨_,rfl⟩
 |4,_=>exact⟨_,rfl⟩
 |5,_=>exact⟨_,rfl⟩
 |6,_=>exact⟨_,rfl⟩
theorem wHR{l c:Nat}:wW tP .eql 48 (.tmp 3) (.const (.slice none 0 0)) (.slice (some a) l c) (.slice none 0 0)=some (.bool false):=by kernel_rfl
theorem wJF{rs:List Int}(h:yM E (some a) l rs)(hl:l<=1073741824):∃p' c' E',zW tP 44 [.slice (some a) l c] E (.slice p' l c') E'/\New E E'/\yM E' p' l rs/\∀b,AtP p' b->E.j<=b:=by
 have hc:(wD (rs.map yK)).all cellB=true:=by rw[zAJ rs .i64];simp[List.all_eq_true];intro a _;rfl
 have N1:New E.re (E.re.row [] 1):=New.row _ _ _;obtain⟨p6,c6,s5,ap1,A6,O6,b6⟩:=Ax.append (P:=tP) (k:=c) (n0:=E.re.j) uH (Ax.lit (len:=0) (zX E.re [] 1) rfl ((xN 0).2 uF) (Nat.le_refl _)) (SlV.le h ((le0 E).trans N1.le)).1 (by omega) hc N1.nx;rw[Nat.zero_add]at ap1 A6;have N5:New E.re s5:=N1.of_only O6 (by rintro b ⟨a,e,rfl⟩;cases e;exact Nat.le_refl _);exact zQ.newSl (wDL wHR ap1 ⟨N5,p6,c6,rfl,Ax.slv (by simpa using A6) (by simpa using h.2.1) h.2.2,λb hb=>(A6.bd b hb).1⟩)
theorem xYS(hv:v.length=6)(hm:m<=6)(o:Own E b (six v) 1):yM E (some ⟨b,0,none⟩) m (v.take m):=by
 have e:six v=v.map yK:=by
  apply List.ext_getElem (by rw[six,zBV,List.length_map,hv]);intro i g1 g2;have g3:i<v.length:=by simpa using g2
  simp[six,vI,g3]
 refine⟨?_,by simp;omega,λx hx=>?_⟩
 .rw[zAJ _ .i64];refine⟨by simp;omega, ?_⟩
  have h1:=o.rw.part (k:=0) (m:=m) (by rw[e,List.length_map,hv];omega);rw[e,List.drop_zero,<- List.map_take]at h1;simpa [zO] using h1
 .obtain⟨x,_,rfl⟩:=List.mem_map.1 hx;exact vU x
def wFP(w:Wk)(l:Nat)(v:Value)(s:St):Prop :=
 ((∀ros,Ros w ros->zAF w ros (late w)->¬wFL w ros)/\v=.tuple ⟨[.slice none 0 0,.slice none 0 0,iV 9]⟩) \/
 ∃rs pr cr pg lg cg,v=.tuple ⟨[.slice pr l cr,.slice pg lg cg,iV 0]⟩/\yM s pr l rs/\Ros w (yU rs)/\zAF w (yU rs) (late w)/\wFL w (yU rs)
def wFJ(w:Wk)(l:Nat)(v:Value)(s:St):Prop :=
 ∃rs pr cr,v=.tuple ⟨[.slice pr l cr,iV (zOR w (yU rs)),iV 0]⟩/\yM s pr l rs/\Ros w (yU rs)/\zAF w (yU rs) (late w)
theorem wCI(D:Nat)(a:List Int):Bd 12 (zBY w D a):=by
 intro x hx;unfold zBY at hx;obtain⟨k,_,rfl⟩:=List.mem_map.1 hx;split <;> omega
theorem xVB(D:Nat)(a:List Int)(h:a.length<=12):Bd 12 (zFT D a):=by
 intro x hx;have:=List.length_filter_le (λr:Int=>decide (r≠-1)) a;unfold zFT zHE at hx;simp only[List.mem_cons,List.not_mem_nil,or_false]at hx;rcases hx with rfl|rfl|rfl|rfl|rfl|rfl <;> omega
theorem wOT(h:WkP z 93 94 w p l q m)(hsh:zCE w)(hf:vR w=0):∃v z',zW tP 17 [.agg ⟨wkc w.J p l c q m d w.rest w.run w.N⟩] z v z'/\New z z'/\wFP w l v z':=by
 have hln:=h.len;suffices hmain:zQ tP 17 [.agg ⟨wkc w.J p l c q m d w.rest w.run w.N⟩] z.re λv s=>New z.re s/\wFP w l v s by
  obtain⟨v,s,h1,h2,h3⟩:=zQ.new hmain (by
   rintro v s s' (h|⟨rs,pr,cr,pg,lg,cg,h1,h2,h4⟩) hl
   .exact .inl h
   .exact .inr ⟨rs,pr,cr,pg,lg,cg,h1,SlV.le h2 hl,h4⟩) (by
   rintro v s hr (h|⟨rs,pr,cr,pg,lg,cg,rfl,h2,h4⟩)
   .exact .inl h
   .cases pr with
    |some a=>exact Bool.noConfusion (show false=true from hr)
    |none=>exact .inr ⟨rs,none,cr,pg,lg,cg,rfl,uX h2,h4⟩)
  exact⟨v,s,h1,h2,h3⟩
 obtain⟨t1,ht1⟩:∃t1,t1=z.re.row (wkc w.J p l c q m d w.rest w.run w.N) 6:=⟨_,rfl⟩;have n1:t1.j=z.j+1:=by rw[ht1];rfl
 have M1:New z.re t1:=by rw[ht1];exact New.row _ _ _
 have w1:Row t1 ⟨z.j,0,none⟩ (wkc w.J p l c q m d w.rest w.run w.N):=by rw[ht1];exact wB z.re _ _
 have h1:=h.le ((le0 z).trans M1.le);have k1:=zPJ (c:=c) (d:=d) h1 hsh hf;have hs:=Sane.of hf hsh hln.1 hln.2;obtain⟨n,hn,hn1,hn7,hv⟩:=yDG hf;obtain⟨v,can,o,rs,p2,c2,z2,k2,N2,I2,f2,v6,vb,bo,ho⟩:=wKP (c:=c) (d:=d) (leaves:=false) (fw:=41) (fc:=[.pointer (some ⟨z.j,0,none⟩)]) (wf:=zBY w) h1 hsh hs hn hn7 hv.toDays
  (λz' hz D pw lw cw who hi hlw=>wKI (w1.le hz) (h1.le hz) hs.m6 hsh hi (by omega)) (λD a=>xUQ) (λD a _=>wCI D a)
  (λk hk=>by
   show(true&&(Nat.blt z.j k&&true))=true;rw[(xY _ _).2 (by omega:z.j<k)];rfl) rfl
 have hst:∀k,k<w.M.length->st0 w m k=before (drQ w k):=λk hk=>by unfold st0;rw[if_pos (by omega)]
 have br:=wNT hv hst bo;rw[zAY]at k2;cases o with
 |none =>
  have ho:can=false:=ho;rw[ho]at k2;subst ht1;exact wKG k1 k2 ⟨((New.row _ _ _).trans N2).trans ((New.row _ _ _).own (Nat.le_refl _)),.inl ⟨br,rfl⟩⟩ rfl
 |some r =>
  obtain⟨who,u⟩:=r;obtain⟨hc,hvu,hmp⟩:can=true/\v=u/\(xP w n 0).map (yU rs)=who:=ho;rw[hc]at k2;subst hvu;obtain⟨b1,b2⟩:=br;have r1:=b2 _ hmp;obtain⟨t3,ht3⟩:∃t3,t3=(z2.row (zS 0 0 0 0 0 0) 1).own z2.j (zS (v.getD 0 0) (v.getD 1 0) (v.getD 2 0) (v.getD 3 0) (v.getD 4 0) (v.getD 5 0)) 1:=⟨_,rfl⟩;have M3:New z2 t3:=by rw[ht3];exact(New.row _ _ _).own (Nat.le_refl _)
  have o3:Own t3 z2.j (six v) 1:=by rw[ht3,zAY];exact(zX _ _ _).put
  have h3:zJ tP t3 70 ⟨z.j,2,none⟩=some (.slice q m d):=((w1.le N2.le).le M3.le).ld zLW rfl;obtain⟨c4,h4⟩:=wGM hs.m6 o3;obtain⟨p5,c5,z5,k5,N5,I5,f5⟩:=wJF (c:=c4) (xYS v6 hs.m6 o3) (by have:=hs.m6;omega);have nx:New z.re z5/\wFP w l (.tuple ⟨[.slice p2 l c2,.slice p5 m c5,iV 0]⟩) z5:=⟨((M1.trans N2).trans M3).trans N5,.inr ⟨rs,p2,c2,p5,m,c5,rfl,SlV.le (SlV.le I2 M3.le) N5.le,r1⟩⟩;subst ht3 ht1;exact wKH k1 k2 h3 h4 k5 nx rfl
theorem wOR(h:WkP z 93 94 w p l q m)(hsh:zCE w)(hf:vR w=0):∃v z',zW tP 19 [.agg ⟨wkc w.J p l c q m d w.rest w.run w.N⟩] z v z'/\New z z'/\wFJ w l v z':=by
 have hln:=h.len;suffices hmain:zQ tP 19 [.agg ⟨wkc w.J p l c q m d w.rest w.run w.N⟩] z.re λv s=>New z.re s/\wFJ w l v s by
  obtain⟨v,s,h1,h2,h3⟩:=zQ.new hmain (by
   rintro v s s' ⟨rs,pr,cr,h1,h2,h3⟩ hl;exact⟨rs,pr,cr,h1,SlV.le h2 hl,h3⟩) (by
   rintro v s hr ⟨rs,pr,cr,rfl,h2,h3⟩;cases pr with
   |some a=>exact Bool.noConfusion (show false=true from hr)
   |none=>exact⟨rs,none,cr,rfl,uX h2,h3⟩)
  exact⟨v,s,h1,h2,h3⟩
 obtain⟨t1,ht1⟩:∃t1,t1=z.re.row (wkc w.J p l c q m d w.rest w.run w.N) 6:=⟨_,rfl⟩;have M1:New z.re t1:=by rw[ht1];exact New.row _ _ _
 have h1:=h.le ((le0 z).trans M1.le);have k1:=zPJ (c:=c) (d:=d) h1 hsh hf;have hs:=Sane.of hf hsh hln.1 hln.2;obtain⟨n,hn,hn1,hn7,hv⟩:=yDG hf;obtain⟨v,can,o,rs,p2,c2,z2,k2,N2,I2,f2,v6,vb,bo,ho⟩:=wKP (c:=c) (d:=d) (leaves:=true) (fw:=46) (fc:=[]) (wf:=zFT) h1 hsh hs hn hn7 hv.toDays
  (λz' hz D pw lw cw who hi hlw=>wKE hi (by omega)) (λD a=>rfl) xVB (λk hk=>rfl) rfl
 have hst:∀k,k<w.M.length->st0 w m k=before (drQ w k):=λk hk=>by unfold st0;rw[if_pos (by omega)]
 have br:=wMW hv hst bo;rw[zAY]at k2;cases o with
 |none=>exact br.elim
 |some r =>
  obtain⟨who,u⟩:=r;obtain⟨hc,hvu,hmp⟩:can=true/\v=u/\(xP w n 0).map (yU rs)=who:=ho;subst hvu;obtain⟨b1,b2⟩:=br;obtain⟨r1,r2,r3⟩:=b2 _ hmp;have hv0:v.getD 0 0=zOR w (yU rs):=by rw[r3];rfl
  have M3:New z2 ((z2.row (zS 0 0 0 0 0 0) 1).own z2.j (zS (v.getD 0 0) (v.getD 1 0) (v.getD 2 0) (v.getD 3 0) (v.getD 4 0) (v.getD 5 0)) 1):=(New.row _ _ _).own (Nat.le_refl _);have nx:New z.re ((z2.row (zS 0 0 0 0 0 0) 1).own z2.j (zS (v.getD 0 0) (v.getD 1 0) (v.getD 2 0) (v.getD 3 0) (v.getD 4 0) (v.getD 5 0)) 1)/\wFJ w l (.tuple ⟨[.slice p2 l c2,iV (v.getD 0 0),iV 0]⟩) ((z2.row (zS 0 0 0 0 0 0) 1).own z2.j (zS (v.getD 0 0) (v.getD 1 0) (v.getD 2 0) (v.getD 3 0) (v.getD 4 0) (v.getD 5 0)) 1):=⟨(M1.trans N2).trans M3,rs,p2,c2,by rw[hv0],SlV.le I2 M3.le,r1,r2⟩;subst ht1;exact wKD k1 k2 nx rfl
end
end
section
variable{E:St}{w:Wk}{p q r t:Option Addr}{l m c d rc tc:Nat}{rs ts:List Int}
theorem xKC{ros tru:Nat->Int}(h:zAF w ros (late w))(ht:∀i,i<w.L.length->tru i<=(dty w i).hi):zAF w ros tru:=by
 intro q k i hk hq;cases e:wQ w ros tru q k i with
 |false=>rfl
 |true=>have:=xEA (tru':=late w) ht e;rw[h q k i hk hq]at this;cases this
theorem wFO(h:WkP E 93 94 w p l q m)(hsh:zCE w)(hf:vR w=0)(hr:yM E r l rs)(ht:yM E t l ts)(hro:Ros w (yU rs))(hL:zAF w (yU rs) (late w))(hts:∀i,i<l->(dty w i).lo<=yU ts i/\yU ts i<=(dty w i).hi) :
  ∃E',zW tP 20 [.agg ⟨wkc w.J p l c q m d w.rest w.run w.N⟩,.slice r l rc,.slice t l tc] E (.tuple ⟨[.slice none 0 0,iV 0]⟩) E'/\New E E':=by
 have hln:=h.len;have hs:=Sane.of hf hsh hln.1 hln.2;obtain⟨n,hn,hn1,hn7,hv⟩:=yDG hf;have rl:=hr.len;have tl:=ht.len;have hl12:=hs.l12;have hm6:=hs.m6;obtain⟨s1,hs1⟩:∃s1,s1=E.re.row (wkc w.J p l c q m d w.rest w.run w.N) 6:=⟨_,rfl⟩;have N1:New E.re s1:=by rw[hs1];exact New.row _ _ _
 have h1:=h.le ((le0 E).trans N1.le);have r1:=SlV.le hr ((le0 E).trans N1.le);have t1:=SlV.le ht ((le0 E).trans N1.le);have k1:=zPJ (c:=c) (d:=d) h1 hsh hf;have k2:=xSH (c:=c) (d:=d) (rc:=rc) h1 r1 (by omega) (by omega) (λx hx=>by
  obtain⟨i,hi⟩:=List.getElem?_of_mem hx;have lt:=(List.getElem?_eq_some_iff.1 hi).1;have e:yU rs i=x:=by unfold yU;rw[List.getD_eq_getElem?_getD,hi];rfl
  have:=hro.ros i (by omega);omega)
 have k3:=xXS (c:=c) (d:=d) (tc:=tc) h1 t1 (by omega) hts;obtain⟨s2,k4,N4⟩:=wDP (c:=c) (d:=d) (rc:=rc) (tc:=tc) hn hn7 hv.toDays h1 hs hsh r1 t1 (λi hi=>by have:=hro.ros i (by omega);omega) (λi hi=>by have:=hts i hi;have:=hs.duty i hi;omega) (xKC hL λi hi=>(hts i (by omega)).2);have R:zQ tP 20 [.agg ⟨wkc w.J p l c q m d w.rest w.run w.N⟩,.slice r l rc,.slice t l tc] E.re λv s=>New E.re s/\v=.tuple ⟨[.slice none 0 0,iV 0]⟩:=by
  subst hs1;exact xWI k1 k2 k3 k4 ⟨N1.trans N4,rfl⟩ rfl
 obtain⟨v,E',q1,q2,rfl⟩:=R.new (by rintro v s s' e hle;exact e) (by rintro v s hr e;exact e);exact⟨E',q1,q2⟩
theorem wDG(hno:∀ros,Ros w ros->zAF w ros (late w)->¬wFL w ros)(hr:Ros w (yU rs))(hL:zAF w (yU rs) (late w)):zOR w (yU rs)<w.L.length/\0<=zOR w (yU rs):=by
 unfold zOR;have h1:=List.length_filter_le (λi=>decide (yU rs i≠-1)) (List.range w.L.length);rw[List.length_range]at h1;refine⟨?_,by omega⟩
 rcases Nat.lt_or_ge ((List.range w.L.length).filter λi=>decide (yU rs i≠-1)).length w.L.length with g|g
 .omega
 .exfalso;refine hno _ hr hL λi hi=>?_
  have:=List.length_filter_eq_length_iff.1 (show((List.range w.L.length).filter λi=>decide (yU rs i≠-1)).length=(List.range w.L.length).length by rw[List.length_range];omega) i (List.mem_range.2 hi);exact of_decide_eq_true this
end
section
variable{E E':St}{bl bc kl kc ts te:Nat}{b k:Option Addr}{B:List (List Rl)}{K:List (List Int)}{L:Lw}
theorem DnP.none(h:DnP E ts te none bl none kl B K):DnP E' ts te none bl none kl B K:=by
 obtain⟨⟨vs,g1,g2,g3⟩,⟨ws,f1,f2,f3⟩⟩:=h;have hl0:bl=0:=by have:=g1.1.2;simpa using this
 have hk0:kl=0:=by have:=f1.1.2;simpa using this
 subst hl0;subst hk0;obtain rfl:B=[]:=by simpa using g2
 obtain rfl:K=[]:=by simpa using f2
 exact⟨⟨vs,uX g1,g2,λi r hi=>by simp at hi⟩,⟨ws,uX f1,f2,λi r hi=>by simp at hi⟩⟩
theorem wCY{n:Nat}{v:Value}{p q:Option Addr}{a c d e:Nat}(hv:yQ RD n v=true)(hp:∀x,p=some x->x.block<n)(hq:∀x,q=some x->x.block<n):zL n [v,.agg ⟨dnc L p a c q d e⟩]:=by
 have kk:∀(p:Option Addr) (a b:Nat),(∀x,p=some x->x.block<n)->yQ 7 n (.slice p a b)=true:=λp a b hp=>by
  cases p with
  |none=>rfl
  |some x=>exact(xY _ _).2 (hp x rfl)
 refine zI hv (zI ?_ zM);show(true&&(true&&(true&&(true&&(true&&(true&&(true&&(true&&(yQ 7 n (.slice p a c)&&(yQ 7 n (.slice q d e)&&true))))))))))=true;rw[kk p a c hp,kk q d e hq];rfl
theorem wDE(h:DnP E 59 58 b bl k kl B K)(hl:bl<=100)(hk:kl<=100)(hB:∀r∈B,r.length<=1000)(hK:∀r∈K,r.length<=1000) :
  ∃b' bc' k' kc' E',zW tP 11 [.agg ⟨dnc L b bl bc k kl kc⟩] E (.agg ⟨dnc L b' bl bc' k' kl kc'⟩) E'/\New E E'/\DnP E' 90 89 b' bl k' kl B K:=by
 have eB:=h.bs.len;obtain⟨s1,hs⟩:∃s1,s1=(((E.re.row (dnc L b bl bc k kl kc) 10).row [iV 0,iV 0,iV 0,iV 0,iV 0,iV 0,iV 0,iV 0,.slice none 0 0,.slice none 0 0] 10).row (zLV 0 0 0 0 0 0 0 0) 8).own (E.j+2) (lwL L) 8:=⟨_,rfl⟩;have N1:New E.re s1:=by rw[hs];exact(((New.row _ _ _).row').row').own (by show E.j<=E.j+2;omega)
 have n1:s1.j=E.j+3:=by rw[hs];rfl
 have x1:Bx s1 E.j L b bl bc k kl kc:=by rw[hs];exact⟨(((zX E.re _ _).row).row).own (by show E.j≠E.j+2;omega)⟩
 have z1:Own s1 (E.j+1) [iV 0,iV 0,iV 0,iV 0,iV 0,iV 0,iV 0,iV 0,.slice none 0 0,.slice none 0 0] 10:=by
  rw[hs];exact((zX (E.re.row (dnc L b bl bc k kl kc) 10) _ _).row).own (by show E.j+1≠E.j+2;omega)
 have w1:Own s1 (E.j+2) (lwL L) 8:=by rw[hs];exact(zX ((E.re.row (dnc L b bl bc k kl kc) 10).row _ 10) (zLV 0 0 0 0 0 0 0 0) 8).put
 obtain⟨q1,c1,s2,k1,m1,r1⟩:=wIN (kc:=kc) ((h.le (le0 E)).le N1.le).ks hk hK;have N2:=N1.trans m1;have x2:=m1.nx;obtain⟨s3,hs3⟩:∃s3,s3=(s2.row [iV 0,iV 0,iV 0,iV 0,iV 0,iV 0,iV 0,iV 0,.slice none 0 0,.slice none 0 0] 10).own s2.j (dnc L none 0 0 q1 kl c1) 10:=⟨_,rfl⟩;have N3:New s2 s3:=by rw[hs3];exact(New.row _ _ _).own (Nat.le_refl _)
 have n3:s3.j=s2.j+1:=by rw[hs3];rfl
 have o3:Own s3 s2.j (dnc L none 0 0 q1 kl c1) 10:=by rw[hs3];exact(zX s2 _ _).put
 have L2:∀{O},New s2 O->Le s1 O:=λhN=>m1.le.trans hN.le
 have kq:=xW (show SlV tP s2 48 1 q1 kl _ from r1.choose_spec.1);have kd:=xW (show SlV tP E 48 1 k kl _ from h.ks.choose_spec.1);have R2:New s2 (s2.row [iV 0,iV 0,iV 0,iV 0,iV 0,iV 0,iV 0,iV 0,.slice none 0 0,.slice none 0 0] 10):=New.row _ _ _;have lw:∀{O},New s2 O->∀(j:Nat) (x:Int),(lwL L)[j]?=some (iV x)->((⟨E.j+2,j,none⟩:Addr).block<O.j/\zN RD (iV x)=true)/\zJ tP O 3 ⟨E.j+2,j,none⟩=some (iV x):=λhN j x hx =>
  ⟨⟨by have:=hN.nx;show E.j+2<_;omega,rfl⟩,(w1.le (L2 hN)).ld rfl zU hx⟩
 have lk:∀{O},New s2 O->((⟨E.j,9,none⟩:Addr).block<O.j/\zN RD (.slice k kl kc)=true)/\zJ tP O 25 ⟨E.j,9,none⟩=some (.slice k kl kc):=λhN =>
  ⟨⟨by have:=hN.nx;show E.j<_;omega,by cases k <;> rfl⟩,(x1.le (L2 hN)).ks⟩
 have key:zQ tP 11 [.agg ⟨dnc L b bl bc k kl kc⟩] E.re λv s=>New E.re s/\∃b' bc' k' kc',v=.agg ⟨dnc L b' bl bc' k' kl kc'⟩/\DnP s 90 89 b' bl k' kl B K:=by
  refine xXE (P0:=λO=>New s2 O/\∃ps cs,Own O s2.j (dnc L ps bl cs q1 kl c1) 10/\zCF O (s2.j+1) 90 89 3 rlV ps bl B) (by rw[<- show E.j=E.re.j from rfl,<- hs];exact k1) (wCY (zR (by show s2.j<s2.j+1;omega)) (λx e=>by cases e) (λx e=>by have:=kq x e;show x.block<s2.j+1;omega))
   (lw (New.refl _) 0 _ rfl) (lw R2 0 _ rfl) (lw (New.refl _) 1 _ rfl) (lw R2 1 _ rfl) (lw (New.refl _) 2 _ rfl) (lw R2 2 _ rfl) (lw (New.refl _) 3 _ rfl) (lw R2 3 _ rfl) (lw (New.refl _) 4 _ rfl) (lw R2 4 _ rfl) (lw (New.refl _) 5 _ rfl) (lw R2 5 _ rfl) (lw (New.refl _) 6 _ rfl) (lw R2 6 _ rfl) (lw (New.refl _) 7 _ rfl) (lw R2 7 _ rfl) (lk (New.refl _)) (lk R2) kd
   (by
    rw[<- hs3];refine yZX (Inv:=λk' i O=>New s2 O/\∃j:Nat,i=j/\j+k'=bl/\∃ps cs,Own O s2.j (dnc L ps j cs q1 kl c1) 10/\zIO O (s2.j+1) 90 89 3 rlV ps j cs (B.take j)) ?_ bl 0 s3 ⟨N3,0,rfl,by omega,none,0,o3,zIO.nil⟩;rintro k' i O ⟨hN,j,rfl,hk',ps,cs,o,hg⟩;have hx:=x1.le (L2 hN);have hlt:=o.lt;by_cases hj:j<bl;rotate_left
    .have:j=bl:=by omega
     subst this;rw[List.take_of_length_le (by omega)]at hg;exact xRM hx.bs ⟨hN,ps,cs,o,hg.rowsF⟩
    obtain⟨a,rfl,x,q,c,hxj,_,_⟩:=((h.le (le0 E)).le (N2.trans hN).le).bs.at hj;have hx14:=hB x (List.mem_of_getElem? hxj);refine xRN (P2:=λp6 l6 c6 z=>New O z/\l6=x.length/\SlV tP z 89 3 p6 x.length (x.map rlV)/\∀b,AtP p6 b->O.j<=b) hx.bs (yZW (Inv:=λk2 p6 l6 c6 i2 z=>New O z/\∃t:Nat,i2=t/\t+k2=x.length/\l6=t/\Gr tP z O.j 89 3 p6 t c6 ((x.take t).map rlV)) ?_ x.length none 0 0 0 O ⟨New.refl _,0,rfl,by omega,rfl,by simpa using Gr.nil⟩) ?_
    .rintro k2 p6 l6 c6 i2 z ⟨hz,t,rfl,hk2,rfl,hgr⟩;have hxz:=hx.le hz.le;obtain⟨a2,e2,x2,q2,c2,hxj2,ld2,hq2⟩:=((h.le (le0 E)).le ((N2.trans hN).trans hz).le).bs.at hj;cases e2
     rw[hxj]at hxj2;cases hxj2;by_cases ht:l6<x.length;rotate_left
     .have:l6=x.length:=by omega
      subst this;rw[List.take_of_length_le (by omega)]at hgr;exact xRK hxz.bs ld2 ⟨hz,rfl,hgr.slv,λb hb=>(hgr.bd hb).1⟩
     obtain⟨a3,rfl,y,hy,ld3⟩:=xA hq2 ht;have hcp:New z ((z.row [iV 0,iV 0,iV 0] 3).own z.j (rlL y) 3):=(New.row _ _ _).own (Nat.le_refl _);obtain⟨p4,c4,V2,g1,g2,g3,g4⟩:=zGM (rlV y) xWD hgr hcp.le (wIM y) (by omega) hz.nx;have hO:Only (AtP p6) z V2:=((hcp.row').only (S:=AtP p6)).trans' g3 λb _ h=>.inl h
     exact xRL hxz.bs ld2 ld3 g1 ⟨k2-1,by omega,hz.of_only hO λb hb=>(hgr.bd hb).1,l6+1,by omega,by omega,rfl,by rw[wE hy,List.map_append];exact g2⟩
    .rintro p6 l6 c6 z ⟨hz,rfl,hq6,f6⟩;obtain⟨p4,c4,V2,g1,g2,g3⟩:=hg.push (d:=c6) xWG wPT hz (by omega) hq6 f6 (by omega);have oo:=g3.own' o λhb=>by have:=(hg.at_ hb).1;omega
     have o1:=o.le hz.le;rw[<- wE hxj]at g2;have st:=oo.store (P:=tP) (k:=8) (t:=43) (v:=.slice p4 (j+1) c4) (vs:=[.slice p4 (j+1) c4]) (ds:=dnc L p4 (j+1) c4 q1 kl c1) rfl wMB rfl (by simp) rfl;have kk:Only (·=s2.j) V2 (V2.own s2.j (dnc L p4 (j+1) c4 q1 kl c1) 10):=Only.own (.inr rfl);exact yZU (o1.ld rfl zXH rfl) g1 st ⟨k' - 1,by omega,(hN.of_only g3 λb hb=>by have:=(hg.at_ hb).1;omega).own (Nat.le_refl _),j+1,by omega,by omega,p4,c4,oo.put,g2.only kk λb hb e=>by omega⟩) ?_
  rintro O ⟨hN,ps,cs,o,hR⟩;have z:=z1.le (L2 hN);have st:=z.store (P:=tP) (k:=0) (t:=45) (v:=.agg ⟨dnc L ps bl cs q1 kl c1⟩) (vs:=dnc L ps bl cs q1 kl c1) (ds:=dnc L ps bl cs q1 kl c1) rfl zAO rfl (by simp) rfl;have hO:Only (·=E.j+1) O (O.own (E.j+1) (dnc L ps bl cs q1 kl c1) 10):=Only.own (.inr rfl);have nn:=hN.nx;exact yZV (o.ldN zGO zAO rfl rfl (by simp)) st (z.put.ldN zGO zAO rfl rfl (by simp)) ⟨(N2.trans hN).own (by show E.j<=E.j+1;omega),ps,cs,q1,c1,rfl,(hR.only hO λb hb e=>by omega).rows,((r1.le hN.le).only hO λb hb e=>by omega).rows⟩
 obtain⟨v,E',h1,h2,b',bc',k',kc',rfl,h3⟩:=zQ.new (Q:=λv s=>∃b' bc' k' kc',v=.agg ⟨dnc L b' bl bc' k' kl kc'⟩/\DnP s 90 89 b' bl k' kl B K) key (by rintro v s s' ⟨_,_,_,_,rfl,g⟩ hle;exact⟨_,_,_,_,rfl,g.le hle⟩) (by
  rintro v s hv ⟨p,c,q,d,rfl,g⟩;cases p with
  |some a=>exact Bool.noConfusion (show false=true from hv)
  |none =>
  cases q with
  |some a=>exact Bool.noConfusion (show false=true from hv)
  |none=>exact⟨none,c,none,d,rfl,g.none⟩)
 exact⟨b',bc',k',kc',E',h1,h2,h3⟩
end
section
noncomputable section
variable(days:oAa)(bM bR BA BB:Nat)(q9:oAa)(l9 c9:Nat)(n10:Int)(q15:oAa)(l15 c15 BC:Nat)(q2:(Option Addr)->Nat->Nat->Int->St->Prop)(t8_1:Bool)(eC qJ:oAa)(q0:(Option Addr)->Nat->Nat->Int->Int->St->Prop)(eE lN eH cJ:Nat)(dW eX cf:Int)(q3:Int->St->Prop)(q4:St->Prop)(q1:Bool->St->Prop)(t8_2:Bool)(E:St)(q5:Int->St->Prop)(Nx:(Option Addr)->Nat->Nat->Int->Int->St->Prop)(Q:vPa)(Qr:Bool->St->Prop)(Q0:(Option Addr)->Nat->Nat->Int->St->Prop)(Q2:St->Prop)
def yMF:Code:=(Code.part [1,1,1,1,1,1,1,1,1,0,1,0,0] (zV tP 3))
def zPM:lNa:=[(3,.slice days bM bR),(4,pq BA 0),(5,pq BB 0),(9,.slice q9 l9 c9),(10,iV n10),(12,.slice q15 l15 c15),(13,pq BC 0),(14,.slice eC eE eH),(15,iV dW),(16,iV cf)]
def xFT:Alt:=⟨(Option Addr)×Nat×Nat×Int×Int,.normal,λt=>zPM days bM bR BA BB q9 l9 c9 n10 q15 l15 c15 BC t.1 t.2.1 t.2.2.1 t.2.2.2.1 t.2.2.2.2,λt=>[],λt E=>q0 t.1 t.2.1 t.2.2.1 t.2.2.2.1 t.2.2.2.2 E⟩
def zZV(days:oAa)(bM bR BA BB:Nat)(q9:oAa)(l9 c9:Nat)(n10:Int)(q15:oAa)(l15 c15 BC:Nat)(t8_1:Bool):lNa:=[(8,.bool t8_1)]
def zMI:Alt:=⟨Bool,.ret,λt=>zZV days bM bR BA BB q9 l9 c9 n10 q15 l15 c15 BC t,λt=>[],λt E=>q1 t E⟩
def zZW(days:oAa)(bM bR BA BB:Nat)(q9:oAa)(l9 c9:Nat)(n10:Int)(q15:oAa)(l15 c15 BC:Nat)(eC:oAa)(eE eH:Nat)(dW:Int):lNa:=[(9,.slice q9 l9 c9),(10,iV n10),(13,pq BC 0),(14,.slice eC eE eH),(15,iV dW)]
def zMJ:Alt:=⟨(Option Addr)×Nat×Nat×Int,(.exit 0),λt=>zZW days bM bR BA BB q9 l9 c9 n10 q15 l15 c15 BC t.1 t.2.1 t.2.2.1 t.2.2.2,λt=>[],λt E=>q2 t.1 t.2.1 t.2.2.1 t.2.2.2 E⟩
def zPN:Prop:=yT tP (topR tP 9) none yMF 290 (zPM days bM bR BA BB q9 l9 c9 n10 q15 l15 c15 BC eC eE eH dW cf) [] [xFT days bM bR BA BB q9 l9 c9 n10 q15 l15 c15 BC Nx,zMI days bM bR BA BB q9 l9 c9 n10 q15 l15 c15 BC Qr,zMJ days bM bR BA BB q9 l9 c9 n10 q15 l15 c15 BC Q0] E
def yMH:Prop:=yW tP (topR tP 9) none yMF 290 (zPM days bM bR BA BB q9 l9 c9 n10 q15 l15 c15 BC eC eE eH dW cf) [] [zMI days bM bR BA BB q9 l9 c9 n10 q15 l15 c15 BC Qr,zMJ days bM bR BA BB q9 l9 c9 n10 q15 l15 c15 BC Q0] E
def yWU:Prop:=kZ (topR tP 9) (zV tP 3) [1,1,1,1,1,1,1,1,1,0,1,0] (kFn tP 3 Q) .ret 290 (zZV days bM bR BA BB q9 l9 c9 n10 q15 l15 c15 BC t8_1) E
def zDG:Prop:=kZ (topR tP 9) (zV tP 3) [1,1,1,1,1,1,1,1,1,0,1,0] (kFn tP 3 Q) (.exit 0) 290 (zZW days bM bR BA BB q9 l9 c9 n10 q15 l15 c15 BC eC eE eH dW) E
def yME:Code:=(Code.part [1,1,1,1,1,1,1,1,1,1,1,1,1,1,1,1,0,1,0,0] (zV tP 3))
def zHI:lNa:=[(13,pq BC 0),(24,.slice qJ lN cJ),(32,iV eX)]
def xFS:Alt:=⟨Int,.normal,λt=>zHI BC qJ lN cJ t,λt=>[],λt E=>q3 t E⟩
def zZT(BC:Nat)(qJ:oAa)(lN cJ:Nat)(t8_2:Bool):lNa:=[(8,.bool t8_2)]
def zMG:Alt:=⟨Bool,.ret,λt=>zZT BC qJ lN cJ t,λt=>[],λt E=>q1 t E⟩
def zZU(BC:Nat)(qJ:oAa)(lN cJ:Nat):lNa:=[]
def zMH:Alt:=⟨Unit,(.exit 2),λt=>zZU BC qJ lN cJ,λt=>[],λt E=>q4 E⟩
def zXS:Prop:=yT tP (topR tP 9) none yME 290 (zHI BC qJ lN cJ eX) [] [xFS BC qJ lN cJ q5,zMG BC qJ lN cJ Qr,zMH BC qJ lN cJ Q2] E
def yMG:Prop:=yW tP (topR tP 9) none yME 290 (zHI BC qJ lN cJ eX) [] [zMG BC qJ lN cJ Qr,zMH BC qJ lN cJ Q2] E
def yWT:Prop:=kZ (topR tP 9) (zV tP 3) [1,1,1,1,1,1,1,1,1,1,1,1,1,1,1,1,0,1,0] (kFn tP 3 Q) .ret 290 (zZT BC qJ lN cJ t8_2) E
def zZX:Prop:=kZ (topR tP 9) (zV tP 3) [1,1,1,1,1,1,1,1,1,1,1,1,1,1,1,1,0,1,0] (kFn tP 3 Q) (.exit 2) 290 (zZU BC qJ lN cJ) E
end
variable{d_L L6 L1501 L1509 L1531 L1533 L13:Lw}{d_b d_k ah ag aZ days d7_b d7_k q9 q15 eC dA_b dA_k qG dC_b dC_k qIB qBE qBF dD_b dD_k dF_b dF_k qR qBG qSB d14_b d14_k q18 q19 qM qX qTB qUB qJ qBH qVB qWB qXB qYB qBX qBY qB qBW qBZ:oAa}{ax az aI aK ae af aa ac aF aG bM bR d7_bl d7_bc d7_kl d7_kc l9 c9 BA BB l15 c15 BC eE eH gK gL gI gJ lK cF lR cO dC_bl dC_bc dC_kl dC_kc lPB cNB lQB cOB lLB cBB lBK cBE lBb cBW lBL cBF dD_bl dD_bc dD_kl dD_kc dF_bl dF_bc dF_kl dF_kc lZ cS lBM cBG lZB cPB d14_bl d14_bc d14_kl d14_kc l18 c18 l19 c19 lT cL lEB cV lAC cQB lBC cRB lN cJ lBN cBH lCC cSB lDC cTB lEC cUB lFC cVB lBf cBX lBc cBY lB cB lBd cBU lBe cBZ:Nat}{ak ao au aj n2 n3 n5 n10 n11 dW cf nBB nO nP nQ nAC nHC nCD nJC nMB nBm nBn nBX nEC nCE n17 n20 n21 n22 nY nRB nSB nTB nFC nBY nBZ nBa nBb nBA nBc nBd nBe nBf nBg nBh nBi nBj nCF nCG eX nFB nCH:Int}{E E8 E12 EA EWB ES EW EX EXB EI E16 EHB EY EIB EJB EBK EBL:St}{Q:vPa}{Inv:Nat->(Option Addr)->Nat->Nat->Int->Int->St->Prop}{Qr Pr:Bool->St->Prop}{Q0 P0:(Option Addr)->Nat->Nat->Int->St->Prop}{q9_a fq qS_a qT_a days_a q15_a qBV_a qJ_a:Addr}{yB yA:Pd}{Nx:(Option Addr)->Nat->Nat->Int->Int->St->Prop}{Q2 P2:St->Prop}
theorem xQE:let s1:=E.row (dnc d_L d_b ax az d_k aI aK) 10;let s2:=s1.row (wkc ak ah ae af ag aa ac ao au aj) 6;∀(h1:CPz 4 [qf (dnc d_L d_b ax az d_k aI aK)] s2 (.bool true)) (h2:CPz 5 [qf (dnc d_L d_b ax az d_k aI aK)] s2 (iV n2)) (nx:Q (.bool true) s2) (u1:¬n2=0:=by omega),zTP tP 9 3 [qf (dnc d_L d_b ax az d_k aI aK),qf (wkc ak ah ae af ag aa ac ao au aj),.slice aZ aF aG,.slice days bM bR] E Q:=
 let s1:=E.row (dnc d_L d_b ax az d_k aI aK) 10;let s2:=s1.row (wkc ak ah ae af ag aa ac ao au aj) 6;λh1 h2 nx u1=>let ch1:List Bs:=[.r (wkc ak ah ae af ag aa ac ao au aj) 6,.r (dnc d_L d_b ax az d_k aI aK) 10];eT [.g3,.F E ch1 0 0 wL xM,.c h1,.g2,.F E ch1 0 0 wL xM,.c h2,.b (uA u1),.g7,.g4,.x (yGP:uR (topR tP 9) (.func 9) [] s2 (.bool true) s2),.g] nx
theorem xQD:let s1:=E.row (dnc d_L d_b ax az d_k aI aK) 10;let s2:=s1.row (wkc ak ah ae af ag aa ac ao au aj) 6;∀(h1:CPz 4 [qf (dnc d_L d_b ax az d_k aI aK)] s2 (.bool true)) (h2:CPz 5 [qf (dnc d_L d_b ax az d_k aI aK)] s2 (iV n2)) (h3:CPz 6 [qf (dnc d_L d_b ax az d_k aI aK)] s2 (iV n3)) (nx:Q (.bool true) s2) (u1:n2=0:=by omega) (u2:6<n3:=by omega),zTP tP 9 3 [qf (dnc d_L d_b ax az d_k aI aK),qf (wkc ak ah ae af ag aa ac ao au aj),.slice aZ aF aG,.slice days bM bR] E Q:=
 let s1:=E.row (dnc d_L d_b ax az d_k aI aK) 10;let s2:=s1.row (wkc ak ah ae af ag aa ac ao au aj) 6;λh1 h2 h3 nx u1 u2=>let ch1:List Bs:=[.r (wkc ak ah ae af ag aa ac ao au aj) 6,.r (dnc d_L d_b ax az d_k aI aK) 10];eT [.g3,.F E ch1 0 0 wL xM,.c h1,.g2,.F E ch1 0 0 wL xM,.c h2,.b (yY u1),.g2,.F E ch1 0 0 wL xM,.c h3,.b (zT u2),.g7,.g2,.x (yGP:uR (topR tP 9) (.func 9) [] s2 (.bool true) s2),.g] nx
@[reducible] def Ha0(d_L:Lw)(d_b d_k ah ag:oAa)(ax az aI aK ae af aa ac:Nat)(E:St)(ak ao au aj n2 n3 n5:Int):Prop:=CPz 4 [.agg ⟨dnc d_L d_b ax az d_k aI aK⟩] ((E.row (dnc d_L d_b ax az d_k aI aK) 10).row (wkc ak ah ae af ag aa ac ao au aj) 6) (.bool true)/\CPz 5 [.agg ⟨dnc d_L d_b ax az d_k aI aK⟩] ((E.row (dnc d_L d_b ax az d_k aI aK) 10).row (wkc ak ah ae af ag aa ac ao au aj) 6) (iV n2)/\CPz 6 [.agg ⟨dnc d_L d_b ax az d_k aI aK⟩] ((E.row (dnc d_L d_b ax az d_k aI aK) 10).row (wkc ak ah ae af ag aa ac ao au aj) 6) (iV n3)/\CPz 7 [.agg ⟨wkc ak ah ae af ag aa ac ao au aj⟩] ((E.row (dnc d_L d_b ax az d_k aI aK) 10).row (wkc ak ah ae af ag aa ac ao au aj) 6) (.bool true)/\CPz 8 [.agg ⟨wkc ak ah ae af ag aa ac ao au aj⟩] ((E.row (dnc d_L d_b ax az d_k aI aK) 10).row (wkc ak ah ae af ag aa ac ao au aj) 6) (iV n5)
theorem xQC:let y0:=wkc ak ah ae af ag aa ac ao au aj;let y1:=dnc d_L d_b ax az d_k aI aK;∀(H:Ha0 d_L d_b d_k ah ag ax az aI aK ae af aa ac E ak ao au aj n2 n3 n5) (nx:Q (.bool true) ((E.row y1 10).row y0 6)) (u1:n2=0:=by omega) (u2:¬6<n3:=by omega) (u3:¬n5=0:=by omega),zTP tP 9 3 [qf y1,qf y0,.slice aZ aF aG,.slice days bM bR] E Q :=
 let y0:=wkc ak ah ae af ag aa ac ao au aj;let y1:=dnc d_L d_b ax az d_k aI aK;λH nx u1 u2 u3=>match H with|⟨h1,h2,h3,h4,h5⟩=>let s1:=E.row y1 10;let s2:=s1.row y0 6;let ch1:List Bs:=[.r y0 6,.r y1 10];eT [.g3,.F E ch1 0 0 wL xM,.c h1,.g2,.F E ch1 0 0 wL xM,.c h2,.b (yY u1),.g2,.F E ch1 0 0 wL xM,.c h3,.b (zY u2),.g2,.F E ch1 1 0 zPE zDU,.c h4,.g3,.F E ch1 1 0 zPE zDU,.c h5,.b (uA u3),.g5,.x (yGP:uR (topR tP 9) (.func 9) [] s2 (.bool true) s2),.g] nx
theorem xQB:let y0:=wkc ak ah ae af ag aa ac ao au aj;let y1:=dnc d_L d_b ax az d_k aI aK;∀(H:Ha0 d_L d_b d_k ah ag ax az aI aK ae af aa ac E ak ao au aj n2 n3 n5) (nx:Q (.bool true) ((E.row y1 10).row y0 6)) (u1:n2=0:=by omega) (u2:¬6<n3:=by omega) (u3:n5=0:=by omega) (u4:3<(aa:Int):=by omega),zTP tP 9 3 [qf y1,qf y0,.slice aZ aF aG,.slice days bM bR] E Q :=
 let y0:=wkc ak ah ae af ag aa ac ao au aj;let y1:=dnc d_L d_b ax az d_k aI aK;λH nx u1 u2 u3 u4=>match H with|⟨h1,h2,h3,h4,h5⟩=>let s1:=E.row y1 10;let s2:=s1.row y0 6;let ch1:List Bs:=[.r y0 6,.r y1 10];eT [.g3,.F E ch1 0 0 wL xM,.c h1,.g2,.F E ch1 0 0 wL xM,.c h2,.b (yY u1),.g2,.F E ch1 0 0 wL xM,.c h3,.b (zY u2),.g2,.F E ch1 1 0 zPE zDU,.c h4,.g3,.F E ch1 1 0 zPE zDU,.c h5,.b (yY u3),.g3,.f E ch1 1 2 zGA,.g,.b (zT u4),.g3,.x (yGP:uR (topR tP 9) (.func 9) [] s2 (.bool true) s2),.g] nx
theorem xQA:let y0:=wkc ak ah ae af ag aa ac ao au aj;let y1:=dnc d_L d_b ax az d_k aI aK;∀(H:Ha0 d_L d_b d_k ah ag ax az aI aK ae af aa ac E ak ao au aj n2 n3 n5) (nx:Q (.bool true) ((E.row y1 10).row y0 6)) (u1:n2=0:=by omega) (u2:¬6<n3:=by omega) (u3:n5=0:=by omega) (u4:¬3<(aa:Int):=by omega) (u5:(bM:Int)=0:=by omega),zTP tP 9 3 [qf y1,qf y0,.slice aZ aF aG,.slice days bM bR] E Q :=
 let y0:=wkc ak ah ae af ag aa ac ao au aj;let y1:=dnc d_L d_b ax az d_k aI aK;λH nx u1 u2 u3 u4 u5=>match H with|⟨h1,h2,h3,h4,h5⟩=>let s1:=E.row y1 10;let s2:=s1.row y0 6;let ch1:List Bs:=[.r y0 6,.r y1 10];eT [.g3,.F E ch1 0 0 wL xM,.c h1,.g2,.F E ch1 0 0 wL xM,.c h2,.b (yY u1),.g2,.F E ch1 0 0 wL xM,.c h3,.b (zY u2),.g2,.F E ch1 1 0 zPE zDU,.c h4,.g3,.F E ch1 1 0 zPE zDU,.c h5,.b (yY u3),.g3,.f E ch1 1 2 zGA,.g,.b (zY u4),.g4,.b (wU u5),.g,.x (yGP:uR (topR tP 9) (.func 9) [] s2 (.bool true) s2),.g] nx
theorem xPZ:let y0:=dnc d_L d_b ax az d_k aI aK;let y1:=dnc L6 d7_b d7_bl d7_bc d7_k d7_kl d7_kc;let y2:=wkc ak ah ae af ag aa ac ao au aj;∀(H:Ha0 d_L d_b d_k ah ag ax az aI aK ae af aa ac E ak ao au aj n2 n3 n5) (h6:CAz 11 [qf y0] ((E.row y0 10).row y2 6) (qf y1) E8) (h7:CAz 10 [qf y1] E8 (.tuple ⟨[.slice q9 l9 c9,iV n10,iV n11]⟩) E12) (nx:Q (.bool true) E12) (u1:n2=0:=by omega) (u2:¬6<n3:=by omega) (u3:n5=0:=by omega) (u4:¬3<(aa:Int):=by omega) (u5:¬(bM:Int)=0:=by omega) (u6:¬n11=0:=by omega) (u7:n11=9:=by omega),zTP tP 9 3 [qf y0,qf y2,.slice aZ aF aG,.slice days bM bR] E Q :=
 let y0:=dnc d_L d_b ax az d_k aI aK;let y2:=wkc ak ah ae af ag aa ac ao au aj;λH h6 h7 nx u1 u2 u3 u4 u5 u6 u7=>match H with|⟨h1,h2,h3,h4,h5⟩=>let ch1:List Bs:=[.r y2 6,.r y0 10];eT [.g3,.F E ch1 0 0 wL xM,.c h1,.g2,.F E ch1 0 0 wL xM,.c h2,.b (yY u1),.g2,.F E ch1 0 0 wL xM,.c h3,.b (zY u2),.g2,.F E ch1 1 0 zPE zDU,.c h4,.g3,.F E ch1 1 0 zPE zDU,.c h5,.b (yY u3),.g3,.f E ch1 1 2 zGA,.g,.b (zY u4),.g4,.b (wG u5),.g,.F E ch1 0 0 wL xM,.c h6,.c h7,.g7,.g,.b (uA u6),.g,.b (wU u7),.g,.x (yGP:uR (topR tP 9) (.func 9) [] E12 (.bool true) E12),.g2] nx
theorem yQR(hb:∀k eC eE eH dW cf E,Inv k eC eE eH dW cf E->zPN days bM bR BA BB q9 l9 c9 n10 q15 l15 c15 BC eC eE eH dW cf E (NX5 Inv k) Qr Q0):∀k eC eE eH dW cf E,Inv k eC eE eH dW cf E->yMH days bM bR BA BB q9 l9 c9 n10 q15 l15 c15 BC eC eE eH dW cf E Qr Q0 :=
 xKA (ai wX (ai (wF 0) trivial)) hb
theorem xFR:let s1:=EA.row (zK 0 0 0 0) 4;let s2:=s1.row (zK 0 0 0 0) 4;let s3:=s2.own EA.j (pdL yB) 4;let s5:=EA.j+1;let s4:=s3.own s5 (pdL yA) 4;let Y1:=s4.row [iV 0,iV 0] 2;let Y2:=Y1.own (EA.j+2) [iV nP,iV nQ] 2;let Y3:=Y2.row (zP nJC (nBB-nO) (nP+nMB) (nQ+nMB) 0) 5;let Y4:=EI.row [iV 0,iV 0,.slice none 0 0,.bool false] 4;∀(h1:LDz E 27 (qe BA 0) (qf (dnc L1501 dA_b gK gL dA_k gI gJ))) (h2:LDz E 48 (zO q9_a (Int.toNat cf*1)) (.slice qG lK cF)) (h3:CPz 13 [qf (dnc L1501 dA_b gK gL dA_k gI gJ),.slice qG lK cF] E (.bool true)) (h4:CAz 14 [qf (dnc L1501 dA_b gK gL dA_k gI gJ),.slice qG lK cF] E (.slice (some fq) lR cO) EA) (h5:LDz EA 53 fq (qf (pdL yB))) (h6:LDz EA 53 (zO fq (Int.toNat ((lR:Int)-1)*4)) (qf (pdL yA))) (h7:zL EA.j [pz fq]) (h8:zL EA.j [.slice (some fq) lR cO]) (h9:zL EA.j [pz (zO fq (Int.toNat ((lR:Int)-1)*4))]) (h10:zL s2.j [pq EA.j 0,qf (pdL yB)]) (h11:zL s3.j [pq s5 0,qf (pdL yA)]) (h12:(zLq EA 53 fq (qf (pdL yB)))) (h13:(zLq s1 53 fq (qf (pdL yB)))) (h14:(zLq s2 53 fq (qf (pdL yB)))) (h15:((zL EA.j [.slice (some fq) lR cO]/\zN RD (iV (lR:Int))=true)/\Callee.builtin .len=Callee.builtin .len/\wA tP (evL [.slice (some fq) lR cO]) EA (.call { callee:=.builtin .len,args:=⟨wT 1⟩,argTypes:=⟨[50]⟩ })=some (iV (lR:Int)))) (h16:((zL s1.j [.slice (some fq) lR cO]/\zN RD (iV (lR:Int))=true)/\Callee.builtin .len=Callee.builtin .len/\wA tP (evL [.slice (some fq) lR cO]) s1 (.call { callee:=.builtin .len,args:=⟨wT 1⟩,argTypes:=⟨[50]⟩ })=some (iV (lR:Int)))) (h17:((zL s2.j [.slice (some fq) lR cO]/\zN RD (iV (lR:Int))=true)/\Callee.builtin .len=Callee.builtin .len/\wA tP (evL [.slice (some fq) lR cO]) s2 (.call { callee:=.builtin .len,args:=⟨wT 1⟩,argTypes:=⟨[50]⟩ })=some (iV (lR:Int)))) (h18:((zL s3.j [.slice (some fq) lR cO]/\zN RD (iV (lR:Int))=true)/\Callee.builtin .len=Callee.builtin .len/\wA tP (evL [.slice (some fq) lR cO]) s3 (.call { callee:=.builtin .len,args:=⟨wT 1⟩,argTypes:=⟨[50]⟩ })=some (iV (lR:Int)))) (h19:(zLq EA 53 (zO fq (Int.toNat ((lR:Int)-1)*4)) (qf (pdL yA)))) (h20:(zLq s1 53 (zO fq (Int.toNat ((lR:Int)-1)*4)) (qf (pdL yA)))) (h21:(zLq s2 53 (zO fq (Int.toNat ((lR:Int)-1)*4)) (qf (pdL yA)))) (h22:(zLq s3 53 (zO fq (Int.toNat ((lR:Int)-1)*4)) (qf (pdL yA)))) (h23:LDz s4 27 (qe BA 0) (qf (dnc L1509 dC_b dC_bl dC_bc dC_k dC_kl dC_kc))) (h24:CPz 15 [qf (dnc L1509 dC_b dC_bl dC_bc dC_k dC_kl dC_kc),iV yB.b,iV yB.f] s4 (iV nBB)) (h25:LDz s4 3 (qe BA 4) (iV nO)) (h26:LDz s4 24 (qe BA 8) (.slice (some qS_a) lPB cNB)) (h27:LDz s4 59 (zO qS_a (Int.toNat yA.b*1)) (.slice (some qT_a) lQB cOB)) (h28:LDz s4 56 (zO qT_a ((Int.toNat yA.t*3)+1)) (qf [iV nP,iV nQ])) (h29:zL s4.j [pq BA 0]) (h30:zL s4.j [pq EA.j 0]) (h31:zL s4.j [pq EA.j 1]) (h32:zL s4.j [qf (dnc L1509 dC_b dC_bl dC_bc dC_k dC_kl dC_kc),iV yB.b,iV yB.f]) (h33:zL s4.j [pq BA 4]) (h34:zL s4.j [pq BA 8]) (h35:zL s4.j [pq s5 0]) (h36:zL s4.j [pz (zO qS_a (Int.toNat yA.b*1))]) (h37:zL s4.j [pq s5 2]) (h38:zL s4.j [pz (zO qT_a ((Int.toNat yA.t*3)+1))]) (h39:zL Y1.j [pq ((EA.j+2)) 0,qf [iV nP,iV nQ]]) (h40:(zLq s4 27 (qe BA 0) (qf (dnc L1509 dC_b dC_bl dC_bc dC_k dC_kl dC_kc)))) (h41:(zLq Y1 27 (qe BA 0) (qf (dnc L1509 dC_b dC_bl dC_bc dC_k dC_kl dC_kc)))) (h42:(zLq s4 3 (qe EA.j 0) (iV yB.b))) (h43:(zLq Y1 3 (qe EA.j 0) (iV yB.b))) (h44:(zLq s4 3 (qe EA.j 1) (iV yB.f))) (h45:(zLq Y1 3 (qe EA.j 1) (iV yB.f))) (h46:(zLq s4 3 (qe BA 4) (iV nO))) (h47:(zLq Y1 3 (qe BA 4) (iV nO))) (h48:(zLq s4 24 (qe BA 8) (.slice (some qS_a) lPB cNB))) (h49:(zLq Y1 24 (qe BA 8) (.slice (some qS_a) lPB cNB))) (h50:(zLq s4 3 (qe s5 0) (iV yA.b))) (h51:(zLq Y1 3 (qe s5 0) (iV yA.b))) (h52:(zLq s4 59 (zO qS_a (Int.toNat yA.b*1)) (.slice (some qT_a) lQB cOB))) (h53:(zLq Y1 59 (zO qS_a (Int.toNat yA.b*1)) (.slice (some qT_a) lQB cOB))) (h54:(zLq s4 3 (qe s5 2) (iV yA.t))) (h55:(zLq Y1 3 (qe s5 2) (iV yA.t))) (h56:(zLq s4 56 (zO qT_a ((Int.toNat yA.t*3)+1)) (qf [iV nP,iV nQ]))) (h57:(zLq Y1 56 (zO qT_a ((Int.toNat yA.t*3)+1)) (qf [iV nP,iV nQ]))) (h58:LDz Y2 28 (qe BC 1) (.slice qIB lLB cBB)) (h59:wW tP .rem 3 (.tmp 139) (.tmp 141) (iV cf) (iV (bM:Int))=some (iV nAC)) (h60:LDz Y2 5 (zO days_a (Int.toNat nAC*1)) (.int .u8 nHC)) (h61:LDz Y2 3 (qe BB 0) (iV nCD)) (h62:wW tP .rem 3 (.tmp 145) (.tmp 147) (iV nHC) (iV nCD)=some (iV nJC)) (h63:LDz Y2 3 (qe BA 5) (iV nMB)) (h64:APz 28 28 (.slice qIB lLB cBB) (.slice (some ⟨(EA.j+3),0,none⟩) 1 1) Y3 (.slice qBE lBK cBE) EWB) (h65:SOz EWB 28 (qe BC 1) (.slice qBE lBK cBE) ES) (h66:zL Y2.j [pq BC 1]) (h67:zL Y2.j [.slice (some days_a) bM bR]) (h68:zL Y2.j [pz (zO days_a (Int.toNat nAC*1))]) (h69:zL Y2.j [pq BB 0]) (h70:zL Y2.j [pq ((EA.j+2)) 0]) (h71:zL Y2.j [pq BA 5]) (h72:zL Y2.j [pq ((EA.j+2)) 1]) (h73:zL Y3.j [.slice qIB lLB cBB,.slice (some ⟨(EA.j+3),0,none⟩) 1 1]) (h74:zL EWB.j [pq BC 1,.slice qBE lBK cBE]) (h75:(zLq Y2 28 (qe BC 1) (.slice qIB lLB cBB))) (h76:(zLq Y3 28 (qe BC 1) (.slice qIB lLB cBB))) (h77:LDz ES 3 (qe s5 0) (iV yA.b)) (h78:LDz ES 48 (zO q15_a (Int.toNat yA.b*1)) (.slice (some qBV_a) lBb cBW)) (h79:LDz ES 3 (qe s5 2) (iV yA.t)) (h80:LDz ES 3 (zO qBV_a (Int.toNat yA.t*1)) (iV nBm)) (h81:LDz ES 3 (qe BA 5) (iV nBn)) (h82:APz 48 48 (.slice eC eE eH) (.slice (some (qe ES.j 0)) 1 1) (ES.row [iV (nBm+nBn)] 1) (.slice qBF lBL cBF) EW) (h83:LDz EW 27 (qe BA 0) (qf (dnc L1531 dD_b dD_bl dD_bc dD_k dD_kl dD_kc))) (h84:CAz 11 [qf (dnc L1531 dD_b dD_bl dD_bc dD_k dD_kl dD_kc)] EW (qf (dnc L1533 dF_b dF_bl dF_bc dF_k dF_kl dF_kc)) EX) (h85:LDz EX 48 (zO q9_a (Int.toNat cf*1)) (.slice qR lZ cS)) (h86:APz 48 48 (.slice none 0 0) (.slice qR lZ cS) EX (.slice qBG lBM cBG) EXB) (h87:CAz 16 [qf (dnc L1533 dF_b dF_bl dF_bc dF_k dF_kl dF_kc),.slice qBG lBM cBG,.slice (some q15_a) l15 c15] EXB (.tuple ⟨[qf [iV nBX,iV nEC,.slice qSB lZB cPB,.bool true],iV nCE]⟩) EI) (h88:zL EW.j [pq BA 0]) (h89:zL EW.j [qf (dnc L1531 dD_b dD_bl dD_bc dD_k dD_kl dD_kc)]) (h90:zL EX.j [pz (zO q9_a (Int.toNat cf*1))]) (h91:zL EX.j [.slice none 0 0,.slice qR lZ cS]) (h92:zL EXB.j [qf (dnc L1533 dF_b dF_bl dF_bc dF_k dF_kl dF_kc),.slice qBG lBM cBG,.slice (some q15_a) l15 c15]) (h93:zL Y4.j [pq EI.j 0,qf [iV nBX,iV nEC,.slice qSB lZB cPB,.bool true]]) (h94:(zLq EI 27 (qe BA 0) (qf (dnc L1531 dD_b dD_bl dD_bc dD_k dD_kl dD_kc)))) (h95:(zLq Y4 27 (qe BA 0) (qf (dnc L1531 dD_b dD_bl dD_bc dD_k dD_kl dD_kc)))) (h96:(zLq EW 48 (zO q9_a (Int.toNat cf*1)) (.slice qR lZ cS))) (h97:(zLq EX 48 (zO q9_a (Int.toNat cf*1)) (.slice qR lZ cS))) (h98:(zLq EI 48 (zO q9_a (Int.toNat cf*1)) (.slice qR lZ cS))) (h99:(zLq Y4 48 (zO q9_a (Int.toNat cf*1)) (.slice qR lZ cS))) (nx:Nx qBF lBL cBF (dW+nEC) (cf+1) (Y4.own EI.j [iV nBX,iV nEC,.slice qSB lZB cPB,.bool true] 4)) (u1:cf<(l9:Int):=by omega) (u2:Ix cf l9:=by omega) (u3:Ix 0 lR:=by omega) (u4:I6 ((lR:Int)-1):=by omega) (u5:Ix ((lR:Int)-1) lR:=by omega) (u6:I6 (nBB-nO):=by omega) (u7:Ix yA.b lPB:=by omega) (u8:Ix yA.t lQB:=by omega) (u9:Ix nAC bM:=by omega) (u10:I6 nHC:=by omega) (u11:I6 (nP+nMB):=by omega) (u12:I6 (nQ+nMB):=by omega) (u13:Ix yA.b l15:=by omega) (u14:Ix yA.t lBb:=by omega) (u15:I6 (nBm+nBn):=by omega) (u16:nCE=0:=by omega) (u17:I6 (dW+nEC):=by omega) (u18:I6 (cf+1):=by omega),zPN (some days_a) bM bR BA BB (some q9_a) l9 c9 n10 (some q15_a) l15 c15 BC eC eE eH dW cf E Nx Qr Q0:=
 let s1:=EA.row (zK 0 0 0 0) 4;let s2:=s1.row (zK 0 0 0 0) 4;let s3:=s2.own EA.j (pdL yB) 4;let s5:=EA.j+1;let s4:=s3.own s5 (pdL yA) 4;λh1 h2 h3 h4 h5 h6 h7 h8 h9 h10 h11 h12 h13 h14 h15 h16 h17 h18 h19 h20 h21 h22 h23 h24 h25 h26 h27 h28 h29 h30 h31 h32 h33 h34 h35 h36 h37 h38 h39 h40 h41 h42 h43 h44 h45 h46 h47 h48 h49 h50 h51 h52 h53 h54 h55 h56 h57 h58 h59 h60 h61 h62 h63 h64 h65 h66 h67 h68 h69 h70 h71 h72 h73 h74 h75 h76 h77 h78 h79 h80 h81 h82 h83 h84 h85 h86 h87 h88 h89 h90 h91 h92 h93 h94 h95 h96 h97 h98 h99 nx u1 u2 u3 u4 u5 u6 u7 u8 u9 u10 u11 u12 u13 u14 u15 u16 u17 u18=>let ch1:List Bs:=[.r (zK 0 0 0 0) 4,.r (zK 0 0 0 0) 4];let ch2:List Bs:=.r [iV 0,iV 0] 2::.o 1 (pdL yA) 4::.o 0 (pdL yB) 4::ch1;let ch3:List Bs:=.o 2 [iV nP,iV nQ] 2::ch2;let ch4:List Bs:=[.r [iV 0,iV 0,.slice none 0 0,.bool false] 4];let ch5:List Bs:=.o 0 [iV nBX,iV nEC,.slice qSB lZB cPB,.bool true] 4::ch4;eO 0 (qBF,lBL,cBF,dW+nEC,cf+1) [.g3,.b (zT u1),.l h1,.g2,.i u2,.l h2,.c h3,.g,.l h1,.g2,.i u2,.l h2,.c h4,.g2,.i u3,.l h5,.g3,.w u4,.i u5,.l h6,.g2,.s EA ch1 0 0 ySQ (qf (pdL yB)),.e (((zX _ _ _).own (nne EA.j 1 0 rfl)).store (vs:=(pdL yA)) rfl ySQ rfl (nle rfl) rfl:yN tP (evL [pq s5 0,qf (pdL yA)]) s3 (.store 53 (.tmp 0) (.tmp 1))=some (undef,s4)),.p h7,.p h8,.p h9,.p h10,.p h11,.p h12,.p h13,.p h13,.p h14,.p h15,.p h16,.p h16,.p h17,.p h17,.p h18,.p h19,.p h20,.p h20,.p h21,.p h21,.p h22,.l h23,.g,.l (((zX _ _ _).row.put.own (nne EA.j 0 1 rfl)).rw.ld zU (k:=0) rfl:zJ tP s4 3 (qe EA.j 0)=some (iV yB.b)),.g,.l (((zX _ _ _).row.put.own (nne EA.j 0 1 rfl)).rw.ld zU (k:=1) rfl:zJ tP s4 3 (qe EA.j 1)=some (iV yB.f)),.c h24,.g2,.l h25,.w u6,.g,.l h26,.g,.l (((zX _ _ _).own (nne EA.j 1 0 rfl)).put.rw.ld zU (k:=0) rfl:zJ tP s4 3 (qe s5 0)=some (iV yA.b)),.i u7,.l h27,.g,.l (((zX _ _ _).own (nne EA.j 1 0 rfl)).put.rw.ld zU (k:=2) rfl:zJ tP s4 3 (qe s5 2)=some (iV yA.t)),.i u8,.g,.l h28,.g2,.s EA ch2 2 0 xID (qf [iV nP,iV nQ]),.g,.p h29,.p h30,.p h31,.p h32,.p h33,.p h34,.p h35,.p h36,.p h37,.p h38,.p h39,.p h40,.p h41,.p h42,.p h43,.p h44,.p h45,.p h46,.p h46,.p h46,.p h47,.p h48,.p h48,.p h48,.p h49,.p h50,.p h50,.p h50,.p h51,.p h52,.p h52,.p h52,.p h53,.p h54,.p h54,.p h54,.p h55,.p h56,.p h56,.p h56,.p h57,.l h58,.g4,.v h59,.i u9,.l h60,.w u10,.g,.l h61,.v h62,.g2,.f EA ch3 2 0 zU,.g2,.l h63,.w u11,.g,.f EA ch3 2 1 zU,.g2,.l h63,.w u12,.g3,.e h64,.g,.e h65,.g3,.p h66,.p h67,.p h68,.p h69,.p h70,.p h71,.p h72,.p h71,.p ((zI (yX rfl) zM):zL ((s4.row [iV 0,iV 0] 2).own (EA.j+2) [iV nP,iV nQ] 2).j [qf (zP nJC (nBB-nO) (nP+nMB) (nQ+nMB) 0)]),.p h73,.p h74,.p h75,.p h76,.l h77,.i u13,.l h78,.g,.l h79,.i u14,.l h80,.g2,.l h81,.w u15,.g,.e h82,.g,.l h83,.c h84,.g2,.i u2,.l h85,.e h86,.g,.c h87,.g4,.s EI ch4 0 0 wMA (qf [iV nBX,iV nEC,.slice qSB lZB cPB,.bool true]),.g2,.p h88,.p h89,.p h90,.p h91,.p h92,.p h93,.p h94,.p h95,.p h96,.p h97,.p h98,.p h99,.b (yY u16),.g2,.f EI ch5 0 3 zXI,.g4,.f EI ch5 0 1 zU,.w u17,.g2,.w u18,.g] nx
theorem xFQ(nx:Q0 eC eE eH dW E)(u1:¬cf<(l9:Int):=by omega):zPN days bM bR BA BB q9 l9 c9 n10 q15 l15 c15 BC eC eE eH dW cf E Nx Qr Q0 :=
 eO 2 (eC,eE,eH,dW) [.g3,.b (zY u1)] nx
theorem xPY:let y0:=wkc n17 q18 l18 c18 q19 l19 c19 n20 n21 n22;let y1:=dnc L13 d14_b d14_bl d14_bc d14_k d14_kl d14_kc;let y2:=dnc d_L d_b ax az d_k aI aK;let y3:=dnc L6 d7_b d7_bl d7_bc d7_k d7_kl d7_kc;let y4:=wkc ak ah ae af ag aa ac ao au aj;∀(H:Ha0 d_L d_b d_k ah ag ax az aI aK ae af aa ac E ak ao au aj n2 n3 n5) (h6:CAz 11 [qf y2] ((E.row y2 10).row y4 6) (qf y3) E8) (h7:CAz 10 [qf y3] E8 (.tuple ⟨[.slice q9 l9 c9,iV n10,iV n11]⟩) E12) (h8:LDz E12 27 (qe E.j 0) (qf y1)) (h9:CAz 12 [qf y1,.slice aZ aF aG] E12 (.slice q15 l15 c15) E16) (h10:LDz E16 31 ⟨(E.j+1),0,none⟩ (qf y0)) (hL:yMH days bM bR E.j (E.j+1) q9 l9 c9 n10 q15 l15 c15 E16.j none 0 0 0 0 (((E16.row (wkc 0 none 0 0 none 0 0 0 0 0) 6).own E16.j y0 6).own E16.j (wkc n17 none 0 0 q19 l19 c19 n20 n21 n22) 6) Pr P0) (kr:∀t8_1' E',Pr t8_1' E'->yWU days bM bR E.j (E.j+1) q9 l9 c9 n10 q15 l15 c15 E16.j t8_1' E' Q) (k0:∀p14_1' l14_1' c14_1' i15_1' E',P0 p14_1' l14_1' c14_1' i15_1' E'->zDG days bM bR E.j (E.j+1) q9 l9 c9 n10 q15 l15 c15 E16.j p14_1' l14_1' c14_1' i15_1' E' Q) (u1:n2=0:=by omega) (u2:¬6<n3:=by omega) (u3:n5=0:=by omega) (u4:¬3<(aa:Int):=by omega) (u5:¬(bM:Int)=0:=by omega) (u6:n11=0:=by omega),zTP tP 9 3 [qf y2,qf y4,.slice aZ aF aG,.slice days bM bR] E Q :=
 let y0:=wkc n17 q18 l18 c18 q19 l19 c19 n20 n21 n22;let y2:=dnc d_L d_b ax az d_k aI aK;let y4:=wkc ak ah ae af ag aa ac ao au aj;λH h6 h7 h8 h9 h10 hL kr k0 u1 u2 u3 u4 u5 u6=>match H with|⟨h1,h2,h3,h4,h5⟩=>let s1:=zPM days bM bR E.j (E.j+1) q9 l9 c9 n10 q15 l15 c15 E16.j none 0 0 0 0;let ch1:List Bs:=[.r y4 6,.r y2 10];let ch2:List Bs:=[.r (wkc 0 none 0 0 none 0 0 0 0 0) 6];let ch3:List Bs:=.o 0 y0 6::ch2;eT [.g3,.F E ch1 0 0 wL xM,.c h1,.g2,.F E ch1 0 0 wL xM,.c h2,.b (yY u1),.g2,.F E ch1 0 0 wL xM,.c h3,.b (zY u2),.g2,.F E ch1 1 0 zPE zDU,.c h4,.g3,.F E ch1 1 0 zPE zDU,.c h5,.b (yY u3),.g3,.f E ch1 1 2 zGA,.g,.b (zY u4),.g4,.b (wG u5),.g,.F E ch1 0 0 wL xM,.c h6,.c h7,.g7,.g,.b (yY u6),.l h8,.g,.c h9,.g,.l h10,.g,.s E16 ch2 0 0 zDU (qf y0),.g,.s E16 ch3 0 1 wMC (.slice none 0 0),.g3,.k (.lf 290 s1 [zMI days bM bR E.j (E.j+1) q9 l9 c9 n10 q15 l15 c15 E16.j Pr,zMJ days bM bR E.j (E.j+1) q9 l9 c9 n10 q15 l15 c15 E16.j P0])] (ai (ai tt (ai (arf s1) hL)) (ai (λ(t:Bool) (g':Nat->Value) (E':St) (q:Pr t E')=>kr t E' q g') (ai (λ(t:(Option Addr)×Nat×Nat×Int) (g':Nat->Value) (E':St) (q:P0 t.1 t.2.1 t.2.2.1 t.2.2.2 E')=>k0 t.1 t.2.1 t.2.2.1 t.2.2.2 E' q g') trivial)))
theorem xPX:let s1:=E.row (dnc d_L d_b ax az d_k aI aK) 10;let s2:=s1.row (wkc ak ah ae af ag aa ac ao au aj) 6;∀(h1:CPz 4 [qf (dnc d_L d_b ax az d_k aI aK)] s2 (.bool true)) (h2:CPz 5 [qf (dnc d_L d_b ax az d_k aI aK)] s2 (iV n2)) (h3:CPz 6 [qf (dnc d_L d_b ax az d_k aI aK)] s2 (iV n3)) (h4:CPz 7 [qf (wkc ak ah ae af ag aa ac ao au aj)] s2 (.bool false)) (nx:Q (.bool true) s2) (u1:n2=0:=by omega) (u2:¬6<n3:=by omega),zTP tP 9 3 [qf (dnc d_L d_b ax az d_k aI aK),qf (wkc ak ah ae af ag aa ac ao au aj),.slice aZ aF aG,.slice days bM bR] E Q:=
 let s1:=E.row (dnc d_L d_b ax az d_k aI aK) 10;let s2:=s1.row (wkc ak ah ae af ag aa ac ao au aj) 6;λh1 h2 h3 h4 nx u1 u2=>let ch1:List Bs:=[.r (wkc ak ah ae af ag aa ac ao au aj) 6,.r (dnc d_L d_b ax az d_k aI aK) 10];eT [.g3,.F E ch1 0 0 wL xM,.c h1,.g2,.F E ch1 0 0 wL xM,.c h2,.b (yY u1),.g2,.F E ch1 0 0 wL xM,.c h3,.b (zY u2),.g2,.F E ch1 1 0 zPE zDU,.c h4,.g7,.g,.x (yGP:uR (topR tP 9) (.func 9) [] s2 (.bool true) s2),.g] nx
theorem xPW:let s1:=E.row (dnc d_L d_b ax az d_k aI aK) 10;let s2:=s1.row (wkc ak ah ae af ag aa ac ao au aj) 6;∀(h1:CPz 4 [qf (dnc d_L d_b ax az d_k aI aK)] s2 (.bool false)) (nx:Q (.bool true) s2),zTP tP 9 3 [qf (dnc d_L d_b ax az d_k aI aK),qf (wkc ak ah ae af ag aa ac ao au aj),.slice aZ aF aG,.slice days bM bR] E Q:=
 let s1:=E.row (dnc d_L d_b ax az d_k aI aK) 10;let s2:=s1.row (wkc ak ah ae af ag aa ac ao au aj) 6;λh1 nx=>let ch1:List Bs:=[.r (wkc ak ah ae af ag aa ac ao au aj) 6,.r (dnc d_L d_b ax az d_k aI aK) 10];eT [.g3,.F E ch1 0 0 wL xM,.c h1,.g7,.g6,.x (yGP:uR (topR tP 9) (.func 9) [] s2 (.bool true) s2),.g] nx
theorem yQP(h1:LDz E 31 (qe BC 0) (qf (wkc nY qM lT cL qX lEB cV nRB nSB nTB)))(h2:CPz 8 [qf (wkc nY qM lT cL qX lEB cV nRB nSB nTB)] E (iV nFC))(nx:Q (.bool true) E)(u1:¬n10<dW:=by omega)(u2:¬nFC=0:=by omega):zDG days bM bR BA BB q9 l9 c9 n10 q15 l15 c15 BC eC eE eH dW E Q :=
 eK [.g2,.b (zY u1),.l h1,.c h2,.b (uA u2),.x (yGP:uR (topR tP 9) (.func 9) [] E (.bool true) E),.g] nx
theorem yQO:let y0:=wkc nY qM lT cL qX lEB cV nRB nSB nTB;let y1:=wkc nBY qTB lAC cQB qUB lBC cRB nBZ nBa nBb;let y2:=wkc nBc qVB lCC cSB qWB lDC cTB nBd nBe nBf;let y3:=wkc nBg qXB lEC cUB qYB lFC cVB nBh nBi nBj;∀(h1:LDz E 31 (qe BC 0) (qf y0)) (h2:CPz 8 [qf y0] E (iV nFC)) (h3:CAz 18 [qf y0] E (qf y1) EHB) (h4:CAz 17 [qf y1] EHB (.tuple ⟨[.slice qJ lN cJ,.slice qBH lBN cBH,iV nBA]⟩) EY) (h5:LDz EY 31 (qe BC 0) (qf y2)) (h6:CAz 18 [qf y2] EY (qf y3) EIB) (h7:CAz 19 [qf y3] EIB (.tuple ⟨[.slice qBX lBf cBX,iV nCF,iV nCG]⟩) EJB) (h8:LDz EJB 28 (qe BC 1) (.slice qBY lBc cBY)) (nx:Q (.bool true) EJB) (u1:¬n10<dW:=by omega) (u2:nFC=0:=by omega) (u3:¬nBA=0:=by omega) (u4:nBA=9:=by omega) (u5:nCG=0:=by omega) (u6:nCF<(lBc:Int):=by omega),zDG days bM bR BA BB q9 l9 c9 n10 q15 l15 c15 BC eC eE eH dW E Q :=
 λh1 h2 h3 h4 h5 h6 h7 h8 nx u1 u2 u3 u4 u5 u6=>eK [.g2,.b (zY u1),.l h1,.c h2,.b (yY u2),.l h1,.c h3,.c h4,.g7,.g,.b (uA u3),.l h5,.c h6,.c h7,.g7,.g,.b (wU u4),.g2,.b (wU u5),.g4,.l h8,.g,.b (zT u6),.g2,.x (yGP:uR (topR tP 9) (.func 9) [] EJB (.bool true) EJB),.g2] nx
theorem yQQ{Inv:Nat->Int->St->Prop}(hb:∀k eX E,Inv k eX E->zXS BC qJ lN cJ eX E (NX1 Inv k) Qr Q2):∀k eX E,Inv k eX E->yMG BC qJ lN cJ eX E Qr Q2 :=
 xE (ai wX (ai (wF 2) trivial)) hb
theorem xFP{Nx:Int->St->Prop}(h1:LDz E 3 (zO qJ_a (Int.toNat eX*1)) (iV nFB))(h2:LDz E 29 (qe BC 2) (.slice qB lB cB))(nx:Nx (eX+1) E)(u1:eX<(lN:Int):=by omega)(u2:Ix eX lN:=by omega)(u3:¬nFB<0:=by omega)(u4:¬(lB:Int)<=nFB:=by omega)(u5:I6 (eX+1):=by omega):zXS BC (some qJ_a) lN cJ eX E Nx Qr Q2 :=
 eO 0 (eX+1) [.g3,.b (zT u1),.g2,.i u2,.l h1,.b (zY u3),.g3,.i u2,.l h1,.g,.l h2,.g,.b (xX u4),.g2,.w u5,.g] nx
theorem xFO{Nx:Int->St->Prop}(nx:Q2 E)(u1:¬eX<(lN:Int):=by omega):zXS BC qJ lN cJ eX E Nx Qr Q2 :=
 eO 2 () [.g3,.b (zY u1)] nx
theorem yQN:let y0:=wkc nY qM lT cL qX lEB cV nRB nSB nTB;let y1:=wkc nBY qTB lAC cQB qUB lBC cRB nBZ nBa nBb;let y2:=wkc nBc qVB lCC cSB qWB lDC cTB nBd nBe nBf;let y3:=wkc nBg qXB lEC cUB qYB lFC cVB nBh nBi nBj;∀(h1:LDz E 31 (qe BC 0) (qf y0)) (h2:CPz 8 [qf y0] E (iV nFC)) (h3:CAz 18 [qf y0] E (qf y1) EHB) (h4:CAz 17 [qf y1] EHB (.tuple ⟨[.slice qJ lN cJ,.slice qBH lBN cBH,iV nBA]⟩) EY) (h5:LDz EY 31 (qe BC 0) (qf y2)) (h6:CAz 18 [qf y2] EY (qf y3) EIB) (h7:APz 48 48 (.slice none 0 0) (.slice qJ lN cJ) EIB (.slice qBW lBd cBU) EBK) (h8:CAz 20 [qf y3,.slice qBW lBd cBU,.slice eC eE eH] EBK (.tuple ⟨[.slice qBZ lBe cBZ,iV nCH]⟩) EBL) (hL:yMG BC qJ lN cJ 0 EBL Pr P2) (kr:∀t8_2' E',Pr t8_2' E'->yWT BC qJ lN cJ t8_2' E' Q) (k2:∀E',P2 E'->zZX BC qJ lN cJ E' Q) (u1:¬n10<dW:=by omega) (u2:nFC=0:=by omega) (u3:nBA=0:=by omega) (u4:nCH=0:=by omega) (u5:(lBe:Int)=0:=by omega) (u6:(lN:Int)=(l9:Int):=by omega),zDG days bM bR BA BB q9 l9 c9 n10 q15 l15 c15 BC eC eE eH dW E Q :=
 λh1 h2 h3 h4 h5 h6 h7 h8 hL kr k2 u1 u2 u3 u4 u5 u6=>eK [.g2,.b (zY u1),.l h1,.c h2,.b (yY u2),.l h1,.c h3,.c h4,.g7,.g,.b (yY u3),.l h5,.c h6,.g,.e h7,.g,.c h8,.g6,.b (yY u4),.g3,.b (yY u5),.g6,.b (yY u6),.g2,.k (.lf 290 (zHI BC qJ lN cJ 0) [zMG BC qJ lN cJ Pr,zMH BC qJ lN cJ P2])] (ai (ai tt (ai (arf (zHI BC qJ lN cJ 0)) hL)) (ai (λ(t:Bool) (g':Nat->Value) (E':St) (q:Pr t E')=>kr t E' q g') (ai (λ(t:Unit) (g':Nat->Value) (E':St) (q:P2 E')=>k2 E' q g') trivial)))
theorem yQM(nx:Q (.bool true) E):zZX BC qJ lN cJ E Q :=
 eK [.x (yGP:uR (topR tP 9) (.func 9) [] E (.bool true) E),.g] nx
end
section
variable{n:Nat}{a:Addr}
abbrev wDN(x:Int):Value:=.int .u8 x
theorem wEE:AppT tP 28 28 62 5:=zAW (by kernel_rfl)
theorem wCQ(x:Dty):zDV tP 62 5 (zBB x):=.inr ⟨by kernel_rfl,by kernel_rfl,_,rfl,rfl⟩
theorem bP(h:a.block<n):zL n [.pointer (some a)]:=zI (zR h) zM
theorem bV{v:Value}(h:a.block<n)(hv:yQ RD n v=true):zL n [.pointer (some a),v]:=zI (zR h) (zI hv zM)
structure RnI(z:St)(X:Nat)(w:Wk)(q:Option Addr)(m d:Nat)(L:Lw)(B:List (List Rl))(T:List (List Int))(xs:List Nat)(j:Nat)(p:Option Addr)(c:Nat)(i:Int)(O:St):Prop where
 new:New z O
 ex:∃(ds:List Dty) (ts:List Int) (xp:Option Addr) (xc:Nat),Own O X (wkc w.J xp j xc q m d w.rest w.run w.N) 6/\Gr tP O z.j 62 5 xp j xc (ds.map zBB)/\Gr tP O z.j 3 1 p j c (ts.map yK)/\(∀b,AtP xp b->b≠X/\¬AtP p b)/\(∀b,AtP p b->b≠X)/\∀i,i<j->(ds.getD i default).lo<=yU ts i/\yU ts i<=(ds.getD i default).hi
 wk:i=((xs.take j).map λx=>wJ L (bgT T) (enT T) (wC B x)).sum
section
variable{z O:St}{D W X bl bc kl kc m d c j yl yc n9 c9 cM:Nat}{b k p q yp q9 q15:Option Addr}{L:Lw}{B:List (List Rl)}{K T:List (List Int)}{w:Wk}{xs:List Nat}{ys ws:List Int}{i n10:Int}
theorem wKN(hD:OkD L B K)(hT:TrOk B T)(hs6:yZ B<=6){x:Nat}(h0:0<x)(hx:x<2 ^ yZ B):-3000<=wJ L (bgT T) (enT T) (wC B x)/\wJ L (bgT T) (enT T) (wC B x)<=9000:=by
 have h1:=yGT (x:=x) hD hT;have h2:=(xZY hD hs6 h0 hx).2;refine⟨?_,by omega⟩
 have hf:=hD.law.f;have ho:=hD.law.o;unfold okM at hf ho;unfold wJ;split
 .rename_i a b e1 e2;have ha:a∈wC B x:=List.mem_of_head? e1;have hb:b∈wC B x:=List.mem_of_getLast? e2;obtain⟨i,p,e,n,rfl,g1,g2,g3,g4⟩:=zGJ (by have:=hD.ns;omega) a ha;obtain⟨j,q,e',n',rfl,k1,k2,k3,k4⟩:=zGJ (by have:=hD.ns;omega) b hb;obtain⟨_,_,r3,r4,r5⟩:=zBX hD.blks g1 (by omega:p<_);obtain⟨_,_,r6,r7,r8⟩:=zBX hD.blks k1 k3;obtain⟨_,_,_,_,s1⟩:=yBF hT g1 (by omega:p<_);obtain⟨_,_,_,s2,_⟩:=yBF hT k1 k3;show -3000<=tmF T j e'+L.f-tmF T i p+L.o;omega
 .omega
theorem xYB{f:Nat->Int}:∀(xs:List Nat) (j:Nat),(∀x∈xs, -3000<=f x/\f x<=9000)->-3000*(j:Int)<=((xs.take j).map f).sum/\((xs.take j).map f).sum<=9000*(j:Int)
 |[],j,_=>by simp;omega
 |x::xs,0,_=>by simp
 |x::xs,j+1,h=>by
  have ih:=xYB xs j λy hy=>h y (.tail _ hy)
  have h1:=h x (.head _);rw[List.take_succ_cons,List.map_cons,List.sum_cons];omega
theorem xCI{Nx:Option Addr->Nat->Nat->Int->Int->St->Prop}{Qr:Bool->St->Prop}{Q0:Option Addr->Nat->Nat->Int->St->Prop}
  (oD:Own z D (dnc L b bl bc k kl kc) 10) (oW:Row z ⟨W,0,none⟩ [iV w.J]) (h:DnP z 59 58 b bl k kl B K) (hD:OkD L B K) (hs6:yZ B<=6) (hB:∀r∈B,r.length<=14) (hK:∀r∈K,r.length<=14) (hxs:∀x∈xs,0<x/\x<2 ^ yZ B/\uP L B K x=true)
  (hpl:zIP z q9 n9 (xs.map zVX)) (h64:n9<=64) (hm:zIP z q15 bl T) (hT:TrOk B T) (hy:SlV tP z 5 1 yp yl (ys.map wDN)) (hyr:∀y∈ys,0<=y/\y<=255) (hyl:0<yl) (hw1:1<=w.J/\w.J<=7) (hX:z.j<=X)
  (hI:RnI z X w q m d L B T xs j p c i O) (hj:j<n9) (nx:∀p c i O',RnI z X w q m d L B T xs (j+1) p c i O'->Nx p (j+1) c i ((j:Int)+1) O') :
  zPN yp yl yc D W q9 n9 c9 n10 q15 bl cM X p j c i (j:Int) O Nx Qr Q0:=by
 have hxl:xs.length=n9:=by have:=hpl.len;simpa using this
 have eB:=h.bs.len;have eK:=h.ks.len;have hnb:=hD.nb;have hnk:=hD.nk;have hN:=hI.new;obtain⟨ds,ts,xp,xc,oX,hg,hgt,ap1,ap2,hin⟩:=hI.ex;have hwk:=hI.wk;have hdl:ds.length=j:=by have:=hg.len_eq;rwa [List.length_map]at this
 have htl:ts.length=j:=by have:=hgt.len_eq;rwa [List.length_map]at this
 have law:=hD.law;have lo:=law.o;have lf:=law.f;unfold okM at lo lf;have ldD:∀{s},New z s->zJ tP s 27 ⟨D,0,none⟩=some (.agg ⟨dnc L b bl bc k kl kc⟩):=λn=>(oD.le n.le).ldN (k:=0) (by kernel_rfl) (by kernel_rfl) rfl rfl (by simp)
 have lfD:∀{s},New z s->∀(k':Nat) (x:Int),(dnc L b bl bc k kl kc)[k']?=some (iV x)->zJ tP s 3 ⟨D,k',none⟩=some (iV x):=λn k' x hx=>(oD.le n.le).ld rfl zU hx
 have lbD:∀{s},New z s->zJ tP s 24 ⟨D,8,none⟩=some (.slice b bl bc):=λn=>(oD.le n.le).ld (k:=8) rfl yJM rfl
 have ldW:∀{s},New z s->zJ tP s 3 ⟨W,0,none⟩=some (iV w.J):=λn=>(oW.le n.le).ld zU rfl
 have dlt:=oD.lt;have wlt:=oW.lt;have xlt:=oX.lt;have hNx:=hN.nx;have hxj:xs[j]?=some (xs[j]'(by omega)):=by simp
 obtain⟨x,ex⟩:∃x,x=xs[j]'(by omega):=⟨_,rfl⟩;rw[<- ex]at hxj;obtain⟨vq,gq1,gq2,gq3⟩:=hpl;obtain⟨rq,rc,eq1,sq⟩:=gq3 j (zVX x) (by rw[List.getElem?_map,hxj];rfl);obtain⟨aq,rfl,_⟩:=gq1.some hj;have rowA:∀{s},New z s->zJ tP s 48 (zO aq (Int.toNat (j:Int)*1))=some (.slice rq (zVX x).length rc):=λn=>(gq1.le n.le).at rfl eq1
 have rowI:∀{s},New z s->yM s rq (zVX x).length ((vW x 10).map λn:Nat=>(n:Int)):=λn=>SlV.le sq n.le
 have yCU:∀{s},New z s->aq.block<s.j:=λn=>xW (gq1.le n.le) aq rfl
 obtain⟨x0,x1,x2⟩:=hxs x (List.mem_of_getElem? hxj);have h64x:2 ^ yZ B<=2 ^ 6:=Nat.pow_le_pow_right (by omega) hs6;have x10:x<2 ^ 10:=by omega
 have hb10:(vW x 10).length<=10:=xED;have rl:(zVX x).length=(vW x 10).length:=by unfold zVX;rw[List.length_map]
 have h0:=wJL x10 x0;have h1:∀y∈vW x 10,y<yZ B:=λy hy=>wJM x1 hy
 have h2:∀(i:Nat) y z,(vW x 10)[i]?=some y->(vW x 10)[i+1]?=some z->y<z:=λi y z=>wJK
 have hq':=rowI hN;have hB1:∀r∈B,r.length<=1000:=λr hr=>by have:=hB r hr;omega
 have hK1:∀r∈K,r.length<=1000:=λr hr=>by have:=hK r hr;omega
 have c13:=xUZ (L:=L) (bc:=bc) (kc:=kc) (c:=rc) (h.le hN.le) hD (by omega) hB1 hq' h0 h1 h2 (by omega);obtain⟨q5,ql,qc,t1,yy,c14,M1',sl,hq0,hq1,hok⟩:=xUY (L:=L) (bc:=bc) (kc:=kc) (lc:=rc) (h.le hN.le) hD hq' h0 h1 (by omega);have M1:=hN.trans M1';have n1:=M1'.nx;obtain⟨a5,rfl,y0,hy0,l0'⟩:=xA sl (i:=0) hq0;have l0:zJ tP t1 53 a5=some (.agg ⟨pdL y0⟩):=by simpa [zO] using l0'
 obtain⟨a5',e5,y1,hy1,l1⟩:=xA sl (i:=ql-1) (by omega);cases e5
 rw[show(((ql-1:Nat)):Int)=((ql:Nat):Int)-1 by omega]at l1;obtain⟨i0,a0,e0,f0,ey0,p1,p2,p3⟩:=hok y0 (List.mem_of_getElem? hy0);obtain⟨i1,a1,e1,f1,ey1,p4,p5,p6⟩:=hok y1 (List.mem_of_getElem? hy1);have la1:a5.block<t1.j:=xW sl a5 rfl;have U1:New t1 (t1.row (zK 0 0 0 0) 4):=New.row _ _ _;have U2:New t1 ((t1.row (zK 0 0 0 0) 4).row (zK 0 0 0 0) 4):=U1.row';have U3:New t1 (((t1.row (zK 0 0 0 0) 4).row (zK 0 0 0 0) 4).own t1.j (pdL y0) 4):=U2.own (Nat.le_refl _);have slr:∀{s},New t1 s->∀{v:Pd} {ii:Nat},yy[ii]?=some v->zJ tP s 53 (zO a5 (Int.toNat (ii:Int)*4))=some (.agg ⟨pdL v⟩):=λn v ii hv=>(SlV.le sl n.le).at rfl (by rw[List.getElem?_map,hv];rfl)
 have l0r:zJ tP (t1.row (zK 0 0 0 0) 4) 53 a5=some (.agg ⟨pdL y0⟩):=by simpa [zO] using slr U1 hy0
 have l0s:zJ tP ((t1.row (zK 0 0 0 0) 4).row (zK 0 0 0 0) 4) 53 a5=some (.agg ⟨pdL y0⟩):=by simpa [zO] using slr U2 hy0
 have l1':∀{s},New t1 s->zJ tP s 53 (zO a5 (Int.toNat (((ql:Nat):Int)-1)*4))=some (.agg ⟨pdL y1⟩):=λn=>by
  have:=slr n hy1;rwa [show(((ql-1:Nat)):Int)=((ql:Nat):Int)-1 by omega]at this
 have l1r:=l1' U1;have l1s:=l1' U2;have l1t:=l1' U3;obtain⟨t3,ht3⟩:∃t3,t3=(((t1.row (zK 0 0 0 0) 4).row (zK 0 0 0 0) 4).own t1.j (pdL y0) 4).own (t1.j+1) (pdL y1) 4:=⟨_,rfl⟩;have n3:t3.j=t1.j+2:=by rw[ht3];rfl
 have M3':New t1 t3:=by rw[ht3];exact U3.own (by omega)
 have M3:=M1.trans M3';have o03:Own t3 t1.j (pdL y0) 4:=by rw[ht3];exact((((zX t1 _ 4).row).put).own (by omega))
 have o13:Own t3 (t1.j+1) (pdL y1) 4:=by rw[ht3];exact((zX (t1.row (zK 0 0 0 0) 4) _ 4).own (by show t1.j+1≠t1.j;omega)).put
 have c15:zW tP 15 [.agg ⟨dnc L b bl bc k kl kc⟩,iV y0.b,iV y0.f] t3 (iV (vJ B i0 a0).lo) t3:=by rw[ey0];exact wDC (h.le M3.le) p1 p2
 have hbx:B[i1]?=some (zAL B i1):=by have:=List.getElem?_eq_getElem p4;rw[this];exact congrArg some (zOZ this).symm
 obtain⟨vb,gb1,gb2,gb3⟩:=h.bs;obtain⟨qb0,db,eb1,sb⟩:=gb3 i1 _ hbx;obtain⟨ab,rfl,_⟩:=gb1.some (i:=i1) (by omega);obtain⟨qb,rfl,_⟩:=sb.some p6;have lbA:∀{s},New z s->zJ tP s 59 (zO ab (Int.toNat y1.b*1))=some (.slice (some qb) (zAL B i1).length db):=λn=>by rw[ey1];exact(gb1.le n.le).at rfl eb1
 have lfA:∀{s},New z s->zJ tP s 56 (zO qb (Int.toNat y1.t*3+1))=some (.agg ⟨[iV (vJ B i1 e1).lo,iV (vJ B i1 e1).hi]⟩):=λn=>by
  rw[ey1];exact zVT (P:=tP) (t':=56) (k:=1) (m:=2) (SlV.le sb n.le) (by rw[List.getElem?_map,zNS p6];rfl) rfl rfl (by decide) (by kernel_rfl) (by kernel_rfl)
 have M4':New t3 (t3.row [iV 0,iV 0] 2):=New.row _ _ _;have M4:=M3.trans M4';have lb3:=lbA M3;have lb4:=lbA M4;have lf3:=lfA M3;have lf4:=lfA M4;have lbx:ab.block<t3.j:=xW (gb1.le M3.le) ab rfl;have lqx:qb.block<t3.j:=xW (SlV.le sb M3.le) qb rfl;have dX3:(⟨D,0,none⟩:Addr).block<t3.j:=by show D<_;have:=M3.nx;omega
 have e03:(⟨t1.j,0,none⟩:Addr).block<t3.j:=by show t1.j<_;omega
 have e13:(⟨t1.j+1,0,none⟩:Addr).block<t3.j:=by show t1.j+1<_;omega
 obtain⟨t5,ht5⟩:∃t5,t5=(t3.row [iV 0,iV 0] 2).own t3.j [iV (vJ B i1 e1).lo,iV (vJ B i1 e1).hi] 2:=⟨_,rfl⟩;have n5:t5.j=t3.j+1:=by rw[ht5];rfl
 have M5':New t3 t5:=by rw[ht5];exact M4'.own (Nat.le_refl _)
 have M5:=M3.trans M5';have V5:New O t5:=(M1'.trans M3').trans M5';have oX5:=oX.le V5.le;have xX5:X<t5.j:=oX5.lt;have dX5:D<t5.j:=by have:=M5.nx;omega
 have wX5:(⟨W,0,none⟩:Addr).block<t5.j:=by have:=M5.nx;show W<_;have wlt:W<z.j:=wlt;omega
 have f5:t3.j<t5.j:=by omega
 have hmod:j % yl<yl:=Nat.mod_lt _ hyl;obtain⟨ay,rfl,u,hu,ldy⟩:=xA (f:=wDN) (SlV.le hy M5.le) hmod;have hub:=hyr u (List.mem_of_getElem? hu);have ly5:ay.block<t5.j:=xW (SlV.le hy M5.le) ay rfl;have rm1:wW tP .rem 3 (.tmp 139) (.tmp 141) (iV (j:Int)) (iV ((yl:Nat):Int))=some (iV ((j % yl:Nat):Int)):=by
  rw[yHI (by omega),Int.tmod_eq_emod_of_nonneg (by omega),Int.natCast_emod]
 obtain⟨_,_,q3,q4,q5⟩:=zBX hD.blks p1 p2;obtain⟨_,_,q6,q7,q8⟩:=zBX hD.blks p4 p6;obtain⟨dt,edt⟩:∃dt:Dty,dt=⟨u.tmod w.J,(vJ B i0 a0).lo-L.o,(vJ B i1 e1).lo+L.f,(vJ B i1 e1).hi+L.f,0⟩:=⟨_,rfl⟩;obtain⟨p8,c8,t8,ap7,g8,O8,b8⟩:=zGM (zBB dt) wEE (hg.le V5.le) (Le.refl _) (wCQ dt) (by omega) M5.nx;rw[edt]at ap7;have W8:Only (AtP xp) t5 t8:=((New.row t5 _ _).only (S:=AtP xp)).trans' O8 λb _ h=>.inl h
 have oX8:Own t8 X (wkc w.J xp j xc q m d w.rest w.run w.N) 6:=W8.own' oX5 (λhb=>(ap1 _ hb).1 rfl);have xX8:(⟨X,1,none⟩:Addr).block<t8.j:=oX8.lt;have st8:=oX8.store (P:=tP) (k:=1) (t:=28) (v:=.slice p8 (j+1) c8) (ds:=wkc w.J p8 (j+1) c8 q m d w.rest w.run w.N) rfl (by kernel_rfl) rfl (by show 2<=6;omega) rfl;obtain⟨t9,ht9⟩:∃t9,t9=t8.own X (wkc w.J p8 (j+1) c8 q m d w.rest w.run w.N) 6:=⟨_,rfl⟩;rw[<- ht9]at st8;have n9':t9.j=t8.j:=by rw[ht9];rfl
 have W9:Only (·=X) t8 t9:=by rw[ht9];exact Only.own (.inr rfl)
 have oX9:Own t9 X (wkc w.J p8 (j+1) c8 q m d w.rest w.run w.N) 6:=by rw[ht9];exact oX8.put
 have M8:New z t8:=M5.of_only W8 λb hb=>(hg.bd hb).1
 have M9:New z t9:=M8.of_only W9 λb hb=>by have hb:b=X:=hb;omega
 have atx:∀b,AtP xp b->b<O.j:=λb hb=>(hg.bd hb).2
 have nt1:O.j<=t1.j:=n1;have o19:Own t9 (t1.j+1) (pdL y1) 4:=W9.own' (W8.own' (o13.le M5'.le) λhb=>by have:=atx _ hb;omega) (by show ¬t1.j+1=X;omega);have g9:Gr tP t9 z.j 62 5 p8 (j+1) c8 ((ds++[dt]).map zBB):=by
  rw[List.map_append];refine g8.only W9 λb hb e=>?_
  have e:b=X:=e;subst e;rcases b8 _ hb with hb|hb
  .exact(ap1 _ hb).1 rfl
  .omega
 have gt9:Gr tP t9 z.j 3 1 p j c (ts.map yK):=(((hgt.le V5.le).only W8 λb hb hx=>(ap1 _ hx).2 hb).only W9 λb hb e=>ap2 b hb e);obtain⟨rm,hm1,hm2,hm3,hm4⟩:=yBF hT p4 p6;obtain⟨am,rfl,rm',qm,cm,hrm,lm9',hqm⟩:=(hm.le M9.le).at (i:=i1) (by omega)
 rw[hm1]at hrm;cases hrm
 have hal:=(List.getElem?_eq_some_iff.1 hm2).1;obtain⟨aqm,rfl,n,hn,lt9'⟩:=xA hqm (i:=e1) hal;rw[hm2]at hn;cases hn
 have lm9:zJ tP t9 48 (zO am (Int.toNat y1.b*1))=some (.slice (some aqm) rm.length cm):=by rw[ey1];exact lm9'
 have lt9:zJ tP t9 3 (zO aqm (Int.toNat y1.t*1))=some (iV (tmF T i1 e1)):=by rw[ey1];exact lt9'
 obtain⟨p10,c10,t10,ap9,g10,O10,b10⟩:=zGM (yK (tmF T i1 e1+L.f)) uH gt9 (Le.refl _) (vU _) (by omega) M9.nx;have W10:Only (AtP p) t9 t10:=((New.row t9 _ _).only (S:=AtP p)).trans' O10 λb _ h=>.inl h
 have M10:New z t10:=M9.of_only W10 λb hb=>(hgt.bd hb).1
 have atp:∀b,AtP p b->b<O.j:=λb hb=>(hgt.bd hb).2
 have oX10:Own t10 X (wkc w.J p8 (j+1) c8 q m d w.rest w.run w.N) 6:=W10.own' oX9 λhb=>ap2 _ hb rfl
 have g10':Gr tP t10 z.j 62 5 p8 (j+1) c8 ((ds++[dt]).map zBB):=g9.only W10 λb hb hp=>by
  rcases b8 _ hb with hb|hb
  .exact(ap1 _ hb).2 hp
  .have:=atp _ hp;have:=V5.nx;omega
 have dX10:D<t10.j:=by have:=M10.nx;omega
 obtain⟨b',bc',k',kc',t11,c11,M11',h11⟩:=wDE (L:=L) (bc:=bc) (kc:=kc) (h.le M10.le) (by omega) (by omega) hB1 hK1;have M11:=M10.trans M11';have hB11:DnP t11 90 89 b' bl k' kl B K:=h11;obtain⟨p12,c12,t12,ap11,A12,O12,b12⟩:=Ax.append (P:=tP) (k:=rc) (n0:=t11.j) uH (Ax.nil) (rowI M11).1 (by omega) (by rw[zAJ _ .i64];simp[List.all_eq_true];intro a _;rfl) (Nat.le_refl _);rw[Nat.zero_add,List.nil_append]at A12;rw[Nat.zero_add]at ap11;have N12:New t11 t12:=(New.refl t11).of_only O12 λb hb=>(AtP.none hb).elim
 have M12:=M11.trans N12;have I12:yM t12 p12 (zVX x).length ((vW x 10).map λn:Nat=>(n:Int)):=Ax.slv A12 (by rw[List.length_map,List.length_map,rl]) (rowI M11).2.2;have hD12:=h11.le N12.le;obtain⟨qs,dql,dqc,t13,c16,M13',b13⟩:=wQL (L:=L) (bc:=bc') (kc:=kc') (c:=c12) (tc:=cM) hD12 hD hs6 (by omega) hB1 I12 h0 h1 h2 (xBX x10) x1 (hm.le M12.le) hT;rw[wHY hD hT x2]at c16;have M13:=M12.trans M13';have lm12:am.block<t12.j:=xW (hm.le M12.le).choose_spec.1 am rfl;have M13r:New z (t13.row [iV 0,iV 0,.slice none 0 0,.bool false] 4):=M13.row';have dX13:D<t13.j:=by have:=M13.nx;omega
 have lr10:=rowA M10;have lr11:=rowA M11;have lr13:=rowA M13;have lr14:=rowA M13r;have lq10:=yCU M10;have lq11:=yCU M11;have lq13:=yCU M13;have hq11:=rowI M11;have rg:zN RD (.slice rq (zVX x).length rc)=true:=by cases rq <;> rfl
 have sg:zN RD (.slice xp j xc)=true:=by cases xp <;> rfl
 have vg:yQ RD (t13.j+1) (.agg ⟨[iV (zKP (bgT T) (enT T) (wC B x)).sum,iV (wJ L (bgT T) (enT T) (wC B x)),.slice qs dql dqc,.bool true]⟩)=true:=by
  have hs:yQ 7 (t13.j+1) (.slice qs dql dqc)=true:=by
   cases e:qs with
   |none=>rfl
   |some a=>exact(xY _ _).2 (by have:=b13 a e;omega)
  show(true&&(true&&(yQ 7 (t13.j+1) (.slice qs dql dqc)&&(true&&true))))=true;rw[hs];rfl
 have sbd:=wKN hD hT hs6 x0 x1;have sm:=xYB (f:=λx=>wJ L (bgT T) (enT T) (wC B x)) xs j λy hy=>wKN hD hT hs6 (hxs y hy).1 (hxs y hy).2.1
 rw[<- hwk]at sm;obtain⟨t14,ht14⟩:∃t14,t14=(t13.row [iV 0,iV 0,.slice none 0 0,.bool false] 4).own t13.j [iV (zKP (bgT T) (enT T) (wC B x)).sum,iV (wJ L (bgT T) (enT T) (wC B x)),.slice qs dql dqc,.bool true] 4:=⟨_,rfl⟩;have M14':New t13 t14:=by rw[ht14];exact(New.row _ _ _).own (Nat.le_refl _)
 have V14:New t10 t14:=((M11'.trans N12).trans M13').trans M14';have hI14:RnI z X w q m d L B T xs (j+1) p10 c10 (i+wJ L (bgT T) (enT T) (wC B x)) t14:=by
  refine⟨M10.trans V14,⟨ds++[dt],ts++[tmF T i1 e1+L.f],p8,c8,oX10.le V14.le,g10'.le V14.le,by rw[List.map_append];exact g10.le V14.le,λb hb=>⟨?_, ?_⟩,λb hb=>?_,λi' hi'=>?_⟩, ?_⟩
  .rintro rfl;rcases b8 _ hb with hb|hb
   .exact(ap1 _ hb).1 rfl
   .omega
  .intro hp;have:=(g8.bd hb).2;rcases b10 _ hp with hp|hp
   .rcases b8 _ hb with hb|hb
    .exact(ap1 _ hb).2 hp
    .have:=atp _ hp;have:=V5.nx;omega
   .omega
  .rintro rfl;rcases b10 _ hb with hb|hb
   .exact ap2 _ hb rfl
   .have:=oX9.lt;omega
  .unfold yU;rw[List.getD_eq_getElem?_getD,List.getD_eq_getElem?_getD];by_cases e:i' < j
   .rw[List.getElem?_append_left (by omega),List.getElem?_append_left (by omega),<- List.getD_eq_getElem?_getD,<- List.getD_eq_getElem?_getD];exact hin i' e
   .have:i'=j:=by omega
    subst this;rw[List.getElem?_append_right (by omega),List.getElem?_append_right (by omega),hdl,htl,Nat.sub_self];show dt.lo<=tmF T i1 e1+L.f/\tmF T i1 e1+L.f<=dt.hi;rw[edt];show(vJ B i1 e1).lo+L.f<=_/\_<=(vJ B i1 e1).hi+L.f;omega
  .rw[wE hxj,List.map_append,List.sum_append,hwk];simp
 have ldr:=rowA hN;have yb:y1.b=(i1:Int):=by rw[ey1]
 have yt:y1.t=(e1:Int):=by rw[ey1]
 have b39:=bV (a:=⟨t3.j,0,none⟩) (v:=.agg ⟨[iV (vJ B i1 e1).lo,iV (vJ B i1 e1).hi]⟩) (n:=t3.j+1) (Nat.lt_succ_self _) rfl;have b73:zL (t5.j+1) [.slice xp j xc,.slice (some ⟨t5.j,0,none⟩) 1 1]:=zI (xH λa e=>by have:=(hg.bd ⟨a,e,rfl⟩).2;have:=V5.nx;show a.block<t5.j+1;omega) (zI (vM (Nat.lt_succ_self _)) zM);subst ht3 ht5 ht9 ht14;exact xFR (ldD hN) ldr c13 c14 l0 l1 (bP la1) (zI (vM la1) zM) (bP la1) (bV (n:=t1.j+2) (by show t1.j<_;omega) rfl) (bV (n:=t1.j+2) (by show t1.j+1<_;omega) rfl) ⟨⟨la1,rfl⟩,l0⟩ ⟨⟨Nat.lt_succ_of_lt la1,rfl⟩,l0r⟩ ⟨⟨Nat.lt_succ_of_lt (Nat.lt_succ_of_lt la1),rfl⟩,l0s⟩ ⟨⟨zI (vM la1) zM,rfl⟩,rfl,rfl⟩ ⟨⟨zI (vM (Nat.lt_succ_of_lt la1)) zM,rfl⟩,rfl,rfl⟩ ⟨⟨zI (vM (Nat.lt_succ_of_lt (Nat.lt_succ_of_lt la1))) zM,rfl⟩,rfl,rfl⟩ ⟨⟨zI (vM (Nat.lt_succ_of_lt (Nat.lt_succ_of_lt la1))) zM,rfl⟩,rfl,rfl⟩ ⟨⟨la1,rfl⟩,l1⟩ ⟨⟨Nat.lt_succ_of_lt la1,rfl⟩,l1r⟩ ⟨⟨Nat.lt_succ_of_lt (Nat.lt_succ_of_lt la1),rfl⟩,l1s⟩ ⟨⟨Nat.lt_succ_of_lt (Nat.lt_succ_of_lt la1),rfl⟩,l1t⟩ (ldD M3) c15 (lfD M3 4 _ rfl) (lbD M3) lb3 lf3 (bP dX3) (bP e03) (bP e03) (zTM (yIO (zGZ (h.le M3.le).bs) (zGZ (h.le M3.le).ks)) (zI rfl (zI rfl zM))) (bP dX3) (bP dX3) (bP e13) (bP lbx) (bP e13) (bP lqx) b39 ⟨⟨dX3,rfl⟩,ldD M3⟩ ⟨⟨Nat.lt_succ_of_lt dX3,rfl⟩,ldD M4⟩ ⟨⟨e03,rfl⟩,o03.ld (k:=0) rfl zU rfl⟩ ⟨⟨Nat.lt_succ_of_lt e03,rfl⟩,o03.row.ld (k:=0) rfl zU rfl⟩ ⟨⟨e03,rfl⟩,o03.ld (k:=1) rfl zU rfl⟩ ⟨⟨Nat.lt_succ_of_lt e03,rfl⟩,o03.row.ld (k:=1) rfl zU rfl⟩ ⟨⟨dX3,rfl⟩,lfD M3 4 _ rfl⟩ ⟨⟨Nat.lt_succ_of_lt dX3,rfl⟩,lfD M4 4 _ rfl⟩ ⟨⟨dX3,rfl⟩,lbD M3⟩ ⟨⟨Nat.lt_succ_of_lt dX3,rfl⟩,lbD M4⟩ ⟨⟨e13,rfl⟩,o13.ld (k:=0) rfl zU rfl⟩ ⟨⟨Nat.lt_succ_of_lt e13,rfl⟩,o13.row.ld (k:=0) rfl zU rfl⟩ ⟨⟨lbx,rfl⟩,lb3⟩ ⟨⟨Nat.lt_succ_of_lt lbx,rfl⟩,lb4⟩ ⟨⟨e13,rfl⟩,o13.ld (k:=2) rfl zU rfl⟩ ⟨⟨Nat.lt_succ_of_lt e13,rfl⟩,o13.row.ld (k:=2) rfl zU rfl⟩ ⟨⟨lqx,rfl⟩,lf3⟩ ⟨⟨Nat.lt_succ_of_lt lqx,rfl⟩,lf4⟩ (oX5.ld (k:=1) rfl zGB rfl) rm1 ldy (ldW M5) (yHI (by omega)) (lfD M5 5 _ rfl) ap7 st8 (bP xX5) (zI (vM ly5) zM) (bP ly5) (bP wX5) (bP f5) (bP dX5) (bP f5) b73 (zI (zR xX8) (zI (xH λa e=>(g8.bd ⟨a,e,rfl⟩).2) zM)) ⟨⟨xX5,sg⟩,oX5.ld (k:=1) rfl zGB rfl⟩ ⟨⟨Nat.lt_succ_of_lt xX5,sg⟩,oX5.row.ld (k:=1) rfl zGB rfl⟩ (o19.ld (k:=0) rfl zU rfl) lm9 (o19.ld (k:=2) rfl zU rfl) lt9 (lfD M9 5 _ rfl) ap9 (ldD M10) c11 lr11 ap11 c16 (bP dX10) (yIO (zGZ (h.le M10.le).bs) (zGZ (h.le M10.le).ks)) (bP lq11) (zI rfl (zI (xH λa e=>xW hq11 a e) zM)) (zTM (yIO (zGZ (hD12.le (Le.refl _)).bs) (zGZ hD12.ks)) (zI (xH λa e=>xW I12 a e) (zI (vM lm12) zM))) (bV (n:=t13.j+1) (by show t13.j<_;omega) vg) ⟨⟨dX13,rfl⟩,ldD M13⟩ ⟨⟨Nat.lt_succ_of_lt dX13,rfl⟩,ldD M13r⟩ ⟨⟨lq10,rg⟩,lr10⟩ ⟨⟨lq11,rg⟩,lr11⟩ ⟨⟨lq13,rg⟩,lr13⟩ ⟨⟨Nat.lt_succ_of_lt lq13,rg⟩,lr14⟩ (nx _ _ _ _ hI14) (by omega) ⟨by omega,by omega⟩ ⟨by omega,by omega⟩ ⟨by omega,by omega⟩ ⟨by omega,by omega⟩ ⟨by omega,by omega⟩ ⟨by omega,by omega⟩ ⟨by omega,by omega⟩ ⟨by omega,by omega⟩ ⟨by omega,by omega⟩ ⟨by omega,by omega⟩ ⟨by omega,by omega⟩ ⟨by omega,by omega⟩ ⟨by omega,by omega⟩ ⟨by omega,by omega⟩ rfl ⟨by omega,by omega⟩ ⟨by omega,by omega⟩
end
end
theorem xWE:AppT tP 69 69 93 5:=zAW (by kernel_rfl)
theorem xWF:AppT tP 70 70 94 6:=zAW (by kernel_rfl)
theorem wCR(x:Dty):zDV tP 93 5 (zBB x):=.inr ⟨zXF,zAN,_,rfl,rfl⟩
theorem wCS(p q r:Option Addr)(l c m d n e:Nat)(x y z:Int):zDV tP 94 6 (.agg ⟨yH p l c q m d r n e x y z⟩):=.inr ⟨xEL,zKH,_,rfl,rfl⟩
section
variable{E:St}{w:Wk}{p q r t:Option Addr}{l m c d rl rc tl tc:Nat}{rs ts:List Int}
def yJS(O:St)(S:Nat->Prop)(v:Value)(x:Drv):Prop:=∃p l c q m d r n e,v=.agg ⟨yH p l c q m d r n e x.off x.row x.used⟩/\yM O p l x.qa/\yM O q m x.qb/\yM O r n x.qc/\∀b,AtP p b\/AtP q b\/AtP r b->¬S b
theorem yJS.v{O:St}{S:Nat->Prop}{v:Value}{x:Drv}(h:yJS O S v x):xEX O v x:=by
 obtain⟨p,l,c,q,m,d,r,n,e,h1,h2,h3,h4,_⟩:=h;exact⟨p,l,c,q,m,d,r,n,e,h1,h2,h3,h4⟩
theorem yJS.only{O O':St}{S T:Nat->Prop}{v:Value}{x:Drv}(h:yJS O S v x)(k:Only S O O')(hT:∀b,b<O.j->T b->S b):yJS O' T v x:=by
 obtain⟨p,l,c,q,m,d,r,n,e,h1,h2,h3,h4,h5⟩:=h;refine⟨p,l,c,q,m,d,r,n,e,h1,k.slv' h2 (λa e=>h5 _ (.inl ⟨a,e,rfl⟩)),k.slv' h3 (λa e=>h5 _ (.inr (.inl ⟨a,e,rfl⟩))),k.slv' h4 (λa e=>h5 _ (.inr (.inr ⟨a,e,rfl⟩))), ?_⟩
 intro b hb ht;have hlt:b<O.j:=by
  rcases hb with ⟨a,e,rfl⟩|⟨a,e,rfl⟩|⟨a,e,rfl⟩
  .exact xW h2 a e
  .exact xW h3 a e
  .exact xW h4 a e
 exact h5 b hb (hT b hlt ht)
theorem wEZ(h:WkP E 62 83 w p l q m)(hl:l<=1000)(hm:m<=1000)(hsh:zCE w):∃p' c' q' d' E',zW tP 18 [.agg ⟨wkc w.J p l c q m d w.rest w.run w.N⟩] E (.agg ⟨wkc w.J p' l c' q' m d' w.rest w.run w.N⟩) E'/\New E E'/\WkP E' 93 94 w p' l q' m:=by
 have hl1:=h.len.1;have hl2:=h.len.2;obtain⟨B,hB⟩:∃B,B=E.re.j:=⟨_,rfl⟩;obtain⟨O0,hE0⟩:∃O0,O0=((((E.re.row (wkc w.J p l c q m d w.rest w.run w.N) 6).row (wkc 0 none 0 0 none 0 0 0 0 0) 6).row (wkc 0 none 0 0 none 0 0 0 0 0) 6).own (E.re.j+2) (wkc w.J none 0 0 none 0 0 w.rest w.run w.N) 6):=⟨_,rfl⟩;have o1:Own O0 B (wkc w.J p l c q m d w.rest w.run w.N) 6:=by rw[hE0,hB];exact(zX E.re _ _).row.row.own (by show E.j≠E.j+2;omega)
 have o2:Own O0 (B+1) (wkc 0 none 0 0 none 0 0 0 0 0) 6:=by rw[hE0,hB];exact(zX (E.re.row (wkc w.J p l c q m d w.rest w.run w.N) 6) _ _).row.own (by show E.j+1≠E.j+2;omega)
 have o3:Own O0 (B+2) (wkc w.J none 0 0 none 0 0 w.rest w.run w.N) 6:=by rw[hE0,hB];exact(zX ((E.re.row (wkc w.J p l c q m d w.rest w.run w.N) 6).row (wkc 0 none 0 0 none 0 0 0 0 0) 6) (wkc 0 none 0 0 none 0 0 0 0 0) 6).put
 have hN0:New E.re O0:=by rw[hE0];exact((New.row _ _ _).row'.row').own (by show E.j<=E.j+2;omega)
 have hn0:O0.j=B+3:=by rw[hE0,hB];rfl
 have key:zQ tP 18 [.agg ⟨wkc w.J p l c q m d w.rest w.run w.N⟩] E.re λv s=>New E.re s/\∃p' c' q' d',v=.agg ⟨wkc w.J p' l c' q' m d' w.rest w.run w.N⟩/\WkP s 93 94 w p' l q' m:=by
  refine wKB (P0:=λO=>New E.re O/\∃ps cs,Own O B (wkc w.J p l c q m d w.rest w.run w.N) 6/\Own O (B+1) (wkc 0 none 0 0 none 0 0 0 0 0) 6/\Own O (B+2) (wkc w.J ps l cs none 0 0 w.rest w.run w.N) 6/\SlV tP O 93 5 ps l (w.L.map zBB)/\(∀b,AtP ps b->B+3<=b/\b<O.j)) ?_ ?_
  .rw[<- hE0];have:=xML (BA:=B) (BB:=B+1) (BC:=B+2) (Inv:=λk i4 O=>New E.re O/\∃i:Nat,i4=i/\i+k=l/\∃ps cs,Own O B (wkc w.J p l c q m d w.rest w.run w.N) 6/\Own O (B+1) (wkc 0 none 0 0 none 0 0 0 0 0) 6/\Own O (B+2) (wkc w.J ps i cs none 0 0 w.rest w.run w.N) 6/\Gr tP O (B+3) 93 5 ps i cs ((w.L.take i).map zBB)/\B+3<=O.j)
    (Q0:=λO=>New E.re O/\∃ps cs,Own O B (wkc w.J p l c q m d w.rest w.run w.N) 6/\Own O (B+1) (wkc 0 none 0 0 none 0 0 0 0 0) 6/\Own O (B+2) (wkc w.J ps l cs none 0 0 w.rest w.run w.N) 6/\SlV tP O 93 5 ps l (w.L.map zBB)/\(∀b,AtP ps b->B+3<=b/\b<O.j)) ?_ l 0 O0
    ⟨hN0,0,rfl,by omega,none,0,o1,o2,o3,by simpa using Gr.nil,by omega⟩
   .subst hB;exact this
   rintro k i4 O ⟨hN,i,rfl,hk,ps,cs,w1,w2,w3,hg,hnx⟩;by_cases hi:i<l
   .obtain⟨a,rfl,x,hx,ld⟩:=xA (SlV.le h.dty ((le0 E).trans hN.le)) hi;have hcp:New O ((O.row (zP 0 0 0 0 0) 5).own O.j (zP x.day x.on x.lo x.hi x.route) 5):=(New.row _ _ _).own (Nat.le_refl _);have k3:=(w3.row (ds:=zP 0 0 0 0 0) (m:=5)).own (ds:=zP x.day x.on x.lo x.hi x.route) (m:=5) (show B+2≠O.j by have:=w3.lt;omega);obtain⟨p4,c4,V2,g1,g2,g3,g4⟩:=zGM (zBB x) (O:=(O.row (zP 0 0 0 0 0) 5).own O.j (zP x.day x.on x.lo x.hi x.route) 5) xWE hg hcp.le (wCR x) (by omega) hnx;have hS:∀b,AtP ps b->B+3<=b:=λb hb=>(hg.bd hb).1
    have hO:Only (AtP ps) O V2:=((hcp.row').only (S:=AtP ps)).trans g3 (λ_ _ x=>x) (by intro m' h1 h2 b h3 h4;have:=hg.bd h4;exact h2 b this.2 h4);have v1:=hO.own' w1 (λx=>by have:=hS _ x;omega);have v2:=hO.own' w2 (λx=>by have:=hS _ x;omega);have v3:=hO.own' w3 (λx=>by have:=hS _ x;omega);have e5:∀b,AtP p4 b->B+3<=b:=λb hb=>(g2.bd hb).1
    have hN2:New E.re (V2.own (B+2) (wkc w.J p4 (i+1) c4 none 0 0 w.rest w.run w.N) 6):=(hN.of_only hO (λb hb=>by have:=hS b hb;omega)).own (by omega);have hn2:O.j<=V2.j:=hO.j;refine wEY (w1.ld rfl zGB (k:=1) rfl) ld (k3.ld rfl zXG (k:=1) rfl) g1 (v3.store (k:=1) (vs:=[.slice p4 (i+1) c4]) (ds:=wkc w.J p4 (i+1) c4 none 0 0 w.rest w.run w.N) rfl wLZ rfl (by simp) rfl)
     ⟨k-1,by omega,hN2,i+1,by omega,by omega,p4,c4,v1.own (by omega),v2.own (by omega),v3.put, ?_,by show B+3<=V2.j;omega⟩ (by omega) (by omega) (by omega)
    rw[wE hx,List.map_append];exact g2.only (S:=(·=B+2)) (Only.own (.inr rfl)) (by rintro b hb rfl;have:=e5 _ hb;omega)
   .have:i=l:=by omega
    subst this;rw[List.take_of_length_le (by omega)]at hg;exact wEX (w1.ld rfl zGB (k:=1) rfl) ⟨hN,ps,cs,w1,w2,w3,hg.slv,λb hb=>hg.bd hb⟩
  .rintro be ⟨hN1,ps,cs,x1,x2,x3,hs1,hsb⟩;have hz:E.re.j=B:=hB.symm;rw[hz];refine xMJ (P2:=λO=>New E.re O/\∃qs ds,Own O (B+1) (wkc 0 none 0 0 none 0 0 0 0 0) 6/\Own O (B+2) (wkc w.J ps l cs qs m ds w.rest w.run w.N) 6/\SlV tP O 93 5 ps l (w.L.map zBB)/\(∀b,AtP ps b->B+3<=b)/\(∃vs,SlV tP O 94 6 qs m vs/\∀(i:Nat) (x:Drv),w.M[i]?=some x->∃v,vs[i]?=some v/\yJS O (·<=B+2) v x)/\(∀b,AtP qs b->B+3<=b))
    (xMK (Inv:=λk i6 O=>New E.re O/\∃i:Nat,i6=i/\i+k=m/\∃qs ds vs,Own O B (wkc w.J p l c q m d w.rest w.run w.N) 6/\Own O (B+1) (wkc 0 none 0 0 none 0 0 0 0 0) 6/\Own O (B+2) (wkc w.J ps l cs qs i ds w.rest w.run w.N) 6/\SlV tP O 93 5 ps l (w.L.map zBB)/\(∀b,AtP ps b->¬AtP qs b/\b<O.j) /\
     Gr tP O (B+3) 94 6 qs i ds vs/\(∀(j:Nat) (x:Drv),j<i->w.M[j]?=some x->∃v,vs[j]?=some v/\yJS O (λb=>AtP qs b\/b<=B+2) v x)) ?_ m 0 be ⟨hN1,0,rfl,by omega,none,0,[],x1,x2,x3,hs1,λb hb=>⟨AtP.none,(hsb b hb).2⟩,Gr.nil,λj x hj=>by omega⟩) ?_
   .rintro k i6 O ⟨hN,i,rfl,hk,qs,ds,vs,w1,w2,w3,hs,hd,hg,hrow⟩;have hnx:B+3<=O.j:=w3.lt;have hvl:=hg.len_eq;by_cases hi:i<m
    .obtain⟨a,rfl,p',l',c',r',n',d',s',j',e',ld,hkn,hlv,hws,_⟩:=(h.le ((le0 E).trans hN.le)).vld wLE zBW hi;have hx:w.M[i]?=some (drQ w i):=by
      unfold drQ;rw[List.getD_eq_getElem?_getD,List.getElem?_eq_getElem (by omega)];rfl
     obtain⟨t1,ht1⟩:∃t1,t1=(O.row (yH none 0 0 none 0 0 none 0 0 0 0 0) 6).own O.j (yH p' l' c' r' n' d' s' j' e' (drQ w i).off (drQ w i).row (drQ w i).used) 6:=⟨_,rfl⟩;have hcp:New O t1:=by rw[ht1];exact(New.row _ _ _).own (Nat.le_refl _)
     have nx1:t1.j=O.j+1:=by rw[ht1];rfl
     have oD:Own t1 O.j (yH p' l' c' r' n' d' s' j' e' (drQ w i).off (drQ w i).row (drQ w i).used) 6:=by rw[ht1];exact(zX O (yH none 0 0 none 0 0 none 0 0 0 0 0) 6).put
     have k3:=w3.le hcp.le;have hsx:=hsh _ (zWU (by omega:i<w.M.length));have en1:=hkn.len;have en2:=hlv.len;have en3:=hws.len;obtain⟨q1,d1,t2,c2,n2,i2,f2⟩:=xKB (c:=c') (SlV.le hkn hcp.le) (by omega);obtain⟨q3,d3,t4,c4,n4,i4,f4⟩:=xKB (c:=d') (SlV.le (SlV.le hlv hcp.le) n2.le) (by omega);obtain⟨q5,d5,t6,c6,n6,i6,f6⟩:=xKB (c:=e') (SlV.le (SlV.le (SlV.le hws hcp.le) n2.le) n4.le) (by omega);have n16:New O t6:=((hcp.trans n2).trans n4).trans n6;have oD2:=oD.le n2.le;have oD4:=oD2.le n4.le;have oD6:=oD4.le n6.le;have k32:=k3.le n2.le;have k34:=k32.le n4.le;have k36:=k34.le n6.le;have J2:=SlV.le (SlV.le i2 n4.le) n6.le;have J4:=SlV.le i4 n6.le;obtain⟨p8,c8,t8,g1,g2,g3,g4⟩:=zGM (.agg ⟨yH q1 l' d1 q3 n' d3 q5 j' d5 (drQ w i).off (drQ w i).row (drQ w i).used⟩) (O:=t6) xWF hg n16.le (wCS _ _ _ _ _ _ _ _ _ _ _ _) (by omega) hnx;have hS:∀b,AtP qs b->B+3<=b:=λb hb=>(hg.bd hb).1
     have hO:Only (AtP qs) O t8:=((n16.row').only (S:=AtP qs)).trans g3 (λ_ _ x=>x) (by intro m' h1 h2 b h3 h4;have:=hg.bd h4;exact h2 b this.2 h4);have hOx:Only (λb=>AtP qs b\/b<=B+2) O t8:=hO.mono (λ_ _ x=>.inl x);have v1:=hO.own' w1 (λx=>by have:=hS _ x;omega);have v2:=hO.own' w2 (λx=>by have:=hS _ x;omega);have v3:=hO.own' w3 (λx=>by have:=hS _ x;omega);have e5:∀b,AtP p8 b->B+3<=b:=λb hb=>(g2.bd hb).1
     obtain⟨t9,ht9⟩:∃t9,t9=t8.own (B+2) (wkc w.J ps l cs p8 (i+1) c8 w.rest w.run w.N) 6:=⟨_,rfl⟩;have k9:Only (·=B+2) t8 t9:=by rw[ht9];exact Only.own (.inr rfl)
     have hN9:New E.re t9:=(hN.of_only hO (λb hb=>by have:=hS b hb;omega)).of_only k9 (by rintro b rfl;omega);have n2x:=n2.nx;have n4x:=n4.nx;have n6x:=n6.nx;have hn8:=hO.j;have g3n:=g3.j;have g3n':t6.j+1<=t8.j:=g3n;have st:=v3.store (P:=tP) (k:=2) (t:=70) (v:=.slice p8 (i+1) c8) (vs:=[.slice p8 (i+1) c8]) (ds:=wkc w.J ps l cs p8 (i+1) c8 w.rest w.run w.N) rfl wLY rfl (by simp) rfl;have bqs:∀{n:Nat},O.j<=n->yQ RD n (.slice qs i ds)=true:=λhn=>xH (λa e=>by have:=(hg.bd ⟨a,e,rfl⟩).2;omega)
     have lk:∀{z:St},Own z O.j (yH p' l' c' r' n' d' s' j' e' (drQ w i).off (drQ w i).row (drQ w i).used) 6->zJ tP z 48 ⟨O.j,1,none⟩=some (.slice r' n' d'):=λo=>o.rw.ld xF rfl
     have lk2:∀{z:St},Own z O.j (yH p' l' c' r' n' d' s' j' e' (drQ w i).off (drQ w i).row (drQ w i).used) 6->zJ tP z 48 ⟨O.j,2,none⟩=some (.slice s' j' e'):=λo=>o.rw.ld xF rfl
     have lk3:∀{z:St},Own z O.j (yH p' l' c' r' n' d' s' j' e' (drQ w i).off (drQ w i).row (drQ w i).used) 6->zJ tP z 3 ⟨O.j,3,none⟩=some (iV (drQ w i).off):=λo=>o.rw.ld zU rfl
     have lk4:∀{z:St},Own z O.j (yH p' l' c' r' n' d' s' j' e' (drQ w i).off (drQ w i).row (drQ w i).used) 6->zJ tP z 3 ⟨O.j,4,none⟩=some (iV (drQ w i).row):=λo=>o.rw.ld zU rfl
     have lk5:∀{z:St},Own z O.j (yH p' l' c' r' n' d' s' j' e' (drQ w i).off (drQ w i).row (drQ w i).used) 6->zJ tP z 3 ⟨O.j,5,none⟩=some (iV (drQ w i).used):=λo=>o.rw.ld zU rfl
     have lw:∀{z:St},Own z (B+2) (wkc w.J ps l cs qs i ds w.rest w.run w.N) 6->zJ tP z 70 ⟨B+2,2,none⟩=some (.slice qs i ds):=λo=>o.rw.ld zLW rfl
     have hlv':∀a,r'=some a->a.block<O.j:=xW hlv;have hws':∀a,s'=some a->a.block<O.j:=xW hws;have fin:yDJ B (B+1) (B+2) (i:Int) O (λi6' E'=>∃k',k' < k/\(New E.re E'/\∃i:Nat,i6'=i/\i+k'=m/\∃qs ds vs,Own E' B (wkc w.J p l c (some a) m d w.rest w.run w.N) 6/\Own E' (B+1) (wkc 0 none 0 0 none 0 0 0 0 0) 6/\Own E' (B+2) (wkc w.J ps l cs qs i ds w.rest w.run w.N) 6/\SlV tP E' 93 5 ps l (w.L.map zBB)/\(∀b,AtP ps b->¬AtP qs b/\b<E'.j) /\
     Gr tP E' (B+3) 94 6 qs i ds vs/\(∀(j:Nat) (x:Drv),j<i->w.M[j]?=some x->∃v,vs[j]?=some v/\yJS E' (λb=>AtP qs b\/b<=B+2) v x))) (λO=>New E.re O/\∃qs ds,Own O (B+1) (wkc 0 none 0 0 none 0 0 0 0 0) 6/\Own O (B+2) (wkc w.J ps l cs qs m ds w.rest w.run w.N) 6/\SlV tP O 93 5 ps l (w.L.map zBB)/\(∀b,AtP ps b->B+3<=b)/\(∃vs,SlV tP O 94 6 qs m vs/\∀(i:Nat) (x:Drv),w.M[i]?=some x->∃v,vs[i]?=some v/\yJS O (·<=B+2) v x)/\(∀b,AtP qs b->B+3<=b)):=by
      rw[ht1]at c2 oD;refine wEW (w1.ld rfl zGA (k:=2) rfl) ld (by rw[<- ht1];exact lw k3) c2 (lk oD2) c4 (lk2 oD4) c6 (lk3 oD6) (lk4 oD6) (lk5 oD6) g1 st
       (zI (zR oD2.lt) zM) (zI (xH λa e=>by have:=hlv' a e;omega) zM) (zI (zR oD4.lt) zM) (zI (xH λa e=>by have:=hws' a e;omega) zM)
       (zI (zR oD6.lt) zM) (zI (zR oD6.lt) zM) (zI (zR oD6.lt) zM)
       (zI (xMA (xW J2) (xW J4) (xW i6)) zM)
       (zI (bqs (by show O.j<=t6.j+1;omega)) (zI (vM (by show t6.j<t6.j+1;omega)) zM))
       (zI (zR (by show B+2<t8.j;omega)) (zI (xH λa e=>(g2.bd ⟨a,e,rfl⟩).2) zM))
       ⟨⟨k32.lt,rfl⟩,lw k32⟩ ⟨⟨k34.lt,rfl⟩,lw k34⟩ ⟨⟨k36.lt,rfl⟩,lw k36⟩ ⟨⟨(k36.row (ds:=yH q1 l' d1 q3 n' d3 q5 j' d5 (drQ w i).off (drQ w i).row (drQ w i).used) (m:=6)).lt,rfl⟩,lw k36.row⟩
       (lk oD) ⟨⟨oD2.lt,rfl⟩,lk oD2⟩ (lk2 oD) ⟨⟨oD2.lt,rfl⟩,lk2 oD2⟩ ⟨⟨oD4.lt,rfl⟩,lk2 oD4⟩
       (lk3 oD) ⟨⟨oD2.lt,rfl⟩,lk3 oD2⟩ ⟨⟨oD4.lt,rfl⟩,lk3 oD4⟩ ⟨⟨oD6.lt,rfl⟩,lk3 oD6⟩
       (lk4 oD) ⟨⟨oD2.lt,rfl⟩,lk4 oD2⟩ ⟨⟨oD4.lt,rfl⟩,lk4 oD4⟩ ⟨⟨oD6.lt,rfl⟩,lk4 oD6⟩
       (lk5 oD) ⟨⟨oD2.lt,rfl⟩,lk5 oD2⟩ ⟨⟨oD4.lt,rfl⟩,lk5 oD4⟩ ⟨⟨oD6.lt,rfl⟩,lk5 oD6⟩
       (xW hkn)
       ⟨k-1,by omega,by rw[<- ht9];exact hN9,i+1,by omega,by omega,p8,c8,_, ?_, ?_, ?_, ?_, ?_,by rw[<- ht9];exact g2.only k9 (by rintro b hb rfl;have:=e5 _ hb;omega), ?_⟩ (by omega) (by omega) (by omega) (by omega)
      .exact v1.own (by omega)
      .exact v2.own (by omega)
      .exact v3.put
      .refine(hO.slv' hs (λa e hb=>(hd a.block ⟨a,e,rfl⟩).1 hb)).own (.inr λa e hb=>?_);have:=(hsb a.block ⟨a,e,rfl⟩).1;omega
      .intro b hb;refine⟨λh4=>?_,by have:=(hd b hb).2;show b<t8.j;omega⟩
       rcases g4 b h4 with h5|h5
       .exact(hd b hb).1 h5
       .have:=(hd b hb).2;have:=n16.nx;omega
      .intro j x hj hxj;rw[<- ht9];have fromOld:∀b,b<O.j->(AtP p8 b\/b<=B+2)->(AtP qs b\/b<=B+2):=by
        rintro b hb (h4|h4)
        .rcases g4 b h4 with h5|h5
         .exact .inl h5
         .have:=n16.nx;omega
        .exact .inr h4
       have k9':Only (λb=>AtP p8 b\/b<=B+2) t8 t9:=k9.mono (λ_ _ e=>.inr (by omega));by_cases hji:j<i
       .obtain⟨v,hv,hdo⟩:=hrow j x hji hxj;refine⟨v,by rw[List.getElem?_append_left (by omega)];exact hv, ?_⟩
        have h8:yJS t8 (λb=>AtP p8 b\/b<=B+2) v x:=hdo.only hOx fromOld;exact h8.only k9' (λ_ _ e=>e)
       .have:j=i:=by omega
        subst this;rw[hx]at hxj;cases hxj
        refine⟨_,by rw[List.getElem?_append_right (by omega),hvl,Nat.sub_self];rfl, ?_⟩
        have hnew:∀b,O.j<=b->b<t6.j->¬(AtP p8 b\/b<=B+2):=by
         rintro b h1 h2 (h4|h4)
         .rcases g4 b h4 with h5|h5
          .have:=(hg.bd h5).2;omega
          .omega
         .omega
        have hqs:∀b,O.j<=b->¬AtP qs b:=λb h1 h5=>by have:=(hg.bd h5).2;omega
        have tr:Only (AtP qs) t6 t8:=(Only.row t6 _ 6:Only (AtP qs) t6 _).trans g3 (λ_ _ x=>x) (by intro m' h1 h2 b h3 h4;have:=hg.bd h4;exact h2 b (by have:=n16.nx;omega) h4);have b1:∀b,AtP q1 b->O.j<=b/\b<t6.j:=λb hb=>⟨by have:=f2 b hb;omega,by obtain⟨a,e,rfl⟩:=hb;exact xW J2 a e⟩
        have b3:∀b,AtP q3 b->O.j<=b/\b<t6.j:=λb hb=>⟨by have:=f4 b hb;omega,by obtain⟨a,e,rfl⟩:=hb;exact xW J4 a e⟩
        have b5:∀b,AtP q5 b->O.j<=b/\b<t6.j:=λb hb=>⟨by have:=f6 b hb;omega,by obtain⟨a,e,rfl⟩:=hb;exact xW i6 a e⟩
        have h8:yJS t8 (λb=>AtP p8 b\/b<=B+2) (.agg ⟨yH q1 l' d1 q3 n' d3 q5 j' d5 (drQ w j).off (drQ w j).row (drQ w j).used⟩) (drQ w j):=by
         refine⟨q1,l',d1,q3,n',d3,q5,j',d5,rfl,tr.slv' J2 (λa e=>hqs _ (b1 _ ⟨a,e,rfl⟩).1),tr.slv' J4 (λa e=>hqs _ (b3 _ ⟨a,e,rfl⟩).1),tr.slv' i6 (λa e=>hqs _ (b5 _ ⟨a,e,rfl⟩).1), ?_⟩
         rintro b (hb|hb|hb)
         .exact hnew b (b1 b hb).1 (b1 b hb).2
         .exact hnew b (b3 b hb).1 (b3 b hb).2
         .exact hnew b (b5 b hb).1 (b5 b hb).2
        exact h8.only k9' (λ_ _ e=>e)
     exact fin
    .have:i=m:=by omega
     subst this;exact wEV (w1.ld rfl zGA (k:=2) rfl) ⟨hN,qs,ds,w2,w3,hs,λb hb=>(hsb b hb).1,⟨vs,hg.slv,λj x hx=>by
      obtain⟨v,h1,h2⟩:=hrow j x (by have:=(List.getElem?_eq_some_iff.1 hx).1;omega) hx;exact⟨v,h1,h2.only (Only.refl _ _) (λb _ e=>.inr e)⟩⟩,λb hb=>(hg.bd hb).1⟩
   .rintro O ⟨hN,qs,ds,w2,w3,hs,e1,⟨vs,hv,hrow⟩,e2⟩;have hlt3:=w3.lt;have k9:Only (λb=>b=B+1) O (O.own (B+1) (wkc w.J ps l cs qs m ds w.rest w.run w.N) 6):=Only.own (.inr rfl);refine xMI (w3.ldN zAD vB (k:=0) rfl rfl (by simp)) (w2.store (vs:=wkc w.J ps l cs qs m ds w.rest w.run w.N) (ds:=wkc w.J ps l cs qs m ds w.rest w.run w.N) rfl vB rfl (by simp) rfl) (w2.put.rw.ldN zAD vB (k:=0) rfl rfl (by simp)) ⟨hN.own (by omega),ps,cs,qs,ds,rfl, ?_, ?_⟩
    .exact hs.own (.inr λa e hb=>by have:=e1 a.block ⟨a,e,rfl⟩;omega)
    .refine⟨vs,hv.own (.inr λa e hb=>by have:=e2 a.block ⟨a,e,rfl⟩;omega),by omega,λi x hx=>?_⟩
     obtain⟨v,h1,h2⟩:=hrow i x hx;exact⟨v,h1,(h2.only (k9.mono (T:=(·<=B+2)) (λ_ _ e=>by omega)) (λ_ _ e=>e)).v⟩
 obtain⟨v,E',h1,h2,p',c',q',d',rfl,h3⟩:=zQ.new (Q:=λv s=>∃p' c' q' d',v=.agg ⟨wkc w.J p' l c' q' m d' w.rest w.run w.N⟩/\WkP s 93 94 w p' l q' m) key (by rintro v s s' ⟨p',c',q',d',rfl,g⟩ hle;exact⟨p',c',q',d',rfl,g.le hle⟩) (by
  rintro v s hv ⟨p',c',q',d',rfl,g⟩;cases p' with
  |some a=>exact Bool.noConfusion (show false=true from hv)
  |none=>cases q' with
   |some a=>exact Bool.noConfusion (show false=true from hv)
   |none =>
    obtain⟨vs,g1,g2,g3⟩:=g.drv;have hm0:m=0:=by
     have:=g1.1.2;have h2:=g1.1.1;by_cases e:m=0
     .exact e
     .obtain⟨a,ea,_⟩:=g1.some (show 0<m by omega);cases ea
    refine⟨none,c',none,d',rfl,uX g.dty,vs,uX g1,g2,λi x hx=>?_⟩
    have:=(List.getElem?_eq_some_iff.1 hx).1;omega)
 exact⟨p',c',q',d',E',h1,h2,h3⟩
end
section
variable{E:St}{bl bc kl kc l c m d wl wc yl yc:Nat}{b k p q wp yp:Option Addr}{L:Lw}{B:List (List Rl)}{K:List (List Int)}{w:Wk}{ws ys:List Int}
theorem xNP{L:Lw}{B:List (List Rl)}{K T:List (List Int)}(hD:OkD L B K)(hT:TrOk B T):∀xs:List Nat,(xs.map λx=>wJ L (bgT T) (enT T) (wC B x)).sum<=(xs.map (zCP L B)).sum
 |[]=>Int.le_refl _
 |x::xs=>by
  have ih:=xNP hD hT xs;have h1:=yGT (x:=x) hD hT;rw[List.map_cons,List.map_cons,List.sum_cons,List.sum_cons];omega
theorem xKE{z s:St}{W X:Nat}{D:Nat}{T:List (List Int)}{xs:List Nat}{q9 q15:Option Addr}{c9 c15 cp:Nat}{pay i:Int}{pt:Option Addr}(hD:OkD L B K)(hT:TrOk B T)(hw:WkP z 62 83 w p l q m)(hsh:zCE w)(hm3:m<=3)(h64:xs.length<=64)(hpay:pay=(xs.map (zCP L B)).sum)
  (hI:RnI z X w q m d L B T xs xs.length pt cp i s):zDG yp yl yc D W q9 xs.length c9 pay q15 bl c15 X pt xs.length cp i s λv _=>v=.bool true:=by
 have hN:=hI.new;obtain⟨ds,ts,xp,xc,oX,hg,hgt,_,_,hin⟩:=hI.ex;have hi:=hI.wk;rw[List.take_length]at hi;have hps:=xNP hD hT xs;have u0:¬pay<i:=by omega
 have hdl:ds.length=xs.length:=by have:=hg.len_eq;rwa [List.length_map]at this
 obtain⟨wx,ewx⟩:∃wx:Wk,wx={ w with L:=ds }:=⟨_,rfl⟩;have wP:∀{u},Le s u->WkP u 62 83 wx xp xs.length q m:=λk=>by rw[ewx];exact⟨SlV.le hg.slv k,(hw.le (hN.le.trans k)).drv⟩
 have hshx:zCE wx:=by rw[ewx];exact hsh
 have lX:∀{u},Le s u->zJ tP u 31 ⟨X,0,none⟩=some (.agg ⟨wkc wx.J xp xs.length xc q m d wx.rest wx.run wx.N⟩):=λk=>by rw[ewx];exact(oX.le k).ldN (k:=0) (by kernel_rfl) (by kernel_rfl) rfl rfl (by simp)
 have c8:=xBP (c:=xc) (d:=d) (wP (Le.refl s)) hshx;by_cases hf:vR wx=0;rotate_left
 .exact yQP (lX (Le.refl s)) c8 rfl
 obtain⟨p1,e1,q1,d1,s1,k1,N1,w1⟩:=wEZ (c:=xc) (d:=d) (wP (Le.refl s)) (by omega) (by omega) hshx;obtain⟨v,s2,k2,N2,hb⟩:=wOT (c:=e1) (d:=d1) w1 hshx hf;have N12:=N1.trans N2;obtain⟨p3,e3,q3,d3,s3,k3,N3,w3⟩:=wEZ (c:=xc) (d:=d) (wP N12.le) (by omega) (by omega) hshx;have hln:wx.L.length=xs.length:=by rw[ewx];exact hdl
 rcases hb with ⟨hno,rfl⟩|⟨rs,pr,cr,pg,lg,cg,rfl,hrs,hro,hleg,hful⟩
 .obtain⟨v,s4,k4,N4,rs,pr,cr,rfl,hrs,hr1,hr2⟩:=wOR (c:=e3) (d:=d3) w3 hshx hf;have lt:=wDG hno hr1 hr2;exact yQO (lX (Le.refl s)) c8 k1 k2 (lX N12.le) k3 k4 ((oX.le ((N12.trans N3).trans N4).le).ld (k:=1) rfl zGB rfl) rfl u0 hf (by decide) rfl rfl (by omega)
 have rl:rs.length=xs.length:=hrs.len;obtain⟨p4,c4,s4,ap,A4,O4,b4⟩:=Ax.append (P:=tP) (k:=cr) (n0:=s3.j) uH Ax.nil (SlV.le hrs N3.le).1 (by omega) (by rw[zAJ _ .i64];simp[List.all_eq_true];intro a _;rfl) (Nat.le_refl _);rw[Nat.zero_add,List.nil_append]at A4;rw[Nat.zero_add]at ap;have N4:New s3 s4:=(New.refl s3).of_only O4 λb hb=>(AtP.none hb).elim
 have I4:yM s4 p4 xs.length rs:=Ax.slv A4 (by rw[List.length_map,rl]) hrs.2.2;have N34:=(N12.trans N3).trans N4;obtain⟨s5,k5,N5⟩:=wFO (c:=e3) (d:=d3) (rc:=c4) (tc:=cp) (w3.le N4.le) hshx hf I4 (SlV.le hgt.slv N34.le) hro hleg (λi hi=>by rw[ewx];exact hin i hi);refine yQN (P2:=λ_=>True) (Pr:=λ_ _=>False) (lX (Le.refl s)) c8 k1 k2 (lX N12.le) k3 ap k5 (yQQ (Inv:=λk' i z=>z=s5/\∃j:Nat,i=j/\j+k'=xs.length) ?_ xs.length 0 s5 ⟨rfl,0,rfl,by omega⟩) (λ_ _ h=>h.elim) (λ_ _=>yQM rfl) u0 hf rfl rfl rfl rfl;rintro k' i z ⟨rfl,j,rfl,hk⟩;by_cases hj:j<xs.length;rotate_left
 .exact xFO trivial
 obtain⟨a,rfl,x,hx,ld⟩:=xA (SlV.le hrs ((N3.trans N4).trans N5).le) hj;have e:yU rs j=x:=by unfold yU;rw[List.getD_eq_getElem?_getD,hx];rfl
 have h1:=hro.ros j (by omega);have h2:=hful j (by omega);have h3:wx.M.length=m:=w3.len.2;rw[e]at h1 h2;exact xFP ld ((oX.le (N34.trans N5).le).ld (k:=2) rfl zGA rfl) ⟨k' - 1,by omega,rfl,j+1,by omega,by omega⟩
theorem xUC(h:DnP E 59 58 b bl k kl B K)(hw:WkP E 62 83 w p l q m)(hws:SlV tP E 100 1 wp wl (ws.map wLS))(hwr:∀x∈ws,0<=x/\x<=65535)(hy:SlV tP E 5 1 yp yl (ys.map wDN))(hyr:∀y∈ys,0<=y/\y<=255) :
  zTP tP 9 3 [.agg ⟨dnc L b bl bc k kl kc⟩,.agg ⟨wkc w.J p l c q m d w.rest w.run w.N⟩,.slice wp wl wc,.slice yp yl yc] E λv _=>v=.bool true:=by
 obtain⟨s1,hs1⟩:∃s1,s1=(E.row (dnc L b bl bc k kl kc) 10).row (wkc w.J p l c q m d w.rest w.run w.N) 6:=⟨_,rfl⟩;have N1:New E s1:=by rw[hs1];exact(New.row _ _ _).row'
 have n1:s1.j=E.j+2:=by rw[hs1];rfl
 have oD1:Own s1 E.j (dnc L b bl bc k kl kc) 10:=by rw[hs1];exact(zX E _ 10).row
 have oW1:Own s1 (E.j+1) (wkc w.J p l c q m d w.rest w.run w.N) 6:=by rw[hs1];exact zX (E.row _ 10) _ 6
 have d1:=h.le N1.le;have w1:=hw.le N1.le;obtain⟨v1,c4,k4⟩:=wIR (L:=L) (bc:=bc) (kc:=kc) d1;cases v1 with
 |false=>subst hs1;exact xPW c4 rfl
 |true =>
 obtain⟨hb10,hk8,hB14,hK14⟩:=k4 rfl;have eB:=h.bs.len;have eK:=h.ks.len;have hB1:∀r∈B,r.length<=1000:=λr hr=>by have:=hB14 r hr;omega
 have hK1:∀r∈K,r.length<=1000:=λr hr=>by have:=hK14 r hr;omega
 obtain⟨v2,c5,k5⟩:=wDD (L:=L) (bc:=bc) (kc:=kc) d1 hb10 hk8 hB14;by_cases e2:v2=0;rotate_left
 .subst hs1;exact xQE c4 c5 rfl e2
 have hD:=k5 e2;have c6:=yUP (L:=L) (bc:=bc) (kc:=kc) d1 rfl (by omega) hB1;by_cases hs6:yZ B<=6;rotate_left
 .subst hs1;exact xQD c4 c5 c6 rfl e2 (by omega)
 have c7:=wOO (c:=c) (d:=d) w1;cases e7:zRH w with
 |false=>rw[e7]at c7;subst hs1;exact xPX c4 c5 c6 c7 rfl e2 (by omega)
 |true =>
 rw[e7]at c7;obtain⟨hsh,hl15,hm9⟩:=xIA e7;have hln:=w1.len;have c8:=xBP (c:=c) (d:=d) w1 hsh;by_cases e8:vR w=0;rotate_left
 .subst hs1;exact xQC ⟨c4,c5,c6,c7,c8⟩ rfl e2 (by omega) e8
 by_cases hm3:m<=3;rotate_left
 .subst hs1;exact xQB ⟨c4,c5,c6,c7,c8⟩ rfl e2 (by omega) e8 (by omega)
 by_cases hyl:0<yl;rotate_left
 .subst hs1;exact xQA ⟨c4,c5,c6,c7,c8⟩ rfl e2 (by omega) e8 (by omega) (by omega)
 obtain⟨b',bc',k',kc',s8,c11,M8,d8⟩:=wDE (L:=L) (bc:=bc) (kc:=kc) d1 (by omega) (by omega) hB1 hK1;obtain⟨v,s12,c10,M12,hbest⟩:=wIS (L:=L) (bc:=bc') (kc:=kc') d8 hD hs6 hB1 λz hz=>yJT (d8.le hz) hD hB1
 rcases hbest with rfl|⟨xs,q9,c9,pay,rfl,hpl,hxs,h64,hpay⟩
 .subst hs1;exact xPZ ⟨c4,c5,c6,c7,c8⟩ c11 c10 rfl e2 (by omega) e8 (by omega) (by omega) (by decide) rfl
 have N12:=(N1.trans M8).trans M12;have N1s:=M8.trans M12;have oD12:=oD1.le N1s.le;have oW12:=oW1.le N1s.le;have ld8:zJ tP s12 27 ⟨E.j,0,none⟩=some (.agg ⟨dnc L b bl bc k kl kc⟩):=oD12.ldN (k:=0) (by kernel_rfl) (by kernel_rfl) rfl rfl (by simp);obtain⟨q15,c15,T,s16,c12,M16,hTm,hT⟩:=wDB (L:=L) (bc:=bc) (kc:=kc) (wc:=wc) (h.le N12.le) hD hB1 (SlV.le hws N12.le) hwr;have N16:=N12.trans M16;have l31:zJ tP s16 31 ⟨E.j+1,0,none⟩=some (.agg ⟨wkc w.J p l c q m d w.rest w.run w.N⟩):=(oW12.le M16.le).ldN (k:=0) (by kernel_rfl) (by kernel_rfl) rfl rfl (by simp);obtain⟨X,hX⟩:∃X,X=s16.j:=⟨_,rfl⟩;obtain⟨t,ht⟩:∃t,t=((s16.row (wkc 0 none 0 0 none 0 0 0 0 0) 6).own s16.j (wkc w.J p l c q m d w.rest w.run w.N) 6).own s16.j (wkc w.J none 0 0 q m d w.rest w.run w.N) 6:=⟨_,rfl⟩;have Mt:New s16 t:=by rw[ht];exact((New.row _ _ _).own (Nat.le_refl _)).own (Nat.le_refl _)
 have oX:Own t X (wkc w.J none 0 0 q m d w.rest w.run w.N) 6:=by rw[ht,hX];exact((zX s16 _ 6).put).put
 have hI0:RnI s16 X w q m d L B T xs 0 none 0 0 t:=⟨Mt,⟨[],[],none,0,oX,Gr.nil,Gr.nil,λb hb=>(AtP.none hb).elim,λb hb=>(AtP.none hb).elim,λi hi=>by omega⟩,by simp⟩;obtain⟨n,hn,hn1,hn7,hv⟩:=yDG e8;have hw0:Row s16 ⟨E.j+1,0,none⟩ [iV w.J]:=by
  have:=(oW12.le M16.le).rw.part (k:=0) (m:=1) (by simp);simpa [zO] using this
 subst hs1;refine xPY (P0:=λp l c i s=>l=xs.length/\RnI s16 X w q m d L B T xs xs.length p c i s) (Pr:=λ_ _=>False) ⟨c4,c5,c6,c7,c8⟩ c11 c10 ld8 c12 l31 ?_ (λ_ _ h=>h.elim) ?_ e2 (by omega) e8 (by omega) (by omega) rfl
 .rw[<- ht,<- hX];refine yQR (Inv:=λk' p l c i i16 s=>∃j:Nat,i16=j/\j+k'=xs.length/\l=j/\RnI s16 X w q m d L B T xs j p c i s) ?_ xs.length none 0 0 0 0 t ⟨0,rfl,by omega,rfl,hI0⟩;rintro k' p2 l2 c2 i2 i16 s ⟨j,rfl,hk,rfl,hI⟩;by_cases hj:l2<xs.length
  .exact xCI (oD12.le M16.le) hw0 (h.le N16.le) hD hs6 hB14 hK14 hxs (hpl.le M16.le) h64 hTm hT (SlV.le hy N16.le) hyr hyl ⟨by omega,by omega⟩ (by omega) hI hj λp' c' i' s' hI'=>⟨k' - 1,by omega,l2+1,by omega,by omega,rfl,hI'⟩
  .have:l2=xs.length:=by omega
   subst this;exact xFQ ⟨rfl,hI⟩
 .rintro p' l' c' i' s ⟨rfl,hI⟩;rw[<- hX];exact xKE hD hT (hw.le N16.le) hsh hm3 h64 hpay hI
end
end Go.Proofs.YtflfajphjmajpaaGreat
