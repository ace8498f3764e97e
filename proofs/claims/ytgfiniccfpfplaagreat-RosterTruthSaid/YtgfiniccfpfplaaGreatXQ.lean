import Derived.Test.YtgfiniccfpfplaaGreatTy
import Derived.Test.YtgfiniccfpfplaaGreatXN
import Derived.Test.YtgfiniccfpfplaaGreatLayD
set_option linter.unusedVariables false
set_option maxRecDepth 20000
set_option linter.unusedSimpArgs false
namespace Go.Proofs.YtgfiniccfpfplaaGreat
open Go Go.Lay
open Tryz renaming prog -> Pg
section
noncomputable section
variable (s:oAa) (p x_a:Addr) (s_l x_l s_c x_c:Nat) (day aY:Int) (f:FuncId) (q5:Int->Int->St->Prop) (BA BB l1:Nat) (f_c:lVa) (dJ bu aF:Int) (q0:St->Prop) (Q:Int->St->Prop) (Z:St) (Nx Qr:Int->St->Prop) (q2:vPa) (q6:Int->Int->St->Prop) (Q0:St->Prop) (q8:Int->St->Prop)
def xDR:Code:=(Code.part [1,0,1,0,0] (qh 131))
def zQX:lNa:=[(0,.slice s s_l s_c),(1,.func (.func f) ⟨[]⟩ ⟨f_c⟩),(7,iV (s_l:Int)),(8,iV aF)]
def xQK:Alt:=⟨Int,.normal,fun t=>zQX s s_l s_c f f_c t,fun t=>[],fun t Z=>Q t Z⟩
def yHI (s:oAa) (s_l s_c:Nat) (f:FuncId) (f_c:lVa) (bu:Int):lNa:=[(4,iV bu)]
def zTC:Alt:=⟨Int,.ret,fun t=>yHI s s_l s_c f f_c t,fun t=>[],fun t Z=>Q t Z⟩
def yHJ (s:oAa) (s_l s_c:Nat) (f:FuncId) (f_c:lVa):lNa:=[]
def zTD:Alt:=⟨Unit,(.exit 0),fun t=>yHJ s s_l s_c f f_c,fun t=>[],fun t Z=>q0 Z⟩
def zXT:Prop:=qi qj none xDR 19 (zQX s s_l s_c f f_c aF) [] [xQK s s_l s_c f f_c Nx,zTC s s_l s_c f f_c Qr,zTD s s_l s_c f f_c Q0] Z
def xDS:Prop:=qk qj none xDR 19 (zQX s s_l s_c f f_c aF) [] [zTC s s_l s_c f f_c Qr,zTD s s_l s_c f f_c Q0] Z
def yHK:Prop:=kZ qj (qh 131) [1,0,1,0] (ql 131 q2) .ret 19 (yHI s s_l s_c f f_c bu) Z
def yHL:Prop:=kZ qj (qh 131) [1,0,1,0] (ql 131 q2) (.exit 0) 19 (yHJ s s_l s_c f f_c) Z
def xCM:Code:=(Code.part [1,0,1,0,0] (qh 101))
def zXH:lNa:=[(0,pz p),(1,iV day),(5,pt BA 0),(6,pt BB 0),(13,iV (l1:Int)),(14,iV dJ)]
def xNU:Alt:=⟨Int,.normal,fun t=>zXH p day BA BB l1 t,fun t=>[],fun t Z=>Q t Z⟩
def yGB (p:Addr) (day:Int) (BA BB l1:Nat):lNa:=[(5,pt BA 0),(6,pt BB 0)]
def zSL:Alt:=⟨Unit,(.exit 0),fun t=>yGB p day BA BB l1,fun t=>[],fun t Z=>q0 Z⟩
def zXI:Prop:=qi qj none xCM 46 (zXH p day BA BB l1 dJ) [] [xNU p day BA BB l1 Nx,zSL p day BA BB l1 Q0] Z
def xCN:Prop:=qk qj none xCM 46 (zXH p day BA BB l1 dJ) [] [zSL p day BA BB l1 Q0] Z
def yGC:Prop:=kZ qj (qh 101) [1,0,1,0] (ql 101 q2) (.exit 0) 46 (yGB p day BA BB l1) Z
def xCB:Code:=(Code.part [1,1,1,0,1,0,0] (qh 128))
def zPT:lNa:=[(0,.slice (some x_a) x_l x_c),(3,iV aY),(4,iV bu)]
def xMC:Alt:=⟨Int × Int,.normal,fun t=>zPT x_a x_l x_c t.1 t.2,fun t=>[],fun t Z=>q5 t.1 t.2 Z⟩
def yFC (x_a:Addr) (x_l x_c:Nat) (aY:Int):lNa:=[(3,iV aY)]
def zSC:Alt:=⟨Int,(.exit 0),fun t=>yFC x_a x_l x_c t,fun t=>[],fun t Z=>Q t Z⟩
def yJM:Prop:=qi qj none xCB 25 (zPT x_a x_l x_c aY bu) [] [xMC x_a x_l x_c q6,zSC x_a x_l x_c q8] Z
def xCC:Prop:=qk qj none xCB 25 (zPT x_a x_l x_c aY bu) [] [zSC x_a x_l x_c q8] Z
def yFD:Prop:=kZ qj (qh 128) [1,1,1,0,1,0] (ql 128 q2) (.exit 0) 25 (yFC x_a x_l x_c aY) Z
end
variable {p f8 a30 v0 v1 v2 v3 a1 s_a x_a:Addr} {dH duty aV bG bb ba n2 n3 n4 n5 n6 n10 n11 n12 n13 n14 n15 n16 n17 n18 n19 n20 n21 n22 n23 n25 n26 n27 n28 n29 n31 n33 n34 n35 n36 eX n7 n8 n9 eI aF nG bu n1 day dJ nA nB nD aY nF:Int} {l1 c1 l7 c7 l3 c3 l4 c4 s_l s_c l_l l_c BA BB x_l x_c:Nat} {q7 q3 q4 l q1:oAa} {Z8 Z24 Z32 Z Z14 ZL ZZ ZP:St} {Q:vPa} {dP dS f1 f fG right:FuncId} {dp dv cy eh f_c fG_c bK cs1838 cs1840:lVa} {b18:Bool} {Inv:Nat->Int->St->Prop} {Qr Nx Pr:Int->St->Prop} {Q0 P0:St->Prop}
@[reducible] def Ha7 (Z Z8 Z24 Z32:St) (p f8 a30:Addr) (dH aV bG bb ba duty n2 n3 n4 n5 n6 n10 n11 n12 n13 n14 n15 n16 n17 n18 n19 n20 n21 n22 n23 n25 n26 n27 n28 n29 n31 n33 n34 n35 n36:Int) (l1 c1 l7 c7:Nat) (q7:oAa):Prop:=qn ((((Z.row [.pointer (some p)] 1).row [iV dH] 1).row (zL aV bG bb ba) 4).row (zL 0 0 0 0) 4) 31 (zJ p 1)=some (.slice (some f8) l1 c1)/\qn ((((Z.row [.pointer (some p)] 1).row [iV dH] 1).row (zL aV bG bb ba) 4).row (zL 0 0 0 0) 4) 85 (zJ f8 (Int.toNat duty*5))=some (.agg ⟨zG n2 n3 n4 n5 n6⟩)/\qm 76 [] ((((((Z.row [.pointer (some p)] 1).row [iV dH] 1).row (zL aV bG bb ba) 4).row (zL 0 0 0 0) 4).row (zG 0 0 0 0 0) 5).own (Z.y+4) (zG n2 n3 n4 n5 n6) 5) (.slice q7 l7 c7) Z8/\(qm 116 [.slice q7 l7 c7,.func (.func 117) ⟨[]⟩ ⟨[.pointer (some ⟨Z.y,0,none⟩),.pointer (some ⟨(Z.y+1),0,none⟩),.pointer (some ⟨(Z.y+4),0,none⟩),.pointer (some ⟨(Z.y+2),0,none⟩)]⟩] Z8 (.bool true) Z8)/\(qn Z8 107 ⟨(Z.y+2),0,none⟩=some (.agg ⟨zL n10 n11 n12 n13⟩))/\(qn Z8 85 ⟨(Z.y+4),0,none⟩=some (.agg ⟨zG n14 n15 n16 n17 n18⟩))/\(qn Z8 3 ⟨(Z.y+4),3,none⟩=some (iV n19))/\(qm 77 [.agg ⟨zL n10 n11 n12 n13⟩,.agg ⟨zG n14 n15 n16 n17 n18⟩,iV n19] Z8 (.agg ⟨zL n20 n21 n22 n23⟩) Z8)/\(qo (evL [.pointer (some ⟨(Z.y+2),0,none⟩),.agg ⟨zL n20 n21 n22 n23⟩]) Z8 (.store 107 (.tmp 0) (.tmp 1))=some (undef,Z24))/\(qn Z24 107 ⟨(Z.y+2),0,none⟩=some (.agg ⟨zL n25 n26 n27 n28⟩))/\(qn Z24 3 ⟨(Z.y+2),2,none⟩=some (iV n29))/\qn Z24 125 ⟨Z.y,0,none⟩=some (.pointer (some a30))/\qn Z24 3 (zJ a30 5)=some (iV n31)/\(qo (evL [.pointer (some ⟨(Z.y+3),0,none⟩),.agg ⟨zL n25 n26 n27 n28⟩]) Z24 (.store 107 (.tmp 0) (.tmp 1))=some (undef,Z32))/\(zF Z24.y [.pointer (some ⟨(Z.y+2),0,none⟩)])/\(zF Z24.y [.pointer (some ⟨(Z.y+2),2,none⟩)])/\zF Z24.y [.pointer (some ⟨Z.y,0,none⟩)]/\zF Z24.y [.pointer (some (zJ a30 5))]/\(zF Z24.y [.pointer (some ⟨(Z.y+3),0,none⟩),.agg ⟨zL n25 n26 n27 n28⟩])/\((zLq Z24 3 ⟨(Z.y+2),2,none⟩ (iV n29)))/\((zLq Z32 3 ⟨(Z.y+2),2,none⟩ (iV n29)))/\((zLq Z24 125 ⟨Z.y,0,none⟩ (.pointer (some a30))))/\((zLq Z32 125 ⟨Z.y,0,none⟩ (.pointer (some a30))))/\((zLq Z24 3 (zJ a30 5) (iV n31)))/\((zLq Z32 3 (zJ a30 5) (iV n31)))/\(qn Z32 107 ⟨(Z.y+3),0,none⟩=some (.agg ⟨zL n33 n34 n35 n36⟩))
theorem wAR (H:Ha7 Z Z8 Z24 Z32 p f8 a30 dH aV bG bb ba duty n2 n3 n4 n5 n6 n10 n11 n12 n13 n14 n15 n16 n17 n18 n19 n20 n21 n22 n23 n25 n26 n27 n28 n29 n31 n33 n34 n35 n36 l1 c1 l7 c7 q7) (nx:Q (.tuple ⟨[qf (zL n33 n34 n35 n36),.bool true]⟩) Z32) (u1:Ix duty l1:=by omega) (u2:n29<=n31:=by omega):qg 99 [pz p,iV dH,iV duty,qf (zL aV bG bb ba)] Z Q :=
 match H with|⟨h1,h2,h3,h4,h5,h6,h7,h8,h9,h10,h11,h12,h13,h14,h15,h16,h17,h18,h19,h20,h21,h22,h23,h24,h25,h26⟩=>let s1:=Z.row [pz p] 1;let s2:=s1.row [iV dH] 1;let s3:=s2.row (zL aV bG bb ba) 4;let s4:=s3.row (zL 0 0 0 0) 4;let s5:=s4.row (zG 0 0 0 0 0) 5;let s6:=s5.own (Z.y+4) (zG n2 n3 n4 n5 n6) 5;zH [.g,.g,.g,.g,.g,.l (pz p),.g,.g,.g,.l (.slice (some f8) l1 c1),.g,.i,.l (qf (zG n2 n3 n4 n5 n6)),.g,.e undef s6,.c (.slice q7 l7 c7) Z8,.g,.c (.bool true) Z8,.g,.l (qf (zL n10 n11 n12 n13)),.l (qf (zG n14 n15 n16 n17 n18)),.g,.g,.l (iV n19),.c (qf (zL n20 n21 n22 n23)) Z8,.e undef Z24,.l (qf (zL n25 n26 n27 n28)),.g,.l (iV n29),.l (pz a30),.g,.g,.g,.l (iV n31),.b true,.e undef Z32,.g,.l (qf (zL n33 n34 n35 n36))] (kd (an6 ((zC _ _ _).row.row.row.rw.ld uM (k:=0) rfl:lz s4 125 (qe Z.y 0) (pz p)) h1 u1 h2 ((zC _ _ _).store (vs:=(zG n2 n3 n4 n5 n6)) rfl uD rfl (nle rfl) rfl:qo (evL [pt ((Z.y+4)) 0,qf (zG n2 n3 n4 n5 n6)]) s5 (.store 85 (.tmp 0) (.tmp 1))=some (undef,s6)) h3 (an6 h4 h5 h6 h7 h8 h9 (an6 h10 h11 h12 h13 (yE u2) h14 (an6 h15 h16 h17 h18 h19 h20 (an6 h21 h22 h23 h24 h25 h26 nx))))))
theorem wAQ (H:Ha7 Z Z8 Z24 Z32 p f8 a30 dH aV bG bb ba duty n2 n3 n4 n5 n6 n10 n11 n12 n13 n14 n15 n16 n17 n18 n19 n20 n21 n22 n23 n25 n26 n27 n28 n29 n31 n33 n34 n35 n36 l1 c1 l7 c7 q7) (nx:Q (.tuple ⟨[qf (zL n33 n34 n35 n36),.bool false]⟩) Z32) (u1:Ix duty l1:=by omega) (u2:¬ n29<=n31:=by omega):qg 99 [pz p,iV dH,iV duty,qf (zL aV bG bb ba)] Z Q :=
 match H with|⟨h1,h2,h3,h4,h5,h6,h7,h8,h9,h10,h11,h12,h13,h14,h15,h16,h17,h18,h19,h20,h21,h22,h23,h24,h25,h26⟩=>let s1:=Z.row [pz p] 1;let s2:=s1.row [iV dH] 1;let s3:=s2.row (zL aV bG bb ba) 4;let s4:=s3.row (zL 0 0 0 0) 4;let s5:=s4.row (zG 0 0 0 0 0) 5;let s6:=s5.own (Z.y+4) (zG n2 n3 n4 n5 n6) 5;zH [.g,.g,.g,.g,.g,.l (pz p),.g,.g,.g,.l (.slice (some f8) l1 c1),.g,.i,.l (qf (zG n2 n3 n4 n5 n6)),.g,.e undef s6,.c (.slice q7 l7 c7) Z8,.g,.c (.bool true) Z8,.g,.l (qf (zL n10 n11 n12 n13)),.l (qf (zG n14 n15 n16 n17 n18)),.g,.g,.l (iV n19),.c (qf (zL n20 n21 n22 n23)) Z8,.e undef Z24,.l (qf (zL n25 n26 n27 n28)),.g,.l (iV n29),.l (pz a30),.g,.g,.g,.l (iV n31),.b false,.e undef Z32,.g,.l (qf (zL n33 n34 n35 n36))] (kd (an6 ((zC _ _ _).row.row.row.rw.ld uM (k:=0) rfl:lz s4 125 (qe Z.y 0) (pz p)) h1 u1 h2 ((zC _ _ _).store (vs:=(zG n2 n3 n4 n5 n6)) rfl uD rfl (nle rfl) rfl:qo (evL [pt ((Z.y+4)) 0,qf (zG n2 n3 n4 n5 n6)]) s5 (.store 85 (.tmp 0) (.tmp 1))=some (undef,s6)) h3 (an6 h4 h5 h6 h7 h8 h9 (an6 h10 h11 h12 h13 (yH u2) h14 (an6 h15 h16 h17 h18 h19 h20 (an6 h21 h22 h23 h24 h25 h26 nx))))))
theorem wAP:let s1:=Z.row [pz p] 1;let s2:=s1.row [iV dH] 1;let s3:=s2.row (zL aV bG bb ba) 4;let s4:=s3.row (zL 0 0 0 0) 4;let s5:=s4.row (zG 0 0 0 0 0) 5;let s6:=s5.own (Z.y+4) (zG n2 n3 n4 n5 n6) 5;∀ (h1:lz s4 31 (zJ p 1) (.slice (some f8) l1 c1)) (h2:lz s4 85 (zJ f8 (Int.toNat duty*5)) (qf (zG n2 n3 n4 n5 n6))) (h3:qm 76 [] s6 (.slice q7 l7 c7) Z8) (h4:qm 116 [.slice q7 l7 c7,.func (.func 117) ⟨[]⟩ ⟨[pt Z.y 0,pt ((Z.y+1)) 0,pt ((Z.y+4)) 0,pt ((Z.y+2)) 0]⟩] Z8 (.bool false) Z8) (h5:lz Z8 107 ⟨(Z.y+2),0,none⟩ (qf (zL n10 n11 n12 n13))) (h6:qo (evL [pt ((Z.y+3)) 0,qf (zL n10 n11 n12 n13)]) Z8 (.store 107 (.tmp 0) (.tmp 1))=some (undef,Z14)) (h7:lz Z14 107 ⟨(Z.y+3),0,none⟩ (qf (zL n15 n16 n17 n18))) (nx:Q (.tuple ⟨[qf (zL n15 n16 n17 n18),.bool false]⟩) Z14) (u1:Ix duty l1:=by omega),qg 99 [pz p,iV dH,iV duty,qf (zL aV bG bb ba)] Z Q:=
 let s1:=Z.row [pz p] 1;let s2:=s1.row [iV dH] 1;let s3:=s2.row (zL aV bG bb ba) 4;let s4:=s3.row (zL 0 0 0 0) 4;let s5:=s4.row (zG 0 0 0 0 0) 5;let s6:=s5.own (Z.y+4) (zG n2 n3 n4 n5 n6) 5;fun h1 h2 h3 h4 h5 h6 h7 nx u1=>zH [.g,.g,.g,.g,.g,.l (pz p),.g,.g,.g,.l (.slice (some f8) l1 c1),.g,.i,.l (qf (zG n2 n3 n4 n5 n6)),.g,.e undef s6,.c (.slice q7 l7 c7) Z8,.g,.c (.bool false) Z8,.g,.l (qf (zL n10 n11 n12 n13)),.e undef Z14,.g,.l (qf (zL n15 n16 n17 n18))] (kd (an4 ((zC _ _ _).row.row.row.rw.ld uM (k:=0) rfl:lz s4 125 (qe Z.y 0) (pz p)) h1 u1 h2 (an6 ((zC _ _ _).store (vs:=(zG n2 n3 n4 n5 n6)) rfl uD rfl (nle rfl) rfl:qo (evL [pt ((Z.y+4)) 0,qf (zG n2 n3 n4 n5 n6)]) s5 (.store 85 (.tmp 0) (.tmp 1))=some (undef,s6)) h3 h4 h5 h6 h7 nx)))
theorem xWC:let s1:=Z.row [.int .u8 eX,.func (.func dP) ⟨dv⟩ ⟨dp⟩] 2;∀ (h1:lz s1 125 v0 (pz a1)) (h2:lz s1 34 a1 (qf (wkc n2 q3 l3 c3 q4 l4 c4 n5 n6 n7))) (h3:lz s1 3 v1 (iV n8)) (h4:lz s1 85 v2 (qf (zG n9 n10 n11 n12 n13))) (h5:lz s1 107 v3 (qf (zL n14 n15 n16 n17))) (h6:qm dP (dv ++ (qf (wkc n2 q3 l3 c3 q4 l4 c4 n5 n6 n7)::iV n8::(qf (zG n9 n10 n11 n12 n13))::(qf (zL n14 n15 n16 n17))::dp)) s1 (.bool b18) s1) (nx:Q (.bool b18) s1),qg 117 [qf [.int .u8 eX,.func (.func dP) ⟨dv⟩ ⟨dp⟩],pz v0,pz v1,pz v2,pz v3] Z Q:=
 let s1:=Z.row [.int .u8 eX,.func (.func dP) ⟨dv⟩ ⟨dp⟩] 2;fun h1 h2 h3 h4 h5 h6 nx=>zH [.g,.g,.g,.l (.func (.func dP) ⟨dv⟩ ⟨dp⟩),.l (pz a1),.g,.g,.l (qf (wkc n2 q3 l3 c3 q4 l4 c4 n5 n6 n7)),.l (iV n8),.l (qf (zG n9 n10 n11 n12 n13)),.l (qf (zL n14 n15 n16 n17)),.c (.bool b18) s1,.g] (kd (ai ((zC _ _ _).rw.ld xBF (k:=1) rfl:lz s1 116 (qe Z.y 1) (.func (.func dP) ⟨dv⟩ ⟨dp⟩)) (an6 h1 h2 h3 h4 h5 h6 nx)))
theorem xSW:let s1:=Z.row [.int .u8 eI,.func (.func dS) ⟨[]⟩ ⟨cy⟩] 2;∀ (h1:lz s1 164 v0 (.func (.func f1) ⟨[]⟩ ⟨eh⟩)) (h2:qm f1 (qf [.int .u8 eI,.func (.func dS) ⟨[]⟩ ⟨cy⟩]::eh) s1 (.bool true) s1) (nx:Q (.bool false) s1),qg 127 [qf [.int .u8 eI,.func (.func dS) ⟨[]⟩ ⟨cy⟩],pz v0] Z Q:=
 let s1:=Z.row [.int .u8 eI,.func (.func dS) ⟨[]⟩ ⟨cy⟩] 2;fun h1 h2 nx=>zH [.g,.g,.l (.func (.func f1) ⟨[]⟩ ⟨eh⟩),.l (qf [.int .u8 eI,.func (.func dS) ⟨[]⟩ ⟨cy⟩]),.c (.bool true) s1,.g,.g] (kd (an3 h1 ((zC _ _ _).rw.ldN zPG zCY (k:=0) rfl rfl (nle rfl):lz s1 118 (qe Z.y 0) (qf [.int .u8 eI,.func (.func dS) ⟨[]⟩ ⟨cy⟩])) h2 nx))
theorem xSV:let s1:=Z.row [.int .u8 eI,.func (.func dS) ⟨[]⟩ ⟨cy⟩] 2;∀ (h1:lz s1 164 v0 (.func (.func f1) ⟨[]⟩ ⟨eh⟩)) (h2:qm f1 (qf [.int .u8 eI,.func (.func dS) ⟨[]⟩ ⟨cy⟩]::eh) s1 (.bool false) s1) (nx:Q (.bool true) s1),qg 127 [qf [.int .u8 eI,.func (.func dS) ⟨[]⟩ ⟨cy⟩],pz v0] Z Q:=
 let s1:=Z.row [.int .u8 eI,.func (.func dS) ⟨[]⟩ ⟨cy⟩] 2;fun h1 h2 nx=>zH [.g,.g,.l (.func (.func f1) ⟨[]⟩ ⟨eh⟩),.l (qf [.int .u8 eI,.func (.func dS) ⟨[]⟩ ⟨cy⟩]),.c (.bool false) s1,.g,.g] (kd (an3 h1 ((zC _ _ _).rw.ldN zPG zCY (k:=0) rfl rfl (nle rfl):lz s1 118 (qe Z.y 0) (qf [.int .u8 eI,.func (.func dS) ⟨[]⟩ ⟨cy⟩])) h2 nx))
theorem yBA {s:oAa} (hb:∀ k aF Z,Inv k aF Z->zXT s s_l s_c f f_c aF Z (NX1 Inv k) Qr Q0):∀ k aF Z,Inv k aF Z->xDS s s_l s_c f f_c aF Z Qr Q0 :=
 xE (ai uZ (ai (xV 0) trivial)) hb
theorem xQJ (h1:lz Z 118 (zJ s_a (Int.toNat aF*2)) (qf [.int .u8 nG,.func (.func fG) ⟨[]⟩ ⟨fG_c⟩])) (h2:qm f (qf [.int .u8 nG,.func (.func fG) ⟨[]⟩ ⟨fG_c⟩]::f_c) Z (.bool true) Z) (nx:Qr aF Z) (u1:aF<(s_l:Int):=by omega) (u2:Ix aF s_l:=by omega):zXT (some s_a) s_l s_c f f_c aF Z Nx Qr Q0 :=
 kO 1 aF [.b true,.g,.g,.g,.g,.g,.i,.l (qf [.int .u8 nG,.func (.func fG) ⟨[]⟩ ⟨fG_c⟩]),.c (.bool true) Z,.g,.g] (fun _ f=>an4 (zR u1) u2 h1 h2 f) nx
theorem yQR (h1:lz Z 118 (zJ s_a (Int.toNat aF*2)) (qf [.int .u8 nG,.func (.func fG) ⟨[]⟩ ⟨fG_c⟩])) (h2:qm f (qf [.int .u8 nG,.func (.func fG) ⟨[]⟩ ⟨fG_c⟩]::f_c) Z (.bool false) Z) (nx:Nx (aF+1) Z) (u1:aF<(s_l:Int):=by omega) (u2:Ix aF s_l:=by omega) (u3:I6 (aF+1):=by omega):zXT (some s_a) s_l s_c f f_c aF Z Nx Qr Q0 :=
 kO 0 (aF+1) [.b true,.g,.g,.g,.g,.g,.i,.l (qf [.int .u8 nG,.func (.func fG) ⟨[]⟩ ⟨fG_c⟩]),.c (.bool false) Z,.n (aF+1),.g] (fun _ f=>an5 (zR u1) u2 h1 h2 (w64 u3) f) nx
theorem xQI {s:oAa} (nx:Q0 Z) (u1:¬ aF<(s_l:Int):=by omega):zXT s s_l s_c f f_c aF Z Nx Qr Q0 :=
 kO 2 () [.b false] (fun _ f=>ai (zT u1) f) nx
theorem xDQ {s:oAa} (hL:xDS s s_l s_c f f_c 0 Z Pr P0) (kr:∀ i4_1' Z',Pr i4_1' Z'->yHK s s_l s_c f f_c i4_1' Z' Q) (k0:∀ Z',P0 Z'->yHL s s_l s_c f f_c Z' Q):qg 131 [.slice s s_l s_c,.func (.func f) ⟨[]⟩ ⟨f_c⟩] Z Q :=
 zH [.g,.g,.g,.g,.lf 19 (zQX s s_l s_c f f_c 0) [zTC s s_l s_c f f_c Pr,zTD s s_l s_c f f_c P0]] (kd (ai (ai tt (ai (arf (zQX s s_l s_c f f_c 0)) hL)) (ai (kz1 kr) (ai (kz0 k0) trivial))))
theorem yYU {s:oAa} (nx:Q (iV bu) Z):yHK s s_l s_c f f_c bu Z Q :=
 sK [] nx
theorem yYV {s:oAa} (nx:Q (iV (-1)) Z):yHL s s_l s_c f f_c Z Q :=
 sK [.g] nx
theorem xXA {s:oAa} (h1:qm 131 [.slice s s_l s_c,.func (.func f) ⟨[]⟩ ⟨f_c⟩] Z (iV n1) Z) (nx:Q (.bool true) Z) (u1:0<=n1:=by omega):qg 126 [.slice s s_l s_c,.func (.func f) ⟨[]⟩ ⟨f_c⟩] Z Q :=
 zH [.g,.g,.g,.c (iV n1) Z,.b true,.g] (kd (an2 h1 (yE u1) nx))
theorem xWZ {s:oAa} (h1:qm 131 [.slice s s_l s_c,.func (.func f) ⟨[]⟩ ⟨f_c⟩] Z (iV n1) Z) (nx:Q (.bool false) Z) (u1:¬ 0<=n1:=by omega):qg 126 [.slice s s_l s_c,.func (.func f) ⟨[]⟩ ⟨f_c⟩] Z Q :=
 zH [.g,.g,.g,.c (iV n1) Z,.b false,.g] (kd (an2 h1 (yH u1) nx))
theorem xXY:let Y1:=Z.row [.func (.func right) ⟨[]⟩ ⟨bK⟩] 1;∀ (h1:qm 126 [.slice l l_l l_c,.func (.func 127) ⟨[]⟩ ⟨[pt Z.y 0]⟩] Y1 (.bool true) Y1) (nx:Q (.bool false) Y1),qg 116 [.slice l l_l l_c,.func (.func right) ⟨[]⟩ ⟨bK⟩] Z Q:=
 fun h1 nx=>zH [.g,.g,.g,.g,.c (.bool true) (Z.row [.func (.func right) ⟨[]⟩ ⟨bK⟩] 1),.g,.g] (kd (ai h1 nx))
theorem xXX:let Y1:=Z.row [.func (.func right) ⟨[]⟩ ⟨bK⟩] 1;∀ (h1:qm 126 [.slice l l_l l_c,.func (.func 127) ⟨[]⟩ ⟨[pt Z.y 0]⟩] Y1 (.bool false) Y1) (nx:Q (.bool true) Y1),qg 116 [.slice l l_l l_c,.func (.func right) ⟨[]⟩ ⟨bK⟩] Z Q:=
 fun h1 nx=>zH [.g,.g,.g,.g,.c (.bool false) (Z.row [.func (.func right) ⟨[]⟩ ⟨bK⟩] 1),.g,.g] (kd (ai h1 nx))
theorem yXA (hb:∀ k dJ Z,Inv k dJ Z->zXI p day BA BB l1 dJ Z (NX1 Inv k) Q0):∀ k dJ Z,Inv k dJ Z->xCN p day BA BB l1 dJ Z Q0 :=
 xE (ai (xV 0) trivial) hb
theorem xNT:let s1:=(day+1)*1440;let Y1:=ZL.row [iV nA,iV (s1-nB)] 1;∀ (h1:lz Z 3 ⟨BA,0+Int.toNat dJ*4+3,none⟩ (iV nG)) (h2:qo (evL [pt BA (0+Int.toNat dJ*4+1),iV 0]) Z (.store 3 (.tmp 0) (.tmp 1))=some (undef,ZL)) (h3:lz ZL 3 ⟨BA,0+Int.toNat dJ*4+0,none⟩ (iV nA)) (h4:lz ZL 3 (zJ p 3) (iV nB)) (h5:qm 118 [.slice (some (qe ZL.y 0)) 2 2] Y1 (iV nD) Y1) (h6:qo (evL [pt BA (0+Int.toNat dJ*4+0),iV nD]) Y1 (.store 3 (.tmp 0) (.tmp 1))=some (undef,ZZ)) (nx:Nx (dJ+1) ZZ) (u1:dJ<(l1:Int):=by omega) (u2:Ix dJ 6:=by omega) (u3:¬ nG=day:=by omega) (u4:I6 (day+1):=by omega) (u5:I6 s1:=by omega) (u6:I6 (s1-nB):=by omega) (u7:I6 (dJ+1):=by omega),zXI p day BA BB l1 dJ Z Nx Q0:=
 let s1:=(day+1)*1440;fun h1 h2 h3 h4 h5 h6 nx u1 u2 u3 u4 u5 u6 u7=>kO 0 (dJ+1) [.b true,.g,.g,.g,.i,.g,.l (iV nG),.g,.b true,.g,.i,.g,.e undef ZL,.g,.g,.i,.g,.l (iV nA),.g,.n (day+1),.n s1,.g,.g,.g,.g,.l (iV nB),.n (s1-nB),.g,.c (iV nD) (ZL.row [iV nA,iV (s1-nB)] 1),.i,.g,.e undef ZZ,.n (dJ+1),.g] (fun _ f=>an4 (zR u1) u2 h1 (zCC u3) (an6 u2 h2 u2 h3 (w64 u4) (w64 u5) (an6 h4 (w64 u6) h5 u2 h6 (w64 u7) f))) nx
theorem xNS (h1:lz Z 3 ⟨BA,0+Int.toNat dJ*4+3,none⟩ (iV nG)) (nx:Nx (dJ+1) Z) (u1:dJ<(l1:Int):=by omega) (u2:Ix dJ 6:=by omega) (u3:nG=day:=by omega) (u4:I6 (dJ+1):=by omega):zXI p day BA BB l1 dJ Z Nx Q0 :=
 kO 0 (dJ+1) [.b true,.g,.g,.g,.i,.g,.l (iV nG),.g,.b false,.n (dJ+1),.g] (fun _ f=>an5 (zR u1) u2 h1 (xR u3) (w64 u4) f) nx
theorem xNR (nx:Q0 Z) (u1:¬ dJ<(l1:Int):=by omega):zXI p day BA BB l1 dJ Z Nx Q0 :=
 kO 1 () [.b false] (fun _ f=>ai (zT u1) f) nx
theorem xVQ {s:lVa}:let y0:=(Z.row s 4).row [iV 0,iV 0,iV 0,iV 0,iV 0,iV 0,iV 0,iV 0,iV 0,iV 0,iV 0,iV 0,iV 0,iV 0,iV 0,iV 0,iV 0,iV 0,iV 0,iV 0,iV 0,iV 0,iV 0,iV 0] 4;∀ (h1:lz y0 32 (zJ p 2) (.slice q1 l1 c1)) (hL:xCN p day Z.y (Z.y+1) l1 0 y0 P0) (k0:∀ Z',P0 Z'->yGC p day Z.y (Z.y+1) l1 Z' Q),qg 101 [pz p,iV day,qf s] Z Q :=
 let s1:=zXH p day Z.y (Z.y+1) l1 0;fun h1 hL k0=>zH [.g,.g,.g,.g,.g,.g,.l (.slice q1 l1 c1),.g,.g,.lf 46 s1 [zSL p day Z.y (Z.y+1) l1 P0]] (kd (ai h1 (ai (ai tt (ai (arf s1) hL)) (ai (kz0 k0) trivial))))
theorem yWZ (h1:lz Z 109 (qe BA 0) (qf cs1838)) (h2:qo (evL [pt BB 0,qf cs1838]) Z (.store 109 (.tmp 0) (.tmp 1))=some (undef,ZP)) (h3:lz ZP 109 (qe BB 0) (qf cs1840)) (nx:Q (qf cs1840) ZP):yGC p day BA BB l1 Z Q :=
 sK [.l (qf cs1838),.e undef ZP,.l (qf cs1840)] (an3 h1 h2 h3 nx)
theorem xHX (h1:qm 128 [.slice l l_l l_c] Z (iV n1) Z) (nx:Q (iV n1) Z):qg 118 [.slice l l_l l_c] Z Q :=
 zH [.g,.g,.c (iV n1) Z,.g] (kd (ai h1 nx))
theorem yUT {Inv:Nat->Int->Int->St->Prop} {Q0:Int->St->Prop} (hb:∀ k aY bu Z,Inv k aY bu Z->yJM x_a x_l x_c aY bu Z (NX2 Inv k) Q0):∀ k aY bu Z,Inv k aY bu Z->xCC x_a x_l x_c aY bu Z Q0 :=
 zCR (ai (xV 0) trivial) hb
theorem xMB {Nx:Int->Int->St->Prop} {Q0:Int->St->Prop} (h1:lz Z 3 (zJ x_a (Int.toNat bu*1)) (iV nG)) (h2:xM Pg (evL [iV aY,iV nG]) Z (.call { callee:=.builtin .max,args:=⟨wS 2⟩,argTypes:=⟨[3,3]⟩ })=some (iV nF)) (nx:Nx nF (bu+1) Z) (u1:bu<(x_l:Int):=by omega) (u2:Ix bu x_l:=by omega) (u3:I6 (bu+1):=by omega):yJM x_a x_l x_c aY bu Z Nx Q0 :=
 kO 0 (nF,bu+1) [.g,.g,.g,.b true,.g,.g,.g,.i,.l (iV nG),.v (iV nF),.g,.g,.n (bu+1),.g] (fun _ f=>an5 (zR u1) u2 h1 h2 (w64 u3) f) nx
theorem xMA {Nx:Int->Int->St->Prop} {Q0:Int->St->Prop} (nx:Q0 aY Z) (u1:¬ bu<(x_l:Int):=by omega):yJM x_a x_l x_c aY bu Z Nx Q0 :=
 kO 1 aY [.g,.g,.g,.b false] (fun _ f=>ai (zT u1) f) nx
theorem xUL {P0:Int->St->Prop} (h1:lz Z 3 x_a (iV n1)) (hL:xCC x_a x_l x_c n1 1 Z P0) (k0:∀ i3_1' Z',P0 i3_1' Z'->yFD x_a x_l x_c i3_1' Z' Q) (u1:¬ (x_l:Int)<1:=by omega) (u2:Ix 0 x_l:=by omega):qg 128 [.slice (some x_a) x_l x_c] Z Q :=
 zH [.g,.g,.g,.b false,.g,.i,.l (iV n1),.g,.g,.lf 25 (zPT x_a x_l x_c n1 1) [zSC x_a x_l x_c P0]] (kd (an3 (zT u1) u2 h1 (ai (ai tt (ai (arf (zPT x_a x_l x_c n1 1)) hL)) (ai (kz1 k0) trivial))))
theorem yUS (nx:Q (iV aY) Z):yFD x_a x_l x_c aY Z Q :=
 sK [.g,.g] nx
end
section
variable {t d i b c:Nat} {D x y:Int} {f:Nat->Int} {a v:List Int}
section
variable {P:Program}
theorem xNK {e sz d:Nat} {xs ys:Array Value} {R:Nat->Bool}:∀ (L:List Nat),(∀ i∈L,∃ a b,zZ P (part e xs (i*sz))=some a/\zZ P (part e ys (i*sz))=some b/\zZ P (Op.equalIn d e a b)=some (R i)) ->
  zZ P (forIn L ((none,()):Option Bool × Unit) fun i __s=>do
    let a <- part e xs (i*sz)
    let b <- part e ys (i*sz)
    let r <- Op.equalIn d e a b
    if (!r)=true then pure (ForInStep.done (some false,())) else pure (ForInStep.yield (none,())))=some (if ∀ i∈L,R i=true then (none,()) else (some false,()))
 | [],_=>by simp;rfl
 | i::L,h=>by
  obtain ⟨a,b,h1,h2,h3⟩:=h i List.mem_cons_self;rw [List.forIn_cons,yI,yI,h1];simp only [Option.bind_some];rw [yI,h2];simp only [Option.bind_some];rw [yI,h3];simp only [Option.bind_some];cases e1:R i with
  | true =>
   simp only [Bool.not_true,Bool.false_eq_true,if_false,zHH,Option.bind_some];rw [xNK L (fun j hj=>h j (List.mem_cons_of_mem _ hj))];by_cases e2:∀ j∈L,R j=true
   ·rw [if_pos e2,if_pos (fun j hj=>by rcases List.mem_cons.1 hj with rfl | hj;exact e1;exact e2 j hj)]
   ·rw [if_neg e2,if_neg (fun h=>e2 fun j hj=>h j (List.mem_cons_of_mem _ hj))]
  | false =>
   simp only [Bool.not_false,if_true,zHH,Option.bind_some];rw [if_neg (fun h=>by rw [h i List.mem_cons_self] at e1;cases e1)]
theorem xNL {e n sz:Nat} (hu:P.underlying t=some (.array n e)) (hs:zZ P (sizeOf e)=some sz) {xs ys:Array Value} {R:Nat->Bool} (h:∀ i,i<n->∃ a b,zZ P (part e xs (i*sz))=some a/\zZ P (part e ys (i*sz))=some b/\zZ P (Op.equalIn d e a b)=some (R i)) :
  zZ P (Op.equalIn (d+1) t (.agg xs) (.agg ys))=some ((List.range n).all R):=by
 have key:=xNK (P:=P) (e:=e) (sz:=sz) (d:=d) (xs:=xs) (ys:=ys) (R:=R) (List.range' 0 n) (fun i hi=>h i (by simpa using hi));unfold Op.equalIn;rw [yI,zFZ hu];simp only [Option.bind_some];rw [yI,hs];simp only [Option.bind_some];rw [yI,Std.Legacy.Range.forIn_eq_forIn_range'];simp only [Std.Legacy.Range.size,Nat.sub_zero,Nat.add_sub_cancel,Nat.div_one];rw [key];simp only [Option.bind_some];cases e:(List.range n).all R with
 | true=>rw [if_pos (fun i hi=>List.all_eq_true.1 e i (by simpa using hi))];rfl
 | false=>rw [if_neg (fun h=>by rw [List.all_eq_true.2 fun i hi=>h i (by simpa using hi)] at e;cases e)];rfl
theorem wAA {f1 f2:Field} (hu : P.underlying t = some (.struct #[f1, f2])) (hh : P.stoodInHeld t = false) (n1 : f1.name ≠ "_") (n2 : f2.name ≠ "_") {xs ys : Array Value} {a1 b1 a2 b2 : Value} {r1 r2 : Bool}
  (h1:zZ P (part f1.type xs f1.offset)=some a1) (h2:zZ P (part f1.type ys f1.offset)=some b1) (e1:zZ P (Op.equalIn d f1.type a1 b1)=some r1)
  (h3:zZ P (part f2.type xs f2.offset)=some a2) (h4:zZ P (part f2.type ys f2.offset)=some b2) (e2:zZ P (Op.equalIn d f2.type a2 b2)=some r2) :
  zZ P (Op.equalIn (d+1) t (.agg xs) (.agg ys))=some (r1 && r2):=by
 unfold Op.equalIn;rw [yI,zFZ hu];simp only [Option.bind_some];rw [yI,zXG];simp only [Option.bind_some,hh,Bool.false_eq_true,if_false];rw [yI,<- Array.forIn_toList];show (zZ P (forIn [f1,f2] _ _)).bind _=_;rw [List.forIn_cons,yI];simp only [if_pos n1];rw [yI,h1];simp only [Option.bind_some];rw [yI,h2];simp only [Option.bind_some];rw [yI,e1];simp only [Option.bind_some];cases r1 with
 | false=>rfl
 | true =>
  simp only [Bool.not_true,Bool.false_eq_true,if_false,zHH,Option.bind_some];rw [List.forIn_cons,yI];simp only [if_pos n2];rw [yI,h3];simp only [Option.bind_some];rw [yI,h4];simp only [Option.bind_some];rw [yI,e2];simp only [Option.bind_some];cases r2 <;> rfl
end
theorem wAB (d:Nat) (s t:Std):zZ Pg (Op.equalIn (d+2) 107 (zMY s) (zMY t))=some (decide (s=t)):=by
 have h:zZ Pg (Op.equalIn (d+2) 107 (.agg ⟨[s.free,s.row,s.used,s.day].map fun x=>iV x⟩) (.agg ⟨[t.free,t.row,t.used,t.day].map fun x=>iV x⟩))=some (decide ([s.free,s.row,s.used,s.day]=[t.free,t.row,t.used,t.day])):=wAC (n:=4) (by kernel_rfl) rfl rfl;have e:decide ([s.free,s.row,s.used,s.day]=[t.free,t.row,t.used,t.day])=decide (s=t):=by
  refine decide_eq_decide.2 ?_
  cases s;cases t
  simp
 rw [<- e];exact h
theorem yPD (f:Nat->Std) {i:Nat} (hi:i<6):zZ Pg (part 107 ⟨stL f⟩ (i*4))=some (zMY (f i)):=by
 match i,hi with
 | 0,_=>show _=_;kernel_rfl
 | 1,_=>show _=_;kernel_rfl
 | 2,_=>show _=_;kernel_rfl
 | 3,_=>show _=_;kernel_rfl
 | 4,_=>show _=_;kernel_rfl
 | 5,_=>show _=_;kernel_rfl
theorem xGG (d:Nat) (f g:Nat->Std):zZ Pg (Op.equalIn (d+3) 109 (.agg ⟨stL f⟩) (.agg ⟨stL g⟩))=some ((List.range 6).all fun i=>decide (f i=g i)) :=
 xNL (P:=Pg) (t:=109) (e:=107) (n:=6) (sz:=4) (d:=d+2) (by kernel_rfl) (by kernel_rfl) (xs:=⟨stL f⟩) (ys:=⟨stL g⟩) (R:=fun i=>decide (f i=g i)) (fun i hi=>⟨_,_,yPD f hi,yPD g hi,wAB d _ _⟩)
structure Key where
 day:Int
 l:List Std
 h:l.length=6
 deriving DecidableEq
def zHQ (k:Key) (i:Nat):Std:=k.l.getD i zWS
def yQJ (k:Key):Value:=.agg ⟨iV k.day::stL (zHQ k)⟩
def zKI (D:Int) (f:Nat->Std):Key:=⟨D,(List.range 6).map f,by simp⟩
theorem zCD {f:Nat->Std} (hi:i<6):zHQ (zKI D f) i=f i:=by
 unfold zHQ zKI;simp [hi]
theorem yLG (D:Int) (f:Nat->Std):yQJ (zKI D f)=.agg ⟨iV D::stL f⟩:=by
 unfold yQJ stL;rw [zCD (by omega),zCD (by omega),zCD (by omega),zCD (by omega),zCD (by omega),zCD (by omega)];rfl
theorem xPT {a b:Key}:a=b↔a.day=b.day/\∀ i,i<6->zHQ a i=zHQ b i:=by
 constructor
 ·rintro rfl;exact ⟨rfl,fun _ _=>rfl⟩
 ·rintro ⟨h1,h2⟩;obtain ⟨d,l,hl⟩:=a;obtain ⟨e,m,hm⟩:=b;have:l=m:=by
   apply List.ext_getElem (by omega);intro i g1 g2;have:=h2 i (by omega);simpa [zHQ,g1,g2] using this
  subst this;simp only at h1;subst h1;rfl
theorem xPU {E:Int} {f g:Nat->Std}:zKI D f=zKI E g↔D=E/\∀ i,i<6->f i=g i:=by
 rw [xPT];refine and_congr_right fun _=>⟨fun h i hi=>?_,fun h i hi=>?_⟩
 ·have:=h i hi;rwa [zCD hi,zCD hi] at this
 ·rw [zCD hi,zCD hi];exact h i hi
theorem xNI (a b:Key):zZ Pg (Op.equal 133 (yQJ a) (yQJ b))=some (decide (a=b)):=by
 have e:decide (a=b)=((a.day == b.day) && (List.range 6).all fun i=>decide (zHQ a i=zHQ b i)):=by
  rw [Bool.eq_iff_iff,decide_eq_true_eq,Bool.and_eq_true,beq_iff_eq,zBL,xPT];exact and_congr_right fun _=>⟨fun h i hi=>decide_eq_true (h i hi),fun h i hi=>of_decide_eq_true (h i hi)⟩
 rw [e];have hu : ∃ f1 f2 : Field, Pg.underlying 133 = some (.struct #[f1, f2]) ∧ f1.type = 3 ∧ f1.offset = 0 ∧ f1.name ≠ "_" ∧ f2.type = 109 ∧ f2.offset = 1 ∧ f2.name ≠ "_" := ⟨_, _, Tryz.underlying133, rfl, rfl, by decide, rfl, rfl, by decide⟩
 obtain ⟨f1,f2,hu,t1,o1,n1,t2,o2,n2⟩:=hu;refine wAA (P:=Pg) (t:=133) (d:=9999) hu (by kernel_rfl) n1 n2 (xs:=⟨iV a.day::stL (zHQ a)⟩) (ys:=⟨iV b.day::stL (zHQ b)⟩)
  (a1:=iV a.day) (b1:=iV b.day) (a2:=.agg ⟨stL (zHQ a)⟩) (b2:=.agg ⟨stL (zHQ b)⟩) (r1:=a.day == b.day) (r2:=(List.range 6).all fun i=>decide (zHQ a i=zHQ b i)) ?_ ?_ ?_ ?_ ?_ ?_
 ·rw [t1,o1];kernel_rfl
 ·rw [t1,o1];kernel_rfl
 ·rw [t1];exact uS (d:=9998) (k:=.i64) (by kernel_rfl) _ _ _
 ·rw [t2,o2];kernel_rfl
 ·rw [t2,o2];kernel_rfl
 ·rw [t2];exact xGG 9996 _ _
theorem yDZ:∀ (n:Nat) (xs:List Int),Instr.sameBits (n+2) (.agg ⟨xs.map yA⟩) (.agg ⟨xs.map yA⟩)=true:=by
 intro n xs;simp [Instr.sameBits];intro x y hxy;have key:∀ (m:List Int),(x,y)∈(m.map yA).zip (m.map yA)->∃ c,x=yA c/\y=yA c:=by
  intro m;induction m with
  | nil=>intro h;cases h
  | cons c m ih =>
   intro h;simp only [List.map_cons,List.zip_cons_cons,List.mem_cons,Prod.mk.injEq] at h;rcases h with h | h
   ·exact ⟨c,h.1,h.2⟩
   ·exact ih h
 obtain ⟨c,rfl,rfl⟩:=key xs hxy;simp [Instr.sameBits]
def wDW (k:Key):List Int:=k.day::(List.range 6).flatMap fun i=>[(zHQ k i).free,(zHQ k i).row,(zHQ k i).used,(zHQ k i).day]
theorem zEC:KeyT Pg 133 yQJ:=by
 refine ⟨xNI,fun e a=>?_,fun a=>?_⟩
 ·have h:∀ (e:Bool) (D:Int) (f:Nat->Std),zIP Pg e 133 (.agg ⟨iV D::stL f⟩)=true:=fun e D f=>by kernel_rfl
  exact h e a.day (zHQ a)
 ·have:yQJ a=.agg ⟨(wDW a).map yA⟩:=rfl;rw [this];exact yDZ 9998 _
theorem xPG:zDY Pg 126=some (133,130):=by kernel_rfl
def six (v:List Int):List Value:=wQ 6 fun i=>v.getD i 0
theorem zAG (v:List Int):six v=zK (v.getD 0 0) (v.getD 1 0) (v.getD 2 0) (v.getD 3 0) (v.getD 4 0) (v.getD 5 0):=rfl
section
variable {Z:St}
theorem xUQ (hi:i<6):zAI Pg 98 (.agg ⟨wQ 6 f⟩) (iV (i:Int))=some (iV (f i)):=by
 match i,hi with
 | 0,_=>show _=_;kernel_rfl
 | 1,_=>show _=_;kernel_rfl
 | 2,_=>show _=_;kernel_rfl
 | 3,_=>show _=_;kernel_rfl
 | 4,_=>show _=_;kernel_rfl
 | 5,_=>show _=_;kernel_rfl
theorem xZN (o:Own Z b (wQ 6 f) 1) (hi:i<6):zB Pg Z 3 ⟨b,0+Int.toNat (i:Int)*1,none⟩=some (iV (f i)):=by
 have:=o.ldI (P:=Pg) (t:=3) (i:=i) zU (zYK hi);simpa [zJ] using this
theorem xLP (o:Own Z b (wQ 6 f) 1) (hi:i<6):zQ Pg (evL [.pointer (some ⟨b,0+Int.toNat (i:Int)*1,none⟩),iV x]) Z (.store 3 (.tmp 0) (.tmp 1))=some (undef,Z.own b (wQ 6 fun s=>if s=i then x else f s) 1):=by
 have:=o.stI (P:=Pg) (t:=3) (v:=iV x) (i:=i) rfl vE rfl (by rw [zAV];exact hi);rw [xLQ hi] at this;simpa [zJ] using this
theorem zHA (o:Own Z b (wQ 6 f) 1):zB Pg Z 98 ⟨b,0,none⟩=some (.agg ⟨wQ 6 f⟩):=o.ldN (k:=0) zCX wA (ds:=wQ 6 f) rfl rfl (by rw [zAV];decide)
theorem xBX {g:Nat->Int} (o:Own Z b (wQ 6 f) 1):zQ Pg (evL [.pointer (some ⟨b,0,none⟩),.agg ⟨wQ 6 g⟩]) Z (.store 98 (.tmp 0) (.tmp 1))=some (undef,Z.own b (wQ 6 g) 1) :=
 o.store (k:=0) (vs:=wQ 6 g) rfl wA (by simp [wQ];intro x _;rfl) (by rw [zAV,zAV];decide) (by simp [zAV,List.drop_eq_nil_of_le])
theorem xGJ {b:List Int} (ha:a.length=6) (hb:b.length=6) (hi:i<6):(vF a b).getD i 0=a.getD i 0+b.getD i 0:=by
 unfold vF;rw [List.getD_eq_getElem?_getD,List.getD_eq_getElem?_getD,List.getD_eq_getElem?_getD,List.getElem?_zipWith,List.getElem?_eq_getElem (by omega:i<a.length),List.getElem?_eq_getElem (by omega:i<b.length)];rfl
def Bd (n:Int) (v:List Int):Prop:=∀ x∈v,0<=x/\x<=n
theorem Bd.get {n:Int} (h:Bd n v) (hn:0<=n) (i:Nat):0<=v.getD i 0/\v.getD i 0<=n:=by
 rw [List.getD_eq_getElem?_getD];cases hx:v[i]? with
 | none=>exact ⟨Int.le_refl _,hn⟩
 | some x=>exact h x (List.mem_of_getElem? hx)
theorem wAD {b:List Int} (ha:a.length=6) (hb:b.length=6) (h1:Bd 1000000 a) (h2:Bd 1000000 b):zD Pg 102 [.agg ⟨six a⟩,.agg ⟨six b⟩] Z (.agg ⟨six (vF a b)⟩) Z:=by
 obtain ⟨τ0,hτ0⟩:∃ τ0,τ0=((Z.re.row (six a) 1).row (six b) 1).row (zK 0 0 0 0 0 0) 1:=⟨_,rfl⟩;have N0:New Z.re τ0:=by rw [hτ0];exact ((New.row _ _ _).row').row'
 have o1:Own τ0 Z.y (six a) 1:=by rw [hτ0];exact (zC Z.re (six a) 1).row.row
 have o2:Own τ0 (Z.y+1) (six b) 1:=by rw [hτ0];exact (zC (Z.re.row (six a) 1) (six b) 1).row
 have o3:Own τ0 (Z.y+2) (wQ 6 fun _=>0) 1:=by rw [hτ0];exact zC ((Z.re.row (six a) 1).row (six b) 1) (zK 0 0 0 0 0 0) 1
 have l1:=zHA o2;rw [hτ0] at l1;refine (xQZ l1 (yRC (Inv:=fun k i τ=>New Z.re τ/\∃ j:Nat,i=j/\j+k=6/\Own τ Z.y (wQ 6 fun s=>if s<j then a.getD s 0+b.getD s 0 else a.getD s 0) 1/\Own τ (Z.y+2) (wQ 6 fun _=>0) 1)
  (Q0:=fun τ=>New Z.re τ/\Own τ Z.y (six (vF a b)) 1/\Own τ (Z.y+2) (wQ 6 fun _=>0) 1) ?_ 6 0 _ ⟨by rw [<- hτ0];exact N0,0,rfl,rfl,by rw [<- hτ0];exact o1,by rw [<- hτ0];exact o3⟩) ?_).pure
 ·rintro k i τ ⟨hN,j,rfl,hk,w1,w2⟩;by_cases hj:j<6
  ·have hid:=xUQ (f:=fun i=>b.getD i 0) hj;have hl:=xZN w1 hj;rw [if_neg (by omega)] at hl;have b1:=h1.get (by decide) j;have b2:=h2.get (by decide) j;have st:=xLP (x:=a.getD j 0+b.getD j 0) w1 hj;have hlt:=w2.lt;refine xIM hid hl st ⟨k-1,by omega,hN.own (by show Z.y<=Z.y;omega),j+1,by omega,by omega, ?_,w2.own (by omega)⟩ (by omega) (by omega) (by omega) (by omega);have e:(wQ 6 fun s=>if s=j then a.getD j 0+b.getD j 0 else if s<j then a.getD s 0+b.getD s 0 else a.getD s 0)=wQ 6 fun s=>if s<j+1 then a.getD s 0+b.getD s 0 else a.getD s 0:=by
    refine zDL fun s hs=>?_
    by_cases e1:s=j
    ·subst e1;rw [if_pos rfl,if_pos (by omega)]
    ·rw [if_neg e1];by_cases e2:s<j
     ·rw [if_pos e2,if_pos (by omega)]
     ·rw [if_neg e2,if_neg (by omega)]
   rw [<- e];exact w1.put
  ·have:j=6:=by omega
   subst this;refine xIL ⟨hN, ?_,w2⟩ (by omega);have e:(wQ 6 fun s=>if s<6 then a.getD s 0+b.getD s 0 else a.getD s 0)=six (vF a b):=by
    refine zDL fun s hs=>?_
    rw [if_pos hs,xGJ ha hb hs]
   rw [<- e];exact w1
 ·rintro τ ⟨hN,w1,w2⟩;exact yRB (zHA w1) (xBX w2) (zHA w2.put) ⟨rfl,(hN.own (b:=Z.y+2) (n:=1) (cs:=six (vF a b)) (by show Z.y<=Z.y+2;omega)).lw⟩
theorem yGS:zD Pg 132 [iV x] Z (.bool false) Z:=(xPV ⟨rfl,Nat.le_refl _⟩ rfl).pure
theorem wBH:zD Pg 129 [iV x,iV y] Z (iV (if x<y then -1 else if y<x then 1 else 0)) Z:=by
 by_cases h1:x<y
 ·rw [if_pos h1];exact (xXK yGS yGS ⟨rfl,Nat.le_refl _⟩ h1).pure
 ·rw [if_neg h1];by_cases h2:y<x
  ·rw [if_pos h2];exact (xXJ yGS yGS ⟨rfl,Nat.le_refl _⟩ h1 h2).pure
  ·rw [if_neg h2];exact (xXI yGS yGS ⟨rfl,Nat.le_refl _⟩ h1 h2).pure
def zRL:List Int->List Int->Int
 | a::l,b::m=>if a<b then -1 else if b<a then 1 else zRL l m
 | _,_=>0
theorem zTT:∀ {a b:List Int},(0<zRL a b↔wV a b=true)
 | [],b=>by simp [zRL,wV]
 | a::l,[]=>by simp [zRL,wV]
 | a::l,b::m=>by
  unfold zRL wV;by_cases h1:a<b
  ·rw [if_pos h1,if_neg (by omega),decide_eq_false (by omega)];simp
  ·rw [if_neg h1];by_cases h2:b<a
   ·rw [if_pos h2,if_neg (by omega),decide_eq_true h2];simp
   ·rw [if_neg h2,if_pos (by omega)];exact zTT
theorem xJJ {b:List Int} {j:Nat} (hx:a[j]?=some x) (hy:b[j]?=some y):zRL (a.drop j) (b.drop j)=if x<y then -1 else if y<x then 1 else zRL (a.drop (j+1)) (b.drop (j+1)):=by
 obtain ⟨h1,rfl⟩:=List.getElem?_eq_some_iff.1 hx;obtain ⟨h2,rfl⟩:=List.getElem?_eq_some_iff.1 hy;rw [List.drop_eq_getElem_cons h1,List.drop_eq_getElem_cons h2,zRL]
theorem xJG {p q:Option Addr} {l:Nat} {b:List Int} (h1:yC Z p l a) (h2:yC Z q l b) (hl:l<=1000):zD Pg 119 [.slice p l c,.slice q l d] Z (iV (zRL a b)) Z:=by
 have e1:=h1.len;have e2:=h2.len;have h1:=h1.re;have h2:=h2.re;refine (yZU (yEN (Inv:=fun k i τ=>τ=Z.re/\∃ j:Nat,i=j/\j+k=l/\zRL a b=zRL (a.drop j) (b.drop j)) (Qr:=fun x τ=>τ=Z.re/\x=zRL a b) (Q0:=fun τ=>τ=Z.re/\zRL a b=0) ?_ l 0 Z.re ⟨rfl,0,rfl,by omega,rfl⟩) ?_ ?_).pure
 ·rintro k i τ ⟨rfl,j,rfl,hk,he⟩;by_cases hj:j<l
  ·obtain ⟨a1,rfl,x,hx,l1⟩:=xZ h1 hj;obtain ⟨a2,rfl,y,hy,l2⟩:=xZ h2 hj;have hd:=xJJ hx hy;have cc:=wBH (Z:=Z.re) (x:=x) (y:=y);by_cases g1:x<y
   ·rw [if_pos g1] at cc hd;exact zWD l1 l2 cc ⟨rfl,by rw [he,hd]⟩ (by omega) (by omega) (by omega) (by omega) (by omega)
   ·rw [if_neg g1] at cc hd;by_cases g2:y<x
    ·rw [if_pos g2] at cc hd;exact zWD l1 l2 cc ⟨rfl,by rw [he,hd]⟩ (by omega) (by omega) (by omega) (by omega) (by omega)
    ·rw [if_neg g2] at cc hd;exact ySD l1 l2 cc ⟨k-1,by omega,rfl,j+1,by omega,by omega,by rw [he,hd]⟩ (by omega) (by omega) (by omega) (by omega) (by omega) (by omega)
  ·refine ySC ⟨rfl, ?_⟩ (by omega);rw [he,List.drop_eq_nil_of_le (by omega)];rfl
 ·rintro x τ ⟨rfl,rfl⟩;exact yEL ⟨rfl,Nat.le_refl _⟩
 ·rintro τ ⟨rfl,e⟩;exact yEM ⟨by rw [e],Nat.le_refl _⟩ (by omega)
theorem wCL {b:List Int} (ha:a.length=6) (hb:b.length=6) {o1 o2:Operand}:vO Pg .neq 98 o1 o2 (.agg ⟨six a⟩) (.agg ⟨six b⟩)=some (.bool (!decide (a=b))):=by
 have e:∀ (f g:Nat->Int),vO Pg .neq 98 o1 o2 (.agg ⟨wQ 6 f⟩) (.agg ⟨wQ 6 g⟩)=(zZ Pg (do eqGuard .neq 98 o1 o2 (.agg ⟨wQ 6 f⟩) (.agg ⟨wQ 6 g⟩);binOp .neq 98 (.agg ⟨wQ 6 f⟩) (.agg ⟨wQ 6 g⟩))).filter (zW RD):=fun _ _=>by kernel_rfl
 have e1:∀ (f g:Nat->Int),zZ Pg (eqGuard .neq 98 o1 o2 (.agg ⟨wQ 6 f⟩) (.agg ⟨wQ 6 g⟩))=some ():=fun _ _=>by kernel_rfl
 have e2:∀ x y:List Value,binOp .neq 98 (.agg ⟨x⟩) (.agg ⟨y⟩)=(do let r <- Op.equal 98 (.agg ⟨x⟩) (.agg ⟨y⟩);pure (.bool (!r))):=fun _ _=>rfl
 have hp:∀ (f:Nat->Int) {i:Nat},i<6->zZ Pg (part 3 ⟨wQ 6 f⟩ (i*1))=some (iV (f i)):=by
  intro f i hi;match i,hi with
  | 0,_=>show _=_;kernel_rfl
  | 1,_=>show _=_;kernel_rfl
  | 2,_=>show _=_;kernel_rfl
  | 3,_=>show _=_;kernel_rfl
  | 4,_=>show _=_;kernel_rfl
  | 5,_=>show _=_;kernel_rfl
 have h:=xNL (P:=Pg) (t:=98) (e:=3) (n:=6) (sz:=1) (d:=9999) (by kernel_rfl) (by kernel_rfl) (xs:=⟨six a⟩) (ys:=⟨six b⟩) (R:=fun i=>a.getD i 0 == b.getD i 0) (fun i hi=>⟨_,_,hp _ hi,hp _ hi,uS (d:=9998) (k:=.i64) (by kernel_rfl) _ _ _⟩);have e3:((List.range 6).all fun i=>a.getD i 0 == b.getD i 0)=decide (a=b):=by
  rw [Bool.eq_iff_iff,decide_eq_true_eq,zBL];refine ⟨fun h=>?_,fun h i hi=>by rw [h];simp⟩
  apply List.ext_getElem (by omega);intro i g1 g2;have:=h i (by omega);rw [beq_iff_eq,List.getD_eq_getElem?_getD,List.getD_eq_getElem?_getD,List.getElem?_eq_getElem g1,List.getElem?_eq_getElem g2] at this;exact this
 rw [e3] at h;have h:zZ Pg (Op.equal 98 (.agg ⟨six a⟩) (.agg ⟨six b⟩))=some (decide (a=b)):=h;unfold six at h ⊢;rw [e,yI,e1];simp only [Option.bind_some];rw [e2,yI,h];rfl
theorem xMD (o:Own Z b (six v) 1):vS Pg Z 98 (.pointer (some ⟨b,0,none⟩)) none none none=some (.slice (some ⟨b,0,none⟩) 6 6):=by
 have hu:Pg.underlying 98=some (.array 6 3):=by kernel_rfl
 have ha:zWL Z ⟨b,0,none⟩ (6*1) 1=true:=by unfold zWL;simp only [o.get];rfl
 unfold vS;simp only [hu,vE,ha,cond_true];rfl
theorem yNR (hv:v.length=6) (o:Own Z b (six v) 1):yC Z (some ⟨b,0,none⟩) 6 v:=by
 have e:six v=v.map yA:=by
  apply List.ext_getElem (by rw [six,zAV,List.length_map,hv]);intro i g1 g2;have g3:i<v.length:=by simpa using g2
  simp [six,wQ,g3]
 refine ⟨?_,by simpa using hv,fun x hx=>?_⟩
 ·rw [zAQ v .i64,<- e];exact ⟨rfl,o.rw⟩
 ·obtain ⟨x,_,rfl⟩:=List.mem_map.1 hx;exact vY x
theorem zST {b:List Int} (ha:a.length=6) (hb:b.length=6):zD Pg 103 [.agg ⟨six a⟩,.agg ⟨six b⟩] Z (.bool (wV a b)) Z:=by
 obtain ⟨τ0,hτ0⟩:∃ τ0,τ0=(Z.re.row (six a) 1).row (six b) 1:=⟨_,rfl⟩;have o1:Own τ0 Z.y (six a) 1:=by rw [hτ0];exact (zC Z.re (six a) 1).row
 have o2:Own τ0 (Z.y+1) (six b) 1:=by rw [hτ0];exact zC (Z.re.row (six a) 1) (six b) 1
 have hne:=wCL ha hb (o1:=.tmp 5) (o2:=.tmp 6);have l1:=zHA o1;have l2:=zHA o2;have hlow:Z.y<=τ0.low:=by rw [hτ0];exact Nat.le_refl _
 have s1:=xMD o1;have s2:=xMD o2;have cc:=xJG (c:=6) (d:=6) (yNR ha o1) (yNR hb o2) (by omega);rw [hτ0] at l1 l2 hlow s1 s2 cc;by_cases e:a=b
 ·rw [decide_eq_true e] at hne;have:wV a b=false:=by rw [e];exact zHL b
  rw [this];exact (xRA l1 l2 hne ⟨rfl,hlow⟩).pure
 ·rw [decide_eq_false e] at hne;by_cases h:0<zRL a b
  ·rw [zTT.1 h];exact (xRC ⟨l1,l2,hne,s1,s2,cc⟩ ⟨rfl,hlow⟩ h).pure
  ·have:wV a b=false:=by rw [<- Bool.not_eq_true];exact fun k=>h (zTT.2 k)
   rw [this];exact (xRB ⟨l1,l2,hne,s1,s2,cc⟩ ⟨rfl,hlow⟩ h).pure
theorem xDF {a b:Int} {Z:St}:xM Pg (evL [iV a,iV b]) Z (.call { callee:=.builtin .max,args:=⟨wS 2⟩,argTypes:=⟨[3,3]⟩ })=some (iV (max a b)):=by
 have e:zZ Pg (Builtin.max_ ⟨[3,3]⟩ 0 ⟨[iV a,iV b]⟩)=some (iV (max a b)):=by
  rw [show max a b=if a<b then b else a by split <;> omega];simp only [Builtin.max_,List.foldlM,Builtin.max2];rfl
 have e2:xM Pg (evL [iV a,iV b]) Z (.call { callee:=.builtin .max,args:=⟨wS 2⟩,argTypes:=⟨[3,3]⟩ }) =
   match ((zZ Pg (Builtin.max_ ⟨[3,3]⟩ 0 ⟨[iV a,iV b]⟩)).filter (zW RD)) with | some v=>some v | none=>xO Pg (evL [iV a,iV b]) Z (.call { callee:=.builtin .max,args:=⟨wS 2⟩,argTypes:=⟨[3,3]⟩ }):=rfl
 rw [e2,e];rfl
theorem xPR (h:Row Z ⟨b,0,none⟩ [iV x,iV y]):zD Pg 118 [.slice (some ⟨b,0,none⟩) 2 c] Z (iV (max x y)) Z:=by
 have key:∀ w:St,Row w ⟨b,0,none⟩ [iV x,iV y]->zD Pg 128 [.slice (some ⟨b,0,none⟩) 2 c] w (iV (max x y)) w:=fun w hw=>by
  refine zO.pure ?_
  have h0:=hw.le (le0 w);have l0:zB Pg w.re 3 ⟨b,0,none⟩=some (iV x):=by simpa [zJ] using h0.load1 (t:=3) zU (k:=0) rfl
  have l1:zB Pg w.re 3 (zJ ⟨b,0,none⟩ (Int.toNat ((1:Nat):Int)*1))=some (iV y):=h0.load1 (t:=3) zU (k:=1) rfl;refine xUL (P0:=fun n τ=>τ=w.re/\n=max x y) l0 (yUT (Inv:=fun k n i τ=>∃ s:Nat,i=s/\s+k=2/\τ=w.re/\((s=1/\n=x)\/(s=2/\n=max x y))) ?_ 1 x 1 w.re ⟨1,rfl,rfl,rfl,.inl ⟨rfl,rfl⟩⟩) (fun n τ h=>yUS ⟨by rw [h.2],by rw [h.1];exact Nat.le_refl _⟩) (by omega) (by omega);rintro k n i τ ⟨s,rfl,hk,rfl,⟨rfl,rfl⟩ | ⟨rfl,rfl⟩⟩
  ·exact xMB l1 xDF ⟨k-1,by omega,2,rfl,by omega,rfl,.inr ⟨rfl,rfl⟩⟩ (by omega) (by omega) (by omega)
  ·exact xMA ⟨rfl,rfl⟩ (by omega)
 refine zO.pure ?_
 exact xHX (key _ (h.le (le0 Z))) ⟨rfl,Nat.le_refl _⟩
end
end
section
noncomputable section
variable (lo l BA BB BC BD BE lL:Nat) (v1:Addr) (ak y dm:Int) (fp fj:List Nat) (q1:oAa) (q0:Int->(List Nat)->St->Prop) (q2:(List Nat)->St->Prop) (BG l1 c1:Nat) (fD:FuncId) (dR nO bZ:Int) (fT:lVa) (qK:oAa) (g:Nat->Value) (ms:List Nat) (lN cM:Nat) (st:LoopState) (q4:Int->St->Prop) (Q:St->Prop) (d8:Int) (pend:Option Code) (Z:St) (db:Nat) (Nx:Int->St->Prop) (q3:Int->(List Nat)->St->Prop) (q5:vPa) (Qn Qr Q6 Q4 q6:St->Prop) (Q0:(List Nat)->St->Prop)
def zTV:Code:=(Code.part [1,1,0,1,0,0] (qh 54))
def zGQ (BA BB BC BD BE:Nat) (ak dm:Int) (fj:List Nat):lNa:=[(3,pt BA 0),(4,pt BB 0),(5,pt BC 0),(6,pt BD 0),(7,pt BE 0),(18,iV ak),(19,iV dm)]
def yCN:Alt:=⟨Int × (List Nat),.normal,fun t=>zGQ BA BB BC BD BE ak t.1 t.2,fun t=>t.2,fun t Z=>q0 t.1 t.2 Z⟩
def zWG (BA BB BC BD BE:Nat) (ak:Int) (fj:List Nat):lNa:=[(3,pt BA 0),(6,pt BD 0),(7,pt BE 0)]
def zEW:Alt:=⟨(List Nat),(.exit 0),fun t=>zWG BA BB BC BD BE ak t,fun t=>t,fun t Z=>q2 t Z⟩
def zTZ:Prop:=qi qj none zTV 92 (zGQ BA BB BC BD BE ak dm fj) fj [yCN BA BB BC BD BE ak q3,zEW BA BB BC BD BE ak Q0] Z
def zTY:Prop:=qk qj none zTV 92 (zGQ BA BB BC BD BE ak dm fj) fj [zEW BA BB BC BD BE ak Q0] Z
def zBC:Code:=(Code.part [1,1,0,1,0,0,1,1,0,0,1,1,0,0] (qh 54))
def uT:Code:=(Code.part [1,1,0,1,0,0,1,1,0,0,1,1,0,1] (qh 54))
def zAT:lNa:=[(3,pt BA 0),(4,pt BB 0),(5,pt BC 0),(6,pt BD 0),(7,pt BE 0),(18,iV ak),(19,iV dm),(24,.func (.func fD) ⟨[]⟩ ⟨fT⟩)]
def zBW:Blk:=.loop (Fm 92 (ov (zAT BA BB BC BD BE ak dm fD fT) g)) [25,26] zBC uT st pend db
def yIO:Prop:=zUH Pg qj (.tmp 24) ⟨[25,26]⟩ zBC uT 92 (zAT BA BB BC BD BE ak dm fD fT) [(.normal,Qn)] Z
def yIN:Code:=(Code.part [1,1,0,1,0,0,1,1,0,0,1,1,0,1,0,1,1,0,1,0,0] (qh 54))
def zGP (lo BA BC BD BE:Nat) (y:Int) (BG:Nat) (nO:Int) (qK:oAa) (lN cM:Nat) (d8:Int):lNa:=[(3,pt BA 0),(5,pt BC 0),(6,pt BD 0),(7,pt BE 0),(9,iV y),(10,pt BG 0),(11,iV nO),(33,.slice qK lN cM),(34,iV (lN:Int)),(35,iV d8)]
def xAR:Alt:=⟨Int,.normal,fun t=>zGP lo BA BC BD BE y BG nO qK lN cM t,fun t=>[],fun t Z=>q4 t Z⟩
def zWF (lo BA BC BD BE:Nat) (y:Int) (BG:Nat) (nO:Int) (qK:oAa) (lN cM:Nat):lNa:=[(5,pt BC 0),(7,pt BE 0),(9,iV y),(10,pt BG 0),(11,iV nO)]
def zKZ:Alt:=⟨Unit,(.exit 4),fun t=>zWF lo BA BC BD BE y BG nO qK lN cM,fun t=>[],fun t Z=>Q Z⟩
def zMS:Prop:=qi qj (some lo) yIN 92 (zGP lo BA BC BD BE y BG nO qK lN cM d8) [] [xAR lo BA BC BD BE y BG nO qK lN cM Nx,zKZ lo BA BC BD BE y BG nO qK lN cM Q4] Z
def zTX:Prop:=qk qj (some lo) yIN 92 (zGP lo BA BC BD BE y BG nO qK lN cM d8) [] [zKZ lo BA BC BD BE y BG nO qK lN cM Q4] Z
def zLB (lo BA BC BD BE:Nat) (y:Int) (BG:Nat) (nO:Int) (qK:oAa) (lN cM:Nat) (Z:St) (Qn:St->Prop):Prop:=∀ g:Nat->Value,∃ an,Hid (kAt Pg qj (some lo) uT [0,1,1,0,1,0] (yTO [⟨Unit,.normal,fun _=>[],fun _=>[],fun _ Z=>Qn Z⟩]) (.exit 4) ⟨Fm 92 (ov (zWF lo BA BC BD BE y BG nO qK lN cM) g),[]⟩ Z an)
def zWH:Prop:=∀ g:Nat->Value,∃ an,Hid (kAt Pg qj none zTV [1,1,0,0,1,1,0] (zFP 92 [yCN BA BB BC BD BE ak q3,zEW BA BB BC BD BE ak Q0]) .normal ⟨Fm 92 (ov (zAT BA BB BC BD BE ak dm fD fT) g),ms⟩ Z an)
def zWI:Prop:=∀ g:Nat->Value,∃ an,Hid (kAt Pg qj none (qh 54) [1,1,0,1,0] (ql 54 q5) (.exit 0) ⟨Fm 92 (ov (zWG BA BB BC BD BE ak fj) g),fj⟩ Z an)
def yIM:Code:=(Code.part [1,1,1,0,1,0,0] (qh 54))
def zGO (BA BD BE lL:Nat) (fp:List Nat) (dR:Int):lNa:=[(3,pt BA 0),(6,pt BD 0),(7,pt BE 0),(72,iV (lL:Int)),(73,iV dR)]
def xAQ:Alt:=⟨Int,.normal,fun t=>zGO BA BD BE lL fp t,fun t=>fp,fun t Z=>q4 t Z⟩
def zWE (BA BD BE lL:Nat) (fp:List Nat):lNa:=[(6,pt BD 0)]
def zKY:Alt:=⟨Unit,(.exit 6),fun t=>zWE BA BD BE lL fp,fun t=>fp,fun t Z=>Q Z⟩
def zMR:Prop:=qi qj none yIM 92 (zGO BA BD BE lL fp dR) fp [xAQ BA BD BE lL fp Nx,zKY BA BD BE lL fp Q6] Z
def zTW:Prop:=qk qj none yIM 92 (zGO BA BD BE lL fp dR) fp [zKY BA BD BE lL fp Q6] Z
def zLA:Prop:=∀ g:Nat->Value,∃ an,Hid (kAt Pg qj none (qh 54) [1,1,1,0,1,0] (ql 54 q5) (.exit 6) ⟨Fm 92 (ov (zWE BA BD BE lL fp) g),fp⟩ Z an)
def xOV:Code:=(Code.part [1,0,0] (qh 91))
def yAK:lNa:=[(0,.func (.yield l) ⟨[]⟩ ⟨[]⟩),(2,pz v1),(7,.slice q1 l1 c1),(8,iV (l1:Int)),(9,iV bZ)]
def xVZ:Alt:=⟨Int,.normal,fun t=>yAK l v1 q1 l1 c1 t,fun t=>[],fun t Z=>q4 t Z⟩
def yQA (l:Nat) (v1:Addr) (q1:oAa) (l1 c1:Nat):lNa:=[]
def yAL:Alt:=⟨Unit,.ret,fun t=>yQA l v1 q1 l1 c1,fun t=>[],fun t Z=>Q Z⟩
def yQB (l:Nat) (v1:Addr) (q1:oAa) (l1 c1:Nat):lNa:=[]
def yAM:Alt:=⟨Unit,(.exit 0),fun t=>yQB l v1 q1 l1 c1,fun t=>[],fun t Z=>Q Z⟩
def yKV:Prop:=qi qj none xOV 26 (yAK l v1 q1 l1 c1 bZ) [] [xVZ l v1 q1 l1 c1 Nx,yAL l v1 q1 l1 c1 Qr,yAM l v1 q1 l1 c1 q6] Z
def xOW:Prop:=qk qj none xOV 26 (yAK l v1 q1 l1 c1 bZ) [] [yAL l v1 q1 l1 c1 Qr,yAM l v1 q1 l1 c1 q6] Z
def xOX:Prop:=kZ qj (qh 91) [1,0] (ql 91 q5) .ret 26 (yQA l v1 q1 l1 c1) Z
def yQC:Prop:=kZ qj (qh 91) [1,0] (ql 91 q5) (.exit 0) 26 (yQB l v1 q1 l1 c1) Z
end
variable {BA BB BC BD BE lo lKB cMB db BG lN cM lLB cGB lMB cHB lAC cWB lBC cXB lCC cBD lG cF lH cG ac ad aa ab aG aM ft fu lL lDC cYB lEC cZB cAB lFC cAC lGC cBC lSB cNB l l1 c1:Nat} {ak dm y aB aP ax ay aD nO d8 nV nGB nHB nKB nBU nBV nBW nBX nBY nBZ nBa nBb nBc nBd nBw nBx nBy nBz nB0 nB1 nB2 nB3 nB4 nB5 nB6 nB7 nB8 nB9 nG nB nD nE am au aj dR nCB nIB bZ nF nA:Int} {Inv:Nat->Int->St->Prop} {Q0 P0:(List Nat)->St->Prop} {fD fC:FuncId} {fT fg cs1:lVa} {qEB_a qK_a qWB_a v1 f8 v0:Addr} {g:Nat->Value} {τ Z ZBI ZBJ ZBK ZBL ZN Z2 ZBM ZBN ZUB ZBO gi:St} {Qn Q4 P4 Pn Q6 P6 Qr Pr:St->Prop} {qK qFB qGB qUB qVB qE qG af ae roster gA qXB qYB qY qZB qAC qLB q1:oAa} {Nx:Int->St->Prop} {fj ms fp:List Nat} {Q:vPa}
theorem yMH {Inv:Nat->Int->(List Nat)->St->Prop} (hb:∀ k dm fj Z,Inv k dm fj Z->zTZ BA BB BC BD BE ak dm fj Z (NX2 Inv k) Q0):∀ k dm fj Z,Inv k dm fj Z->zTY BA BB BC BD BE ak dm fj Z Q0 :=
 zCR (ai (xV 0) trivial) hb
theorem xAH:let y0:=(τ.re.row (zG 0 0 0 0 0) 5).own (τ.re.y) (zG aB aP ax ay aD) 5;let y1:=zBW BA BB BC BD BE ak dm fD fT g .ready none db;∀ (hl:yJ τ.heap lo=some y1) (hl1:yJ y0.heap lo=some y1) (hZ:Z=y0.put lo (zBW BA BB BC BD BE ak dm fD fT g .busy none db)) (h1:lz Z 26 (qe BB 0) (.slice (some qEB_a) lKB cMB)) (h2:lz Z 3 (zJ qEB_a (Int.toNat y*1)) (iV nO)) (nx:Qn Z) (u1:Ix y lKB:=by omega) (u2:nO=(-1):=by omega),zFO Pg lo [iV y,qf (zG aB aP ax ay aD)] τ (Fm 92 (ov (zAT BA BB BC BD BE ak dm fD fT) g)) [25,26] zBC uT db [⟨Unit,.normal,fun _=>[],fun _=>[],fun _ Z=>Qn Z⟩] :=
 let y0:=(τ.re.row (zG 0 0 0 0 0) 5).own (τ.re.y) (zG aB aP ax ay aD) 5;fun hl hl1 hZ h1 h2 nx u1 u2=>yFF hl rfl hl1 hZ [.g,.g,.e undef y0,.l (.slice (some qEB_a) lKB cMB),.g,.i,.l (iV nO),.g,.g,.b true,.fin ⟨Unit,.normal,fun _=>[],fun _=>[],fun _ Z=>Qn Z⟩ ()] (kc (by kernel_rfl) (ai ((zC _ _ _).store (vs:=(zG aB aP ax ay aD)) rfl uD rfl (nle rfl) rfl:qo (evL [pt τ.re.y 0,qf (zG aB aP ax ay aD)]) (τ.re.row (zG 0 0 0 0 0) 5) (.store 85 (.tmp 0) (.tmp 1))=some (undef,y0)) (ai (ai (rfl:Exit.normal=Exit.normal) (rfl:y0=y0)) (ai h1 (ai u1 (ai h2 (ai (xK u2) (wBB (alts:=[⟨Unit,.normal,fun _=>[],fun _=>[],fun _ Z=>Qn Z⟩]) ⟨Unit,.normal,fun _=>[],fun _=>[],fun _ Z=>Qn Z⟩ () nx in0))))))))
theorem yMG (hb:∀ k d8 Z,Inv k d8 Z->zMS lo BA BC BD BE y BG nO qK lN cM d8 Z (NX1 Inv k) Q4):∀ k d8 Z,Inv k d8 Z->zTX lo BA BC BD BE y BG nO qK lN cM d8 Z Q4 :=
 xE (ai (xV 4) trivial) hb
theorem xAN:let s1:=Z.row [.int .u8 0,.nilFunc] 2;let s2:=s1.own Z.y [.int .u8 nV,.func (.func fC) ⟨[]⟩ ⟨fg⟩] 2;∀ (h1:lz Z 118 (zJ qK_a (Int.toNat d8*2)) (qf [.int .u8 nV,.func (.func fC) ⟨[]⟩ ⟨fg⟩])) (h2:lz s2 34 (qe BA 0) (qf (wkc nGB qFB lLB cGB qGB lMB cHB nHB nKB nBU))) (h3:lz s2 85 (qe BG 0) (qf (zG nBV nBW nBX nBY nBZ))) (h4:lz s2 107 ⟨BE,0+Int.toNat nO*4,none⟩ (qf (zL nBa nBb nBc nBd))) (h5:qm fC (qf (wkc nGB qFB lLB cGB qGB lMB cHB nHB nKB nBU)::iV nO::(qf (zG nBV nBW nBX nBY nBZ))::(qf (zL nBa nBb nBc nBd))::fg) s2 (.bool true) s2) (nx:Nx (d8+1) s2) (u1:d8<(lN:Int):=by omega) (u2:Ix d8 lN:=by omega) (u3:Ix nO 6:=by omega) (u4:I6 (d8+1):=by omega),zMS lo BA BC BD BE y BG nO (some qK_a) lN cM d8 Z Nx Q4:=
 let s1:=Z.row [.int .u8 0,.nilFunc] 2;let s2:=s1.own Z.y [.int .u8 nV,.func (.func fC) ⟨[]⟩ ⟨fg⟩] 2;fun h1 h2 h3 h4 h5 nx u1 u2 u3 u4=>kO 0 (d8+1) [.b true,.i,.l (qf [.int .u8 nV,.func (.func fC) ⟨[]⟩ ⟨fg⟩]),.g,.e undef s2,.g,.l (.func (.func fC) ⟨[]⟩ ⟨fg⟩),.l (qf (wkc nGB qFB lLB cGB qGB lMB cHB nHB nKB nBU)),.g,.l (qf (zG nBV nBW nBX nBY nBZ)),.g,.i,.l (qf (zL nBa nBb nBc nBd)),.c (.bool true) s2,.g,.n (d8+1),.g] (fun _ f=>an5 (zR u1) u2 h1 ((zC _ _ _).store (vs:=[.int .u8 nV,.func (.func fC) ⟨[]⟩ ⟨fg⟩]) rfl zCY rfl (nle rfl) rfl:qo (evL [pt Z.y 0,qf [.int .u8 nV,.func (.func fC) ⟨[]⟩ ⟨fg⟩]]) s1 (.store 118 (.tmp 0) (.tmp 1))=some (undef,s2)) ((zC _ _ _).put.rw.ld xBF (k:=1) rfl:lz s2 116 (qe Z.y 1) (.func (.func fC) ⟨[]⟩ ⟨fg⟩)) (an6 h2 h3 u3 h4 h5 (w64 u4) f)) nx
theorem xAM:let s1:=Z.row [.int .u8 0,.nilFunc] 2;let s2:=s1.own Z.y [.int .u8 nV,.func (.func fC) ⟨[]⟩ ⟨fg⟩] 2;∀ (h1:lz Z 118 (zJ qK_a (Int.toNat d8*2)) (qf [.int .u8 nV,.func (.func fC) ⟨[]⟩ ⟨fg⟩])) (h2:lz s2 34 (qe BA 0) (qf (wkc nGB qFB lLB cGB qGB lMB cHB nHB nKB nBU))) (h3:lz s2 85 (qe BG 0) (qf (zG nBV nBW nBX nBY nBZ))) (h4:lz s2 107 ⟨BE,0+Int.toNat nO*4,none⟩ (qf (zL nBa nBb nBc nBd))) (h5:qm fC (qf (wkc nGB qFB lLB cGB qGB lMB cHB nHB nKB nBU)::iV nO::(qf (zG nBV nBW nBX nBY nBZ))::(qf (zL nBa nBb nBc nBd))::fg) s2 (.bool false) s2) (h6:lz s2 36 (qe BD 0) (.slice qUB lAC cWB)) (h7:yF Pg 36 36 (.slice qUB lAC cWB) (.slice (some ⟨(Z.y+1),0,none⟩) 1 1) (s2.row (rcd nV nO y) 3)=some (.slice qVB lBC cXB,ZBI)) (h8:qo (evL [pt BD 0,.slice qVB lBC cXB]) ZBI (.store 36 (.tmp 0) (.tmp 1))=some (undef,ZBJ)) (nx:Nx (d8+1) ZBJ) (u1:d8<(lN:Int):=by omega) (u2:Ix d8 lN:=by omega) (u3:Ix nO 6:=by omega) (u4:I6 (d8+1):=by omega),zMS lo BA BC BD BE y BG nO (some qK_a) lN cM d8 Z Nx Q4:=
 let s1:=Z.row [.int .u8 0,.nilFunc] 2;let s2:=s1.own Z.y [.int .u8 nV,.func (.func fC) ⟨[]⟩ ⟨fg⟩] 2;fun h1 h2 h3 h4 h5 h6 h7 h8 nx u1 u2 u3 u4=>kO 0 (d8+1) [.b true,.i,.l (qf [.int .u8 nV,.func (.func fC) ⟨[]⟩ ⟨fg⟩]),.g,.e undef s2,.g,.l (.func (.func fC) ⟨[]⟩ ⟨fg⟩),.l (qf (wkc nGB qFB lLB cGB qGB lMB cHB nHB nKB nBU)),.g,.l (qf (zG nBV nBW nBX nBY nBZ)),.g,.i,.l (qf (zL nBa nBb nBc nBd)),.c (.bool false) s2,.g,.l (.slice qUB lAC cWB),.g,.l (.int .u8 nV),.g,.g,.g,.g,.e (.slice qVB lBC cXB) ZBI,.e undef ZBJ,.n (d8+1),.g] (fun _ f=>an3 (zR u1) u2 h1 (an6 ((zC _ _ _).store (vs:=[.int .u8 nV,.func (.func fC) ⟨[]⟩ ⟨fg⟩]) rfl zCY rfl (nle rfl) rfl:qo (evL [pt Z.y 0,qf [.int .u8 nV,.func (.func fC) ⟨[]⟩ ⟨fg⟩]]) s1 (.store 118 (.tmp 0) (.tmp 1))=some (undef,s2)) ((zC _ _ _).put.rw.ld xBF (k:=1) rfl:lz s2 116 (qe Z.y 1) (.func (.func fC) ⟨[]⟩ ⟨fg⟩)) h2 h3 u3 h4 (an6 h5 h6 ((zC _ _ _).put.rw.ld xYF (k:=0) rfl:lz s2 5 (qe Z.y 0) (.int .u8 nV)) h7 h8 (w64 u4) f))) nx
theorem xAL (nx:Q4 Z) (u1:¬ d8<(lN:Int):=by omega):zMS lo BA BC BD BE y BG nO qK lN cM d8 Z Nx Q4 :=
 kO 1 () [.b false] (fun _ f=>ai (zT u1) f) nx
theorem xAG:let y2:=τ.re.y;let y0:=(τ.re.row (zG 0 0 0 0 0) 5).own y2 (zG aB aP ax ay aD) 5;let y1:=zBW BA BB BC BD BE ak dm fD fT g .ready none db;∀ (hl:yJ τ.heap lo=some y1) (hl1:yJ y0.heap lo=some y1) (hZ:Z=y0.put lo (zBW BA BB BC BD BE ak dm fD fT g .busy none db)) (h1:lz Z 26 (qe BB 0) (.slice (some qEB_a) lKB cMB)) (h2:lz Z 3 (zJ qEB_a (Int.toNat y*1)) (iV nO)) (h3:qm 76 [] Z (.slice qK lN cM) ZBK) (hL:zTX lo BA BC BD BE y y2 nO qK lN cM 0 ZBK P4) (k4:∀ Z',P4 Z'->zLB lo BA BC BD BE y y2 nO qK lN cM Z' Qn) (u1:Ix y lKB:=by omega) (u2:¬ nO=(-1):=by omega),zFO Pg lo [iV y,qf (zG aB aP ax ay aD)] τ (Fm 92 (ov (zAT BA BB BC BD BE ak dm fD fT) g)) [25,26] zBC uT db [⟨Unit,.normal,fun _=>[],fun _=>[],fun _ Z=>Qn Z⟩] :=
 let y2:=τ.re.y;let y0:=(τ.re.row (zG 0 0 0 0 0) 5).own y2 (zG aB aP ax ay aD) 5;fun hl hl1 hZ h1 h2 h3 hL k4 u1 u2=>yFF hl rfl hl1 hZ [.g,.g,.e undef y0,.l (.slice (some qEB_a) lKB cMB),.g,.i,.l (iV nO),.g,.g,.b false,.c (.slice qK lN cM) ZBK,.g,.g,.lf 92 (zGP lo BA BC BD BE y y2 nO qK lN cM 0) [zKZ lo BA BC BD BE y y2 nO qK lN cM P4]] (kc (by kernel_rfl) (ai ((zC _ _ _).store (vs:=(zG aB aP ax ay aD)) rfl uD rfl (nle rfl) rfl:qo (evL [pt τ.re.y 0,qf (zG aB aP ax ay aD)]) (τ.re.row (zG 0 0 0 0 0) 5) (.store 85 (.tmp 0) (.tmp 1))=some (undef,y0)) (ai (ai (rfl:Exit.normal=Exit.normal) (rfl:y0=y0)) (ai h1 (ai u1 (ai h2 (ai (xI u2) (ai h3 (ai (ai tt (ai (arf (zGP lo BA BC BD BE y y2 nO qK lN cM 0)) hL)) (ai (kz0 k4) trivial))))))))))
theorem yMC (h1:lz Z 107 ⟨BE,0+Int.toNat nO*4,none⟩ (qf (zL nBw nBx nBy nBz))) (h2:lz Z 85 (qe BG 0) (qf (zG nB0 nB1 nB2 nB3 nB4))) (h3:lz Z 26 (qe BC 0) (.slice (some qWB_a) lCC cBD)) (h4:lz Z 3 (zJ qWB_a (Int.toNat y*1)) (iV nB5)) (h5:qm 77 [qf (zL nBw nBx nBy nBz),qf (zG nB0 nB1 nB2 nB3 nB4),iV nB5] Z (qf (zL nB6 nB7 nB8 nB9)) Z) (h6:qo (evL [pt BE (0+Int.toNat nO*4),qf (zL nB6 nB7 nB8 nB9)]) Z (.store 107 (.tmp 0) (.tmp 1))=some (undef,ZBL)) (nx:Qn ZBL) (u1:Ix nO 6:=by omega) (u2:Ix y lCC:=by omega):zLB lo BA BC BD BE y BG nO qK lN cM Z Qn :=
 sK [.g,.g,.i,.l (qf (zL nBw nBx nBy nBz)),.l (qf (zG nB0 nB1 nB2 nB3 nB4)),.l (.slice (some qWB_a) lCC cBD),.g,.i,.l (iV nB5),.c (qf (zL nB6 nB7 nB8 nB9)) Z,.i,.e undef ZBL,.fin ⟨Unit,.normal,fun _=>[],fun _=>[],fun _ Z=>Qn Z⟩ ()] (an3 u1 h1 h2 (an6 h3 u2 h4 h5 u1 h6 (wBB (alts:=[⟨Unit,.normal,fun _=>[],fun _=>[],fun _ Z=>Qn Z⟩]) ⟨Unit,.normal,fun _=>[],fun _=>[],fun _ Z=>Qn Z⟩ () nx in0)))
theorem xAP {Nx:Int->(List Nat)->St->Prop} (h1:lz Z 34 (qe BA 0) (qf (wkc nG qE lG cF qG lH cG nB nD nE))) (h2:qm 75 [qf (wkc nG qE lG cF qG lH cG nB nD nE),iV dm] Z (.func (.func fD) ⟨[]⟩ ⟨fT⟩) ZN) (hL:yIO BA BB BC BD BE ak dm fD fT ZN Pn) (kn:∀ Z',Pn Z'->zWH BA BB BC BD BE ak dm fD fT (ZN.y::fj) Z' Nx Q0) (u1:dm<ak:=by omega):zTZ BA BB BC BD BE ak dm fj Z Nx Q0 :=
 zCE [.b true,.g,.g,.l (qf (wkc nG qE lG cF qG lH cG nB nD nE)),.g,.c (.func (.func fD) ⟨[]⟩ ⟨fT⟩) ZN,.rf 92 (zAT BA BB BC BD BE ak dm fD fT) [(.normal,Pn)]] (fun g=>kd (an3 (zR u1) h1 h2 (ai (ai tt (ai (arf (zAT BA BB BC BD BE ak dm fD fT)) hL)) (ai (kz kn) trivial))))
theorem xAO {Nx:Int->(List Nat)->St->Prop} (nx:Q0 fj Z) (u1:¬ dm<ak:=by omega):zTZ BA BB BC BD BE ak dm fj Z Nx Q0 :=
 kO 1 fj [.b false] (fun _ f=>ai (zT u1) f) nx
theorem yMD {Nx:Int->(List Nat)->St->Prop} (nx:Nx (dm+1) ms Z) (u1:I6 (dm+1):=by omega):zWH BA BB BC BD BE ak dm fD fT ms Z Nx Q0 :=
 sF 0 (dm+1,ms) [.n (dm+1),.g] (fun _ f=>ai (w64 u1) f) nx
theorem xJO:let s1:=Z.row (wkc ak af ac ad ae aa ab am au aj) 6;let s2:=s1.row [.slice roster aG aM] 1;let s3:=s2.row [.slice gA ft fu] 1;let s4:=s3.row [.slice none 0 0] 1;let s5:=Z.y+4;let s6:=Z.y+3;let s7:=Z.y+2;let s8:=Z.y+1;∀ (h1:qm 74 [qf (wkc ak af ac ad ae aa ab am au aj)] s4 (qf cs1) s4) (h2:qo (evL [pt s5 0,qf cs1]) (s4.row [iV 0,iV 0,iV 0,iV 0,iV 0,iV 0,iV 0,iV 0,iV 0,iV 0,iV 0,iV 0,iV 0,iV 0,iV 0,iV 0,iV 0,iV 0,iV 0,iV 0,iV 0,iV 0,iV 0,iV 0] 4) (.store 109 (.tmp 0) (.tmp 1))=some (undef,Z2)) (h3:lz Z2 3 (qe Z.y 0) (iV ak)) (hL:zTY Z.y s8 s7 s6 s5 ak 0 [] Z2 P0) (k0:∀ ms_1' Z',P0 ms_1' Z'->zWI Z.y s8 s7 s6 s5 ak ms_1' Z' Q),qg 54 [qf (wkc ak af ac ad ae aa ab am au aj),.slice roster aG aM,.slice gA ft fu] Z Q:=
 let s1:=Z.row (wkc ak af ac ad ae aa ab am au aj) 6;let s2:=s1.row [.slice roster aG aM] 1;let s3:=s2.row [.slice gA ft fu] 1;let s4:=s3.row [.slice none 0 0] 1;let s5:=Z.y+4;let s6:=Z.y+3;let s7:=Z.y+2;let s8:=Z.y+1;fun h1 h2 h3 hL k0=>zH [.g,.g,.g,.g,.l (qf (wkc ak af ac ad ae aa ab am au aj)),.c (qf cs1) s4,.g,.e undef Z2,.g,.l (iV ak),.g,.lf 92 (zGQ Z.y s8 s7 s6 s5 ak 0 []) [zEW Z.y s8 s7 s6 s5 ak P0]] (kd (an4 ((zC _ _ _).row.row.row.rw.ldN xL yR (k:=0) rfl rfl (nle rfl):lz s4 34 (qe Z.y 0) (qf (wkc ak af ac ad ae aa ab am au aj))) h1 h2 h3 (ai (ai tt (ai (arf (zGQ Z.y s8 s7 s6 s5 ak 0 [])) hL)) (ai (kz1 k0) trivial))))
theorem yMF (hb:∀ k dR Z,Inv k dR Z->zMR BA BD BE lL fp dR Z (NX1 Inv k) Q6):∀ k dR Z,Inv k dR Z->zTW BA BD BE lL fp dR Z Q6 :=
 xE (ai (xV 6) trivial) hb
theorem xAK (h1:lz Z 3 ⟨BE,0+Int.toNat dR*4+2,none⟩ (iV nCB)) (h2:lz Z 3 (qe BA 5) (iV nIB)) (h3:lz Z 36 (qe BD 0) (.slice qXB lDC cYB)) (h4:yF Pg 36 36 (.slice qXB lDC cYB) (.slice (some (qe Z.y 0)) 1 1) (Z.row (rcd 5 dR 0) 3)=some (.slice qYB lEC cZB,ZBM)) (h5:qo (evL [pt BD 0,.slice qYB lEC cZB]) ZBM (.store 36 (.tmp 0) (.tmp 1))=some (undef,ZBN)) (nx:Nx (dR+1) ZBN) (u1:dR<(lL:Int):=by omega) (u2:Ix dR 6:=by omega) (u3:nIB<nCB:=by omega) (u4:I6 (dR+1):=by omega):zMR BA BD BE lL fp dR Z Nx Q6 :=
 kO 0 (dR+1) [.b true,.g,.g,.g,.i,.g,.l (iV nCB),.g,.l (iV nIB),.b true,.l (.slice qXB lDC cYB),.g,.g,.g,.e (.slice qYB lEC cZB) ZBM,.e undef ZBN,.n (dR+1),.g] (fun _ f=>an3 (zR u1) u2 h1 (an6 h2 (zR u3) h3 h4 h5 (w64 u4) f)) nx
theorem xAJ (h1:lz Z 3 ⟨BE,0+Int.toNat dR*4+2,none⟩ (iV nCB)) (h2:lz Z 3 (qe BA 5) (iV nIB)) (nx:Nx (dR+1) Z) (u1:dR<(lL:Int):=by omega) (u2:Ix dR 6:=by omega) (u3:¬ nIB<nCB:=by omega) (u4:I6 (dR+1):=by omega):zMR BA BD BE lL fp dR Z Nx Q6 :=
 kO 0 (dR+1) [.b true,.g,.g,.g,.i,.g,.l (iV nCB),.g,.l (iV nIB),.b false,.n (dR+1),.g] (fun _ f=>an6 (zR u1) u2 h1 h2 (zT u3) (w64 u4) f) nx
theorem xAI (nx:Q6 Z) (u1:¬ dR<(lL:Int):=by omega):zMR BA BD BE lL fp dR Z Nx Q6 :=
 kO 1 () [.b false] (fun _ f=>ai (zT u1) f) nx
theorem yME (h1:lz Z 32 (qe BA 2) (.slice qY lL cAB)) (hL:zTW BA BD BE lL fj 0 Z P6) (k6:∀ Z',P6 Z'->zLA BA BD BE lL fj Z' Q):zWI BA BB BC BD BE ak fj Z Q :=
 sK [.g,.l (.slice qY lL cAB),.g,.g,.lf 92 (zGO BA BD BE lL fj 0) [zKY BA BD BE lL fj P6]] (ai h1 (ai (ai tt (ai (arf (zGO BA BD BE lL fj 0)) hL)) (ai (kz0 k6) trivial)))
theorem zRN (h1:lz Z 36 (qe BD 0) (.slice qZB lFC cAC)) (h2:qm 78 [.slice qZB lFC cAC,.func (.func 79) ⟨[]⟩ ⟨[]⟩] Z (.tuple ⟨[]⟩) ZUB) (h3:lz ZUB 36 (qe BD 0) (.slice qAC lGC cBC)) (h4:qo (evL [pt BD 0,.slice qAC lGC cBC]) ZUB (.store 36 (.tmp 0) (.tmp 1))=some (undef,ZBO)) (h5:xEO fp ZBO gi) (h6:lz gi 36 (qe BD 0) (.slice qLB lSB cNB)) (nx:Q (.slice qLB lSB cNB) gi):zLA BA BD BE lL fp Z Q :=
 sK [.l (.slice qZB lFC cAC),.c (.tuple ⟨[]⟩) ZUB,.l (.slice qAC lGC cBC),.e undef ZBO,.l (.slice qLB lSB cNB)] (an4 h1 h2 h3 h4 (zNX (K:=(fun gi=>lz gi 36 (qe BD 0) (.slice qLB lSB cNB)/\Q (.slice qLB lSB cNB) gi)) h5 (ai h6 nx)))
theorem xHT {Q0:St->Prop} (hb:∀ k bZ Z,Inv k bZ Z->yKV l v1 q1 l1 c1 bZ Z (NX1 Inv k) Qr Q0):∀ k bZ Z,Inv k bZ Z->xOW l v1 q1 l1 c1 bZ Z Qr Q0 :=
 xE (ai uZ (ai (xV 0) trivial)) hb
theorem xVX {Q0:St->Prop}:let s1:=Z.row (zG 0 0 0 0 0) 5;let s2:=s1.own Z.y (zG nG nF nA nB nD) 5;let y0:=zG nG nF nA nB nD;∀ (h1:lz Z 85 (zJ f8 (Int.toNat bZ*5)) (qf y0)) (h2:lz s2 3 v1 (iV nE)) (h3:xBS Pg l [iV bZ,qf y0] s2 (.bool true) ZN) (nx:Nx (bZ+1) ZN) (u1:bZ<(l1:Int):=by omega) (u2:Ix bZ l1:=by omega) (u3:nG=nE:=by omega) (u4:I6 (bZ+1):=by omega),yKV l v1 (some f8) l1 c1 bZ Z Nx Qr Q0:=
 let s1:=Z.row (zG 0 0 0 0 0) 5;let s2:=s1.own Z.y (zG nG nF nA nB nD) 5;let y0:=zG nG nF nA nB nD;fun h1 h2 h3 nx u1 u2 u3 u4=>kO 0 (bZ+1) [.b true,.g,.i,.l (qf y0),.g,.g,.e undef s2,.g,.l (iV nG),.l (iV nE),.b true,.g,.g,.g,.l (qf y0),.c (.bool true) ZN,.g,.g,.n (bZ+1),.g] (fun _ f=>an4 (zR u1) u2 h1 ((zC _ _ _).store (vs:=y0) rfl uD rfl (nle rfl) rfl:qo (evL [pt Z.y 0,qf y0]) s1 (.store 85 (.tmp 0) (.tmp 1))=some (undef,s2)) (an6 ((zC _ _ _).put.rw.ld zU (k:=0) rfl:lz s2 3 (qe Z.y 0) (iV nG)) h2 (xK u3) ((zC _ _ _).put.rw.ldN zNU uD (k:=0) rfl rfl (nle rfl):lz s2 85 (qe Z.y 0) (qf y0)) h3 (w64 u4) f)) nx
theorem xVW {Q0:St->Prop}:let s1:=Z.row (zG 0 0 0 0 0) 5;let s2:=s1.own Z.y (zG nG nF nA nB nD) 5;let y0:=zG nG nF nA nB nD;∀ (h1:lz Z 85 (zJ f8 (Int.toNat bZ*5)) (qf y0)) (h2:lz s2 3 v1 (iV nE)) (nx:Nx (bZ+1) s2) (u1:bZ<(l1:Int):=by omega) (u2:Ix bZ l1:=by omega) (u3:¬ nG=nE:=by omega) (u4:I6 (bZ+1):=by omega),yKV l v1 (some f8) l1 c1 bZ Z Nx Qr Q0:=
 let s1:=Z.row (zG 0 0 0 0 0) 5;let s2:=s1.own Z.y (zG nG nF nA nB nD) 5;let y0:=zG nG nF nA nB nD;fun h1 h2 nx u1 u2 u3 u4=>kO 0 (bZ+1) [.b true,.g,.i,.l (qf y0),.g,.g,.e undef s2,.g,.l (iV nG),.l (iV nE),.b false,.g,.g,.n (bZ+1),.g] (fun _ f=>an2 (zR u1) u2 (an6 h1 ((zC _ _ _).store (vs:=y0) rfl uD rfl (nle rfl) rfl:qo (evL [pt Z.y 0,qf y0]) s1 (.store 85 (.tmp 0) (.tmp 1))=some (undef,s2)) ((zC _ _ _).put.rw.ld zU (k:=0) rfl:lz s2 3 (qe Z.y 0) (iV nG)) h2 (xI u3) (w64 u4) f)) nx
theorem xVV {Q0:St->Prop} (nx:Q0 Z) (u1:¬ bZ<(l1:Int):=by omega):yKV l v1 q1 l1 c1 bZ Z Nx Qr Q0 :=
 kO 2 () [.b false] (fun _ f=>ai (zT u1) f) nx
theorem wAK {P0:St->Prop} (h1:lz Z 31 (zJ v0 1) (.slice q1 l1 c1)) (hL:xOW l v1 q1 l1 c1 0 Z Pr P0) (kr:∀ Z',Pr Z'->xOX l v1 q1 l1 c1 Z' Q) (k0:∀ Z',P0 Z'->yQC l v1 q1 l1 c1 Z' Q):qg 91 [.func (.yield l) ⟨[]⟩ ⟨[]⟩,pz v0,pz v1] Z Q :=
 zH [.g,.l (.slice q1 l1 c1),.g,.g,.lf 26 (yAK l v1 q1 l1 c1 0) [yAL l v1 q1 l1 c1 Pr,yAM l v1 q1 l1 c1 P0]] (kd (ai h1 (ai (ai tt (ai (arf (yAK l v1 q1 l1 c1 0)) hL)) (ai (kz0 kr) (ai (kz0 k0) trivial)))))
theorem xHS (nx:Q (.tuple ⟨[]⟩) Z):yQC l v1 q1 l1 c1 Z Q :=
 sK [] nx
end
theorem xSR:AppT Tryz.prog 36 36 45 3:=zMV (by kernel_rfl)
theorem xRW (b:Bch):zFL Tryz.prog 45 3 (zRR b):=.inr ⟨xTC,yJP,_,rfl,rfl⟩
structure J (Z:St) (wl:List Value) (rv tv:Value) (X:Nat->Prop) (f:Nat->Std) (A:List Bch) (τ:St):Prop where
 new:New Z.re τ
 wk:Row τ ⟨Z.y,0,none⟩ wl
 ro:Row τ ⟨Z.y+1,0,none⟩ [rv]
 tr:Row τ ⟨Z.y+2,0,none⟩ [tv]
 nw:Own τ (Z.y+4) (stL f) 4
 out:∃ po co,Own τ (Z.y+3) [.slice po A.length co] 1/\Gr Tryz.prog τ (Z.y+5) 45 3 po A.length co (A.map zRR)/\∀ b,AtP po b->¬ X b
section
variable {Z τ τ':St} {wl:List Value} {rv tv:Value} {X:Nat->Prop} {f:Nat->Std} {A:List Bch}
theorem J.le (h:J Z wl rv tv X f A τ) (k:Le τ τ') (n:New Z.re τ'):J Z wl rv tv X f A τ':=by
 obtain ⟨po,co,h1,h2,h3⟩:=h.out;exact ⟨n,h.wk.le k,h.ro.le k,h.tr.le k,h.nw.le k,po,co,h1.le k,h2.le k,h3⟩
theorem J.mono {Y:Nat->Prop} (h:J Z wl rv tv X f A τ) (k:∀ b,b<τ.y->Z.y+5<=b->Y b->X b):J Z wl rv tv Y f A τ:=by
 obtain ⟨po,co,h1,h2,h3⟩:=h.out;exact ⟨h.new,h.wk,h.ro,h.tr,h.nw,po,co,h1,h2,fun b hb hy=>h3 b hb (k b (h2.bd hb).2 (h2.bd hb).1 hy)⟩
theorem J.push (h:J Z wl rv tv X f A τ) (k:Le τ τ') (n:New Z.re τ') (b:Bch) (hA:A.length<=1000) (hX3:¬ X (Z.y+3)) (hX:∀ x,X x->x<τ.y) :
    ∃ po co,zB Tryz.prog τ' 36 ⟨Z.y+3,0,none⟩=some (.slice po A.length co)/\∃ p' c' τ2,yF Tryz.prog 36 36 (.slice po A.length co) (.slice (some ⟨τ'.y,0,none⟩) 1 1) (τ'.row (rcd b.kind b.drv b.dut) 3)=some (.slice p' (A++[b]).length c',τ2) /\
      zQ Tryz.prog (evL [.pointer (some ⟨Z.y+3,0,none⟩),.slice p' (A++[b]).length c']) τ2 (.store 36 (.tmp 0) (.tmp 1))=some (undef,τ2.own (Z.y+3) [.slice p' (A++[b]).length c'] 1) /\
      J Z wl rv tv X f (A++[b]) (τ2.own (Z.y+3) [.slice p' (A++[b]).length c'] 1)/\Only (fun x=>¬ X x) τ' (τ2.own (Z.y+3) [.slice p' (A++[b]).length c'] 1):=by
  obtain ⟨po,co,o,hg,hf⟩:=h.out;have hnx:Z.y+5<=τ.y:=by have:=h.nw.lt;omega
  obtain ⟨p',c',τ2,g1,g2,g3,g4⟩:=yRA (zRR b) xSR hg k (xRW b) (by omega) hnx;have el:(A++[b]).length=A.length+1:=by simp
  rw [<- el] at g1;have g2':Gr Tryz.prog τ2 (Z.y+5) 45 3 p' (A++[b]).length c' ((A++[b]).map zRR):=by rw [el,List.map_append];exact g2
  have hpo:∀ x,AtP po x->Z.y+5<=x:=fun x hx=>(hg.bd hx).1
  have O1:Only (AtP po) τ' τ2:=(Only.row τ' _ _).trans' g3 (fun b _ hb=>.inl hb);have o':Own τ' (Z.y+3) [.slice po A.length co] 1:=o.le k;have o2:Own τ2 (Z.y+3) [.slice po A.length co] 1:=O1.own' o' (fun hx=>by have:=hpo _ hx;omega);have hp':∀ x,AtP p' x->Z.y+5<=x:=fun x hx=>(g2'.bd hx).1
  have nkeep:∀ {a:Addr} {cs:List Value},Row τ a cs->a.block<Z.y+3->Row (τ2.own (Z.y+3) [.slice p' (A++[b]).length c'] 1) a cs:=fun hr hlt=>(O1.rw' (hr.le k) (fun hx=>by have:=hpo _ hx;omega)).own (by omega)
  have O2:Only (fun x=>¬ X x) τ' (τ2.own (Z.y+3) [.slice p' (A++[b]).length c'] 1):=by
    refine (O1.mono (T:=fun x=>¬ X x) (fun x _ hx=>hf x hx)).trans' (Only.own (S:=(·=Z.y+3)) (.inr rfl)) ?_
    rintro x _ rfl;exact .inl hX3
  refine ⟨po,co,o'.ld (k:=0) rfl yTH rfl,p',c',τ2,g1,o2.store (k:=0) (vs:=[.slice p' (A++[b]).length c']) rfl yUY rfl (by simp) rfl,⟨?_,nkeep h.wk (by show Z.y<_;omega),nkeep h.ro (by show Z.y+1<_;omega),nkeep h.tr (by show Z.y+2<_;omega), ?_,p',c',o2.put, ?_, ?_⟩,O2⟩
  · exact (n.of_only O1 (fun x hx=>by have:=hpo x hx;show Z.y<=x;omega)).own (by show Z.y<=Z.y+3;omega)
  · exact (O1.own' (h.nw.le k) (fun hx=>by have:=hpo _ hx;omega)).own (by omega)
  · exact g2'.only (Only.own (S:=(·=Z.y+3)) (.inr rfl)) (fun x hx e=>by have:=hp' x hx;omega)
  · intro x hx hXx;rcases g4 x hx with h1 | h1
    · exact hf x h1 hXx
    · have:=hX x hXx;have:=k.y;omega
theorem J.take (h:J Z wl rv tv X f A τ) {i:Nat} (hi:i<6) (s:Std) (hX4:¬ X (Z.y+4)) :
    zQ Tryz.prog (evL [.pointer (some ⟨Z.y+4,0+Int.toNat (i:Int)*4,none⟩),zMY s]) τ (.store 107 (.tmp 0) (.tmp 1))=some (undef,τ.own (Z.y+4) (stL (upd f i s)) 4) /\
      J Z wl rv tv X (upd f i s) A (τ.own (Z.y+4) (stL (upd f i s)) 4)/\Only (fun x=>¬ X x) τ (τ.own (Z.y+4) (stL (upd f i s)) 4):=by
  obtain ⟨po,co,o,hg,hf⟩:=h.out;refine ⟨yUQ h.nw hi s,⟨h.new.own (by show Z.y<=Z.y+4;omega),h.wk.own (by show Z.y≠_;omega),h.ro.own (by show Z.y+1≠_;omega),h.tr.own (by show Z.y+2≠_;omega),h.nw.put,po,co,o.own (by omega), ?_,hf⟩, ?_⟩
  · exact hg.only (Only.own (S:=(·=Z.y+4)) (.inr rfl)) (fun x hx e=>by have:=(hg.bd hx).1;omega)
  · exact (Only.own (S:=(·=Z.y+4)) (.inr rfl)).mono (fun x _ e=>by rw [e];exact hX4)
end
section
variable {w:Wk} {k i j:Nat} {s:Std}
def zNR (w:Wk) (k i:Nat) (s:Std) (j:Nat):List Bch:=(List.range j).filterMap fun n=>if holds w n (drQ w k) (dtQ w i) s then none else some ⟨n,k,i⟩
theorem xXO:zNR w k i s (j+1)=zNR w k i s j++(if holds w j (drQ w k) (dtQ w i) s then [] else [⟨j,k,i⟩]):=by
 unfold zNR;rw [List.range_succ,List.filterMap_append];simp only [List.filterMap_cons,List.filterMap_nil];split <;> simp_all
theorem xJN:(zNR w k i s j).length<=j:=by
 unfold zNR;have:=List.length_filterMap_le (fun n=>if holds w n (drQ w k) (dtQ w i) s=true then none else some (⟨n,k,i⟩:Bch)) (List.range j);simpa using this
abbrev yFV:List Value:=[.int .u8 0,.func (.func 92) ⟨[]⟩ ⟨[]⟩,.int .u8 1,.func (.func 93) ⟨[]⟩ ⟨[]⟩,.int .u8 2,.func (.func 94) ⟨[]⟩ ⟨[]⟩,.int .u8 3,.func (.func 95) ⟨[]⟩ ⟨[]⟩,.int .u8 4,.func (.func 96) ⟨[]⟩ ⟨[]⟩]
section
variable {Z τ:St} {w:Wk} {p q:Option Addr} {l m c d:Nat} {rv tv:Value} {X:Nat->Prop} {f:Nat->Std} {A:List Bch}
theorem zXF {b:Nat} (h:Row τ ⟨b,0,none⟩ yFV) (hj:j<5):zB Tryz.prog τ 118 (zJ ⟨b,0,none⟩ (Int.toNat (j:Int)*2))=some (.agg ⟨[.int .u8 (j:Int),.func (.func (92+j)) ⟨[]⟩ ⟨[]⟩]⟩):=by
 rw [Int.toNat_natCast];match j,hj with
 | 0,_=>exact h.loadN (k:=0) zPG zCY rfl rfl (by simp)
 | 1,_=>exact h.loadN (k:=2) zPG zCY rfl rfl (by simp)
 | 2,_=>exact h.loadN (k:=4) zPG zCY rfl rfl (by simp)
 | 3,_=>exact h.loadN (k:=6) zPG zCY rfl rfl (by simp)
 | 4,_=>exact h.loadN (k:=8) zPG zCY rfl rfl (by simp)
theorem xSO {lo B3 bq:Nat} (h:WkP Z 85 88 w p l q m) (hsh:zAD w) (hm:m<=6) (hk:k<m) (hi:i<l) (hs:StOk (f k)) (hx:DtOk (dtQ w i)) (hA:A.length<=500)
  (hJ:J Z (wkc w.M p l c q m d w.rest w.run w.j) rv tv X f A τ) (hB:Row τ ⟨B3,0,none⟩ (zG (dtQ w i).day (dtQ w i).on (dtQ w i).lo (dtQ w i).hi (dtQ w i).route)) (hq:Row τ ⟨bq,0,none⟩ yFV)
  (hXB:X B3) (hXq:X bq) (hX3:¬ X (Z.y+3)) (hX:∀ x,X x->x<τ.y) :
  zTX lo Z.y (Z.y+2) (Z.y+3) (Z.y+4) (i:Int) B3 (k:Int) (some ⟨bq,0,none⟩) 5 5 0 τ (fun z=>J Z (wkc w.M p l c q m d w.rest w.run w.j) rv tv X f (A++zNR w k i (f k) 5) z/\Only (fun x=>¬ X x) τ z):=by
 refine yMG (Inv:=fun k' i35 z=>∃ j:Nat,i35=j/\j+k'=5/\J Z (wkc w.M p l c q m d w.rest w.run w.j) rv tv X f (A++zNR w k i (f k) j) z/\Only (fun x=>¬ X x) τ z) ?_ 5 0 τ ⟨0,rfl,rfl,by simpa [zNR] using hJ,Only.refl _ _⟩;rintro k' i35 z ⟨j,rfl,hk',hJz,O⟩;by_cases hj:j<5;rotate_left
 ·have:j=5:=by omega
  subst this;exact xAL ⟨hJz,O⟩ (by omega)
 have hqz:Row z ⟨bq,0,none⟩ yFV:=O.rw' hq (fun hh=>hh hXq);have hBz:=O.rw' hB (fun hh=>hh hXB);obtain ⟨z1,hz1⟩:∃ z1,z1=(z.row [.int .u8 0,.nilFunc] 2).own z.y [.int .u8 (j:Int),.func (.func (92+j)) ⟨[]⟩ ⟨[]⟩] 2:=⟨_,rfl⟩;have L1:Le z z1:=by rw [hz1];exact (Le.row z [.int .u8 0,.nilFunc] 2).own (Nat.le_refl _)
 have N1:New Z.re z1:=by rw [hz1];exact hJz.new.row'.own hJz.new.le.y
 have O1:Only (fun x=>¬ X x) z z1:=by
  have:New z z1:=by rw [hz1];exact (New.row z [.int .u8 0,.nilFunc] 2).own (Nat.le_refl _)
  exact this.only
 have J1:=hJz.le L1 N1;have LS:Le Z z1:=(le0 Z).trans N1.le;have lw:zB Tryz.prog z1 34 ⟨Z.y,0,none⟩=some (.agg ⟨wkc w.M p l c q m d w.rest w.run w.j⟩):=J1.wk.ldN (k:=0) xL yR (ds:=wkc w.M p l c q m d w.rest w.run w.j) rfl rfl (by simp);have lb:zB Tryz.prog z1 85 ⟨B3,0,none⟩=some (uK (dtQ w i)):=(hBz.le L1).ldN (k:=0) zNU uD (ds:=zG (dtQ w i).day (dtQ w i).on (dtQ w i).lo (dtQ w i).hi (dtQ w i).route) rfl rfl (by simp);have ls:=yJL J1.nw (i:=k) (by omega);have ca:=xZC (c:=c) (d:=d) (h.le LS) hsh hk hs hx hj;have es:=xXO (w:=w) (k:=k) (i:=i) (s:=f k) (j:=j);have hcl:=xJN (w:=w) (k:=k) (i:=i) (s:=f k) (j:=j);cases hb:holds w j (drQ w k) (dtQ w i) (f k) with
 | true =>
  rw [hb] at ca es;rw [if_pos rfl,List.append_nil] at es;rw [hz1] at lw lb ls ca J1 O1;refine xAN (zXF hqz hj) lw lb ls ca ⟨k' - 1,by omega,j+1,by omega,by omega, ?_,O.trans' O1 (fun b _ hb=>.inl hb)⟩ (by omega) (by omega) (by omega) (by omega);rw [es];exact J1
 | false =>
  rw [hb] at ca es;rw [if_neg (by simp)] at es;obtain ⟨po,co,g1,p',c',z2,g2,g3,g4,g5⟩:=hJz.push L1 N1 ⟨j,k,i⟩ (by rw [List.length_append];omega) hX3 (fun x hx=>Nat.lt_of_lt_of_le (hX x hx) O.y);rw [hz1] at lw lb ls ca g1 g2 O1 g5;refine xAM (zXF hqz hj) lw lb ls ca g1 g2 g3 ⟨k' - 1,by omega,j+1,by omega,by omega, ?_,(O.trans' O1 (fun b _ hb=>.inl hb)).trans' g5 (fun b _ hb=>.inl hb)⟩ (by omega) (by omega) (by omega) (by omega);rw [es,<- List.append_assoc];exact g4
end
end
section
variable {D bq g:Nat} {st:Nat->Std} {gc:List Value} {R:Nat->Bool}
@[reducible] def zVJ (w:Wk) (p:Option Addr) (l c:Nat) (q:Option Addr) (m d:Nat) (leaves:Bool) (wfv:Value) (bm:Nat):List Value:=[iV w.M,.slice p l c,.slice q m d,iV w.rest,iV w.run,iV w.j,.bool leaves,wfv,.map (some bm)]
section
variable {Z:St} {b n:Nat} {f:Nat->Std}
theorem xCA (o:Own Z b (stL f) n) {i k:Nat} {x:Int} (hi:i<6) (hx:[(f i).free,(f i).row,(f i).used,(f i).day][k]?=some x):zB Pg Z 3 ⟨b,0+Int.toNat (i:Int)*4+k,none⟩=some (yA x):=by
 rw [Int.toNat_natCast];have hk:k<4:=by have:=(List.getElem?_eq_some_iff.1 hx).1;simpa using this
 have key:(stL f)[0+i*4+k]?=some (yA x):=by
  match i,hi,k,hk with
  | 0,_,0,_=>exact congrArg (Option.map yA) hx
  | 0,_,1,_=>exact congrArg (Option.map yA) hx
  | 0,_,2,_=>exact congrArg (Option.map yA) hx
  | 0,_,3,_=>exact congrArg (Option.map yA) hx
  | 1,_,0,_=>exact congrArg (Option.map yA) hx
  | 1,_,1,_=>exact congrArg (Option.map yA) hx
  | 1,_,2,_=>exact congrArg (Option.map yA) hx
  | 1,_,3,_=>exact congrArg (Option.map yA) hx
  | 2,_,0,_=>exact congrArg (Option.map yA) hx
  | 2,_,1,_=>exact congrArg (Option.map yA) hx
  | 2,_,2,_=>exact congrArg (Option.map yA) hx
  | 2,_,3,_=>exact congrArg (Option.map yA) hx
  | 3,_,0,_=>exact congrArg (Option.map yA) hx
  | 3,_,1,_=>exact congrArg (Option.map yA) hx
  | 3,_,2,_=>exact congrArg (Option.map yA) hx
  | 3,_,3,_=>exact congrArg (Option.map yA) hx
  | 4,_,0,_=>exact congrArg (Option.map yA) hx
  | 4,_,1,_=>exact congrArg (Option.map yA) hx
  | 4,_,2,_=>exact congrArg (Option.map yA) hx
  | 4,_,3,_=>exact congrArg (Option.map yA) hx
  | 5,_,0,_=>exact congrArg (Option.map yA) hx
  | 5,_,1,_=>exact congrArg (Option.map yA) hx
  | 5,_,2,_=>exact congrArg (Option.map yA) hx
  | 5,_,3,_=>exact congrArg (Option.map yA) hx
 exact o.ld rfl zU key
theorem xUJ (o:Own Z b (stL f) n) {i:Nat} (hi:i<6) (x:Int):zQ Pg (evL [.pointer (some ⟨b,0+Int.toNat (i:Int)*4+1,none⟩),yA x]) Z (.store 3 (.tmp 0) (.tmp 1))=some (undef,Z.own b (stL (upd f i ⟨(f i).free,x,(f i).used,(f i).day⟩)) n):=by
 rw [Int.toNat_natCast];match i,hi with
 | 0,_=>exact o.store (k:=1) (vs:=[yA x]) rfl vE rfl (by simp [stL]) rfl
 | 1,_=>exact o.store (k:=5) (vs:=[yA x]) rfl vE rfl (by simp [stL]) rfl
 | 2,_=>exact o.store (k:=9) (vs:=[yA x]) rfl vE rfl (by simp [stL]) rfl
 | 3,_=>exact o.store (k:=13) (vs:=[yA x]) rfl vE rfl (by simp [stL]) rfl
 | 4,_=>exact o.store (k:=17) (vs:=[yA x]) rfl vE rfl (by simp [stL]) rfl
 | 5,_=>exact o.store (k:=21) (vs:=[yA x]) rfl vE rfl (by simp [stL]) rfl
theorem xLW (o:Own Z b (stL f) n) {i:Nat} (hi:i<6) (x:Int):zQ Pg (evL [.pointer (some ⟨b,0+Int.toNat (i:Int)*4+0,none⟩),yA x]) Z (.store 3 (.tmp 0) (.tmp 1))=some (undef,Z.own b (stL (upd f i ⟨x,(f i).row,(f i).used,(f i).day⟩)) n):=by
 rw [Int.toNat_natCast];match i,hi with
 | 0,_=>exact o.store (k:=0) (vs:=[yA x]) rfl vE rfl (by simp [stL]) rfl
 | 1,_=>exact o.store (k:=4) (vs:=[yA x]) rfl vE rfl (by simp [stL]) rfl
 | 2,_=>exact o.store (k:=8) (vs:=[yA x]) rfl vE rfl (by simp [stL]) rfl
 | 3,_=>exact o.store (k:=12) (vs:=[yA x]) rfl vE rfl (by simp [stL]) rfl
 | 4,_=>exact o.store (k:=16) (vs:=[yA x]) rfl vE rfl (by simp [stL]) rfl
 | 5,_=>exact o.store (k:=20) (vs:=[yA x]) rfl vE rfl (by simp [stL]) rfl
end
section
variable {Z:St} {w:Wk} {p q:Option Addr} {l m c d Bp bm:Nat} {leaves:Bool} {wfv:Value}
def wP (w:Wk) (D j:Nat) (st:Nat->Std):Nat->Std:=fun k=>if k<j then zQG w D (st k) else st k
theorem xCO {j:Nat}:upd (wP w D j st) j (zQG w D (st j))=wP w D (j+1) st:=by
 funext k;unfold upd wP;by_cases e:k=j
 ·subst e;rw [if_pos rfl,if_pos (by omega)]
 ·rw [if_neg e];by_cases h:k<j
  ·rw [if_pos h,if_pos (by omega)]
  ·rw [if_neg h,if_neg (by omega)]
theorem xHC (hm:w.L.length=m):wP w D m st=zCJ w D st:=by
 funext k;unfold wP zCJ;rw [hm]
theorem wAI (hp:Row Z ⟨Bp,0,none⟩ (zVJ w p l c q m d leaves wfv bm)) (hm:w.L.length=m) (hm6:m<=6) (hD:D<=7) (hrest:0<=w.rest/\w.rest<=3000):zD Pg 101 [.pointer (some ⟨Bp,0,none⟩),iV (D:Int),.agg ⟨stL st⟩] Z (.agg ⟨stL (zCJ w D st)⟩) Z:=by
 obtain ⟨τ0,hτ0⟩:∃ τ0,τ0=(Z.re.row (stL st) 4).row zFB 4:=⟨_,rfl⟩;have N0:New Z.re τ0:=by rw [hτ0];exact (New.row _ _ _).row'
 have o1:Own τ0 Z.y (stL st) 4:=by rw [hτ0];exact (zC Z.re (stL st) 4).row
 have o2:Own τ0 (Z.y+1) (stL fun _=>zWS) 4:=by rw [hτ0,<- yET];exact zC (Z.re.row (stL st) 4) zFB 4
 have hp':∀ {τ},Le Z τ->Row τ ⟨Bp,0,none⟩ (zVJ w p l c q m d leaves wfv bm):=fun h=>hp.le h
 have hr0:Row τ0 ⟨Bp,0,none⟩ (zVJ w p l c q m d leaves wfv bm):=hp' ((le0 Z).trans N0.le);have l1:zB Pg τ0 32 (zJ ⟨Bp,0,none⟩ 2)=some (.slice q m d):=hr0.load1 zAC rfl;rw [hτ0] at l1;have e0:stL st=stL (wP w D 0 st):=by congr 1
 refine (xVQ l1 (yXA (Inv:=fun k i τ=>New Z.re τ/\∃ j:Nat,i=j/\j+k=m/\Own τ Z.y (stL (wP w D j st)) 4/\Own τ (Z.y+1) (stL fun _=>zWS) 4)
  (Q0:=fun τ=>New Z.re τ/\Own τ Z.y (stL (zCJ w D st)) 4/\Own τ (Z.y+1) (stL fun _=>zWS) 4) ?_ m 0 _ ⟨by rw [<- yET] at *;exact hτ0 ▸ N0,0,rfl,by omega,by rw [<- e0];exact hτ0 ▸ o1,hτ0 ▸ o2⟩) ?_).pure
 ·rintro k i τ ⟨hN,j,rfl,hk,w1,w2⟩;have hlt:=w2.lt;by_cases hj:j<m
  ·have hj6:j<6:=by omega
   have ej:wP w D j st j=st j:=by unfold wP;rw [if_neg (by omega)]
   have ld:=xCA (k:=3) (x:=(st j).day) w1 hj6 (by rw [ej];rfl);by_cases hd:(st j).day=(D:Int)
   ·refine xNS ld ⟨k-1,by omega,hN,j+1,by omega,by omega, ?_,w2⟩ (by omega) (by omega) hd (by omega);have e1:wP w D (j+1) st=wP w D j st:=by
     rw [<- xCO];funext k';unfold upd;by_cases e:k'=j
     ·subst e;rw [if_pos rfl,ej];unfold zQG;rw [if_pos hd]
     ·rw [if_neg e]
    rw [e1];exact w1
   ·have st1:=xUJ w1 hj6 0;have k1:Own (τ.own Z.y (stL (upd (wP w D j st) j ⟨(wP w D j st j).free,0,(wP w D j st j).used,(wP w D j st j).day⟩)) 4) Z.y (stL (upd (wP w D j st) j ⟨(wP w D j st j).free,0,(wP w D j st j).used,(wP w D j st j).day⟩)) 4:=w1.put;obtain ⟨τ1,hτ1⟩:∃ τ1,τ1=τ.own Z.y (stL (upd (wP w D j st) j ⟨(wP w D j st j).free,0,(wP w D j st j).used,(wP w D j st j).day⟩)) 4:=⟨_,rfl⟩;rw [<- hτ1] at st1 k1;have N1:New Z.re τ1:=by rw [hτ1];exact hN.own (by show Z.y<=Z.y;omega)
    have u2:Own τ1 (Z.y+1) (stL fun _=>zWS) 4:=by rw [hτ1];exact w2.own (by omega)
    have eu:upd (wP w D j st) j ⟨(wP w D j st j).free,0,(wP w D j st j).used,(wP w D j st j).day⟩ j=⟨(st j).free,0,(st j).used,(st j).day⟩:=by unfold upd;rw [if_pos rfl,ej]
    have ld2:=xCA (k:=0) (x:=(st j).free) k1 hj6 (by rw [eu];rfl);have ld3:zB Pg τ1 3 (zJ ⟨Bp,0,none⟩ 3)=some (iV w.rest):=(hp' ((le0 Z).trans N1.le)).load1 zU rfl;have kr:Row (τ1.row [iV (st j).free,iV (((D:Int)+1)*1440-w.rest)] 1) ⟨τ1.y,0,none⟩ [iV (st j).free,iV (((D:Int)+1)*1440-w.rest)]:=xH _ _ _;have cl:=xPR (c:=2) kr;have st2:=xLW (k1.row (ds:=[iV (st j).free,iV (((D:Int)+1)*1440-w.rest)]) (m:=1)) hj6 (max (st j).free (((D:Int)+1)*1440-w.rest));rw [eu] at st2;refine xNT ld st1 ld2 ld3 cl st2 ⟨k-1,by omega,N1.row'.own (by show Z.y<=Z.y;omega),j+1,by omega,by omega, ?_,(u2.row (ds:=[iV (st j).free,iV (((D:Int)+1)*1440-w.rest)]) (m:=1)).own (by omega)⟩ (by omega) (by omega) hd (by omega) (by omega) (by omega) (by omega);have e2:upd (upd (wP w D j st) j ⟨(wP w D j st j).free,0,(wP w D j st j).used,(wP w D j st j).day⟩) j ⟨max (st j).free (((D:Int)+1)*1440-w.rest),0,(st j).used,(st j).day⟩=wP w D (j+1) st:=by
     rw [<- xCO];funext k';unfold upd;by_cases e:k'=j
     ·rw [if_pos e,if_pos e];unfold zQG;rw [if_neg hd]
     ·rw [if_neg e,if_neg e,if_neg e]
    rw [<- e2];exact (k1.row (ds:=[iV (st j).free,iV (((D:Int)+1)*1440-w.rest)]) (m:=1)).put
  ·have:j=m:=by omega
   subst this;exact xNR ⟨hN,by rw [<- xHC hm];exact w1,w2⟩ (by omega)
 ·rintro τ ⟨hN,w1,w2⟩;exact yWZ (uE w1) (zXA w2 _) (uE w2.put) ⟨rfl,(hN.own (b:=Z.y+1) (n:=4) (cs:=stL (zCJ w D st)) (by show Z.y<=Z.y+1;omega)).lw⟩
theorem wAY (hq:Row Z ⟨bq,0,none⟩ yFV) (hc:∀ j:Nat,j<5->∀ τ,Le Z τ->zD Pg g (.agg ⟨[.int .u8 (j:Int),.func (.func (92+j)) ⟨[]⟩ ⟨[]⟩]⟩::gc) τ (.bool (R j)) τ) :
  ∃ n:Int,zD Pg 131 [.slice (some ⟨bq,0,none⟩) 5 5,.func (.func g) ⟨[]⟩ ⟨gc⟩] Z (iV n) Z/\(0<=n↔(List.range 5).any R=true):=by
 have hq0:=hq.re;by_cases h:(List.range 5).any R=true
 ·have hex:∃ j,j<5/\R j=true/\∀ i,i<j->R i=false:=by
   have:∃ j,j<5/\R j=true:=by
    obtain ⟨j,hj,e⟩:=List.any_eq_true.1 h;exact ⟨j,List.mem_range.1 hj,e⟩
   obtain ⟨j0,hj0,e0⟩:=this;have key:∀ n,(∃ j,j<n/\j<5/\R j=true)->∃ j,j<5/\R j=true/\∀ i,i<j->R i=false:=by
    intro n;induction n with
    | zero=>rintro ⟨j,h,_⟩;omega
    | succ n ih =>
     rintro ⟨j,h1,h2,h3⟩;by_cases hx:∃ j,j<n/\j<5/\R j=true
     ·exact ih hx
     ·have:j=n:=by
       by_cases e:j<n
       ·exact absurd ⟨j,e,h2,h3⟩ hx
       ·omega
      subst this;refine ⟨j,h2,h3,fun i hi=>?_⟩
      cases e:R i with
      | false=>rfl
      | true=>exact absurd ⟨i,hi,by omega,e⟩ hx
   exact key 5 ⟨j0,hj0,hj0,e0⟩
  obtain ⟨j0,hj0,e0,hb⟩:=hex;refine ⟨(j0:Int),(xDQ (yBA (Inv:=fun k i τ=>τ=Z.re/\∃ j:Nat,i=j/\j+k=5/\j<=j0) (Qr:=fun x τ=>τ=Z.re/\x=(j0:Int)) (Q0:=fun τ=>False) ?_ 5 0 Z.re ⟨rfl,0,rfl,by omega,by omega⟩) (fun x τ h=>yYU ⟨by rw [h.2],by rw [h.1];exact Nat.le_refl _⟩) (fun τ h=>h.elim)).pure,⟨fun _=>h,fun _=>by omega⟩⟩
  rintro k i τ ⟨rfl,j,rfl,hk,hj⟩;have ld:=zXF hq0 (show j<5 by omega);have cc:=hc j (by omega) Z.re (le0 Z);by_cases e:j=j0
  ·subst e;rw [e0] at cc;exact xQJ ld cc ⟨rfl,rfl⟩ (by omega) (by omega)
  ·rw [hb j (by omega)] at cc;exact yQR ld cc ⟨k-1,by omega,rfl,j+1,by omega,by omega,by omega⟩ (by omega) (by omega) (by omega)
 ·have hb:∀ i,i<5->R i=false:=fun i hi=>by
   cases e:R i with
   | false=>rfl
   | true=>exact absurd (List.any_eq_true.2 ⟨i,List.mem_range.2 hi,e⟩) h
  refine ⟨-1,(xDQ (yBA (Inv:=fun k i τ=>τ=Z.re/\∃ j:Nat,i=j/\j+k=5) (Qr:=fun x τ=>False) (Q0:=fun τ=>τ=Z.re) ?_ 5 0 Z.re ⟨rfl,0,rfl,by omega⟩) (fun x τ h=>h.elim) (fun τ h=>yYV ⟨rfl,by rw [h];exact Nat.le_refl _⟩)).pure,⟨fun e=>absurd e (by omega),fun e=>absurd e h⟩⟩
  rintro k i τ ⟨rfl,j,rfl,hk⟩;by_cases hj:j<5
  ·have ld:=zXF hq0 hj;have cc:=hc j hj Z.re (le0 Z);rw [hb j hj] at cc;exact yQR ld cc ⟨k-1,by omega,rfl,j+1,by omega,by omega⟩ (by omega) (by omega) (by omega)
  ·exact xQI rfl (by omega)
theorem wBE (hq:Row Z ⟨bq,0,none⟩ yFV) (hc:∀ j:Nat,j<5->∀ τ,Le Z τ->zD Pg g (.agg ⟨[.int .u8 (j:Int),.func (.func (92+j)) ⟨[]⟩ ⟨[]⟩]⟩::gc) τ (.bool (R j)) τ) :
  zD Pg 126 [.slice (some ⟨bq,0,none⟩) 5 5,.func (.func g) ⟨[]⟩ ⟨gc⟩] Z (.bool ((List.range 5).any R)) Z:=by
 obtain ⟨n,c1,hn⟩:=wAY (Z:=Z.re) (gc:=gc) hq.re (fun j hj τ hτ=>hc j hj τ ((le0 Z).trans hτ));cases e:(List.range 5).any R with
 | true=>exact (xXA c1 ⟨rfl,Nat.le_refl _⟩ (hn.2 e)).pure
 | false=>exact (xWZ c1 ⟨rfl,Nat.le_refl _⟩ (fun h=>by rw [hn.1 h] at e;cases e)).pure
theorem wBM (hq:Row Z ⟨bq,0,none⟩ yFV) (hc:∀ j:Nat,j<5->∀ τ,Le Z τ->zD Pg g (.agg ⟨[.int .u8 (j:Int),.func (.func (92+j)) ⟨[]⟩ ⟨[]⟩]⟩::gc) τ (.bool (R j)) τ) :
  zD Pg 116 [.slice (some ⟨bq,0,none⟩) 5 5,.func (.func g) ⟨[]⟩ ⟨gc⟩] Z (.bool ((List.range 5).all R)) Z:=by
 obtain ⟨τ0,hτ0⟩:∃ τ0,τ0=Z.re.row [.func (.func g) ⟨[]⟩ ⟨gc⟩] 1:=⟨_,rfl⟩;have N0:New Z.re τ0:=by rw [hτ0];exact New.row _ _ _
 have o0:Row τ0 ⟨Z.y,0,none⟩ [.func (.func g) ⟨[]⟩ ⟨gc⟩]:=by rw [hτ0];exact xH _ _ _
 have L0:Le Z τ0:=(le0 Z).trans N0.le;have c1:=wBE (Z:=τ0) (g:=127) (gc:=[.pointer (some ⟨Z.y,0,none⟩)]) (R:=fun j=>!R j) (hq.le L0) (fun j hj τ hτ=>by
  have L1:Le τ0 (τ.re.row [.int .u8 (j:Int),.func (.func (92+j)) ⟨[]⟩ ⟨[]⟩] 2):=(hτ.trans (le0 τ)).trans (Le.row _ _ _);have ld:zB Pg (τ.re.row [.int .u8 (j:Int),.func (.func (92+j)) ⟨[]⟩ ⟨[]⟩] 2) 164 ⟨Z.y,0,none⟩=some (.func (.func g) ⟨[]⟩ ⟨gc⟩):=(o0.le L1).ld wBP rfl;have cc:=hc j hj _ (L0.trans L1);cases e:R j with
  | true=>rw [e] at cc;exact (xSW ld cc ⟨rfl,Nat.le_refl _⟩).pure
  | false=>rw [e] at cc;exact (xSV ld cc ⟨rfl,Nat.le_refl _⟩).pure)
 have hall:(List.range 5).all R=!(List.range 5).any fun j=>!R j:=by
  rw [List.all_eq_not_any_not]
 rw [hall];rw [hτ0] at c1;cases e:(List.range 5).any fun j=>!R j with
 | true=>rw [e] at c1;exact (xXY c1 ⟨rfl,Nat.le_refl _⟩).pure
 | false=>rw [e] at c1;exact (xXX c1 ⟨rfl,Nat.le_refl _⟩).pure
theorem wCN {k i:Nat} {s:Std} (hp:Row Z ⟨Bp,0,none⟩ (zVJ w p l c q m d leaves wfv bm)) (h:WkP Z 85 88 w p l q m) (hsh:zAD w) (hk:k<m) (hi:i<l) (hs:StOk s) (hx:DtOk (dtQ w i)) (he:0<=(dtQ w i).hi/\(dtQ w i).hi<=1000000) :
  ∃ s',zD Pg 99 [.pointer (some ⟨Bp,0,none⟩),iV (k:Int),iV (i:Int),zMY s] Z (.tuple ⟨[zMY s',.bool (zFI w k i s)]⟩) Z/\(zFI w k i s=true->s'=take s (dtQ w i) (dtQ w i).hi):=by
 have hln:=h.len.1;obtain ⟨t0,ht0⟩:∃ t0,t0=((((Z.re.row [.pointer (some ⟨Bp,0,none⟩)] 1).row [iV (k:Int)] 1).row (zL s.free s.row s.used s.day) 4).row (zL 0 0 0 0) 4):=⟨_,rfl⟩;have N0:New Z.re t0:=by rw [ht0];exact (((New.row _ _ _).row').row').row'
 have x0:t0.y=Z.y+4:=by rw [ht0];rfl
 have L0:Le Z t0:=(le0 Z).trans N0.le;obtain ⟨t1,ht1⟩:∃ t1,t1=(t0.row (zG 0 0 0 0 0) 5).own (Z.y+4) (zG (dtQ w i).day (dtQ w i).on (dtQ w i).lo (dtQ w i).hi (dtQ w i).route) 5:=⟨_,rfl⟩;have N1:New Z.re t1:=by rw [ht1];exact N0.row'.own (by show Z.y<=Z.y+4;omega)
 have L1:Le Z t1:=(le0 Z).trans N1.le;have x1:t1.y=Z.y+5:=by rw [ht1];show t0.y+1=_;omega
 have r0:Row t0 ⟨Bp,0,none⟩ (zVJ w p l c q m d leaves wfv bm):=hp.le L0;have oA:Row t1 ⟨Z.y,0,none⟩ [.pointer (some ⟨Bp,0,none⟩)]:=by rw [ht1,ht0];exact (xH Z.re [.pointer (some ⟨Bp,0,none⟩)] 1).row.row.row.row.own (by show Z.y≠_;omega)
 have oB:Row t1 ⟨Z.y+1,0,none⟩ [iV (k:Int)]:=by rw [ht1,ht0];exact (xH (Z.re.row [.pointer (some ⟨Bp,0,none⟩)] 1) [iV (k:Int)] 1).row.row.row.own (by show Z.y+1≠_;omega)
 have oC:Own t1 (Z.y+2) (zL s.free s.row s.used s.day) 4:=by rw [ht1,ht0];exact (zC ((Z.re.row [.pointer (some ⟨Bp,0,none⟩)] 1).row [iV (k:Int)] 1) (zL s.free s.row s.used s.day) 4).row.row.own (by show Z.y+2≠_;omega)
 have oD:Own t1 (Z.y+3) (zL 0 0 0 0) 4:=by rw [ht1,ht0];exact (zC (((Z.re.row [.pointer (some ⟨Bp,0,none⟩)] 1).row [iV (k:Int)] 1).row (zL s.free s.row s.used s.day) 4) (zL 0 0 0 0) 4).row.own (by show Z.y+3≠_;omega)
 have oE:Row t1 ⟨Z.y+4,0,none⟩ (zG (dtQ w i).day (dtQ w i).on (dtQ w i).lo (dtQ w i).hi (dtQ w i).route):=by
  rw [ht1,<- x0];exact ((zC t0 (zG 0 0 0 0 0) 5).put).rw
 obtain ⟨a,rfl,y,hy,ly⟩:=xZ (SlV.le h.dty L0) hi;have gy:dtQ w i=y:=by unfold dtQ;rw [List.getD_eq_getElem?_getD,hy];rfl
 rw [<- gy] at ly;have l1:zB Pg t0 31 (zJ ⟨Bp,0,none⟩ 1)=some (.slice (some a) l c):=r0.load1 uU rfl;obtain ⟨bq,t2,kq,n2,hbq,rq⟩:=zVI (Z:=t1);have N2:New Z.re t2:=N1.trans n2;have L2:Le Z t2:=(le0 Z).trans N2.le;have oA2:=oA.le n2.le;have oB2:=oB.le n2.le;have oC2:=oC.le n2.le;have oD2:=oD.le n2.le;have oE2:=oE.le n2.le;have nx2:=n2.nx;have ca:=wBM (Z:=t2) (g:=117) (gc:=[.pointer (some ⟨Z.y,0,none⟩),.pointer (some ⟨Z.y+1,0,none⟩),.pointer (some ⟨Z.y+4,0,none⟩),.pointer (some ⟨Z.y+2,0,none⟩)]) (R:=fun j=>holds w j (drQ w k) (dtQ w i) s) rq (fun j hj τ hτ=>by
  have LT:Le t2 (τ.re.row [.int .u8 (j:Int),.func (.func (92+j)) ⟨[]⟩ ⟨[]⟩] 2):=(hτ.trans (le0 τ)).trans (Le.row _ _ _);have LS:=L2.trans LT;have q1:zB Pg (τ.re.row [.int .u8 (j:Int),.func (.func (92+j)) ⟨[]⟩ ⟨[]⟩] 2) 125 ⟨Z.y,0,none⟩=some (.pointer (some ⟨Bp,0,none⟩)):=(oA2.le LT).ld uM rfl;have q2:zB Pg (τ.re.row [.int .u8 (j:Int),.func (.func (92+j)) ⟨[]⟩ ⟨[]⟩] 2) 34 ⟨Bp,0,none⟩=some (.agg ⟨wkc w.M (some a) l c q m d w.rest w.run w.j⟩):=(hp.le LS).ldN (k:=0) xL yR (ds:=wkc w.M (some a) l c q m d w.rest w.run w.j) rfl rfl (by simp);have q3:zB Pg (τ.re.row [.int .u8 (j:Int),.func (.func (92+j)) ⟨[]⟩ ⟨[]⟩] 2) 3 ⟨Z.y+1,0,none⟩=some (iV (k:Int)):=(oB2.le LT).ld zU rfl;have q4:zB Pg (τ.re.row [.int .u8 (j:Int),.func (.func (92+j)) ⟨[]⟩ ⟨[]⟩] 2) 85 ⟨Z.y+4,0,none⟩=some (.agg ⟨zG (dtQ w i).day (dtQ w i).on (dtQ w i).lo (dtQ w i).hi (dtQ w i).route⟩):=(oE2.le LT).ldN (k:=0) zNU uD rfl rfl (by simp);have q5:zB Pg (τ.re.row [.int .u8 (j:Int),.func (.func (92+j)) ⟨[]⟩ ⟨[]⟩] 2) 107 ⟨Z.y+2,0,none⟩=some (.agg ⟨zL s.free s.row s.used s.day⟩):=(oC2.le LT).ldN (k:=0) vP xG rfl rfl (by simp);have ck:=xZC (c:=c) (d:=d) (h.le LS) hsh hk hs hx hj;exact (xWC q1 q2 q3 q4 q5 ck ⟨rfl,Nat.le_refl _⟩).pure)
 have q5:zB Pg t2 107 ⟨Z.y+2,0,none⟩=some (.agg ⟨zL s.free s.row s.used s.day⟩):=oC2.ldN (k:=0) vP xG rfl rfl (by simp);have stD:∀ {z:St} {x:Std},Own z (Z.y+3) (zL 0 0 0 0) 4->zQ Pg (evL [.pointer (some ⟨Z.y+3,0,none⟩),.agg ⟨zL x.free x.row x.used x.day⟩]) z (.store 107 (.tmp 0) (.tmp 1))=some (undef,z.own (Z.y+3) (zL x.free x.row x.used x.day) 4):=fun {z x} o =>
  o.store (k:=0) (vs:=zL x.free x.row x.used x.day) rfl xG rfl (by simp) rfl
 have ht0':=ht0;rw [ht1] at kq;rw [ht0] at l1 ly kq;cases hall:(List.range 5).all (fun j=>holds w j (drQ w k) (dtQ w i) s) with
 | false =>
  rw [hall] at ca;have em:zFI w k i s=false:=by unfold zFI;rw [hall];rfl
  rw [em];have oD3:=oD2.put (ds:=zL s.free s.row s.used s.day);refine ⟨s,(wAP l1 ly kq ca q5 (stD oD2) (oD3.ldN (k:=0) vP xG rfl rfl (by simp)) ⟨rfl,(N2.own (b:=Z.y+3) (n:=4) (cs:=zL s.free s.row s.used s.day) (by show Z.y<=Z.y+3;omega)).lw⟩ (by omega)).pure,fun e=>by cases e⟩
 | true =>
  rw [hall] at ca;have q6:zB Pg t2 85 ⟨Z.y+4,0,none⟩=some (.agg ⟨zG (dtQ w i).day (dtQ w i).on (dtQ w i).lo (dtQ w i).hi (dtQ w i).route⟩):=oE2.ldN (k:=0) zNU uD rfl rfl (by simp);have q7:zB Pg t2 3 ⟨Z.y+4,3,none⟩=some (iV (dtQ w i).hi):=oE2.ld zU rfl;have ck:=yJK (Z:=t2) (x:=dtQ w i) (e:=(dtQ w i).hi) hs hx (by omega);obtain ⟨s',hs'⟩:∃ s',s'=take s (dtQ w i) (dtQ w i).hi:=⟨_,rfl⟩;rw [<- hs'] at ck;have st2:zQ Pg (evL [.pointer (some ⟨Z.y+2,0,none⟩),.agg ⟨zL s'.free s'.row s'.used s'.day⟩]) t2 (.store 107 (.tmp 0) (.tmp 1))=some (undef,t2.own (Z.y+2) (zL s'.free s'.row s'.used s'.day) 4) :=
   oC2.store (k:=0) (vs:=zL s'.free s'.row s'.used s'.day) rfl xG rfl (by simp) rfl
  obtain ⟨t3,ht3⟩:∃ t3,t3=t2.own (Z.y+2) (zL s'.free s'.row s'.used s'.day) 4:=⟨_,rfl⟩;have oC3:Own t3 (Z.y+2) (zL s'.free s'.row s'.used s'.day) 4:=by rw [ht3];exact oC2.put
  have oA3:Row t3 ⟨Z.y,0,none⟩ [.pointer (some ⟨Bp,0,none⟩)]:=by rw [ht3];exact oA2.own (by show Z.y≠_;omega)
  have oD3:Own t3 (Z.y+3) (zL 0 0 0 0) 4:=by rw [ht3];exact oD2.own (by omega)
  have N3:New Z.re t3:=by rw [ht3];exact N2.own (by show Z.y<=Z.y+2;omega)
  have p3:Row t3 ⟨Bp,0,none⟩ (zVJ w (some a) l c q m d leaves wfv bm):=hp.le ((le0 Z).trans N3.le);rw [<- ht3] at st2;obtain ⟨t4,ht4⟩:∃ t4,t4=t3.own (Z.y+3) (zL s'.free s'.row s'.used s'.day) 4:=⟨_,rfl⟩;have oD4:Own t4 (Z.y+3) (zL s'.free s'.row s'.used s'.day) 4:=by rw [ht4];exact oD3.put
  have oC4:Own t4 (Z.y+2) (zL s'.free s'.row s'.used s'.day) 4:=by rw [ht4];exact oC3.own (by omega)
  have oA4:Row t4 ⟨Z.y,0,none⟩ [.pointer (some ⟨Bp,0,none⟩)]:=by rw [ht4];exact oA3.own (by show Z.y≠_;omega)
  have N4:New Z.re t4:=by rw [ht4];exact N3.own (by show Z.y<=Z.y+3;omega)
  have p4:Row t4 ⟨Bp,0,none⟩ (zVJ w (some a) l c q m d leaves wfv bm):=hp.le ((le0 Z).trans N4.le);have st4:=stD (x:=s') oD3;rw [<- ht4] at st4;have x23:t3.y=t2.y:=by rw [ht3];rfl
  have x3:Z.y+5<=t3.y:=by omega
  have x4:t4.y=t3.y:=by rw [ht4];rfl
  have hBp:=hp.lt;have hBp':Bp<Z.y:=hBp;have u3:zB Pg t3 3 (zJ ⟨Bp,0,none⟩ 5)=some (iV w.j):=p3.load1 zU rfl;have u4:zB Pg t4 3 (zJ ⟨Bp,0,none⟩ 5)=some (iV w.j):=p4.load1 zU rfl;have v3:zB Pg t3 3 ⟨Z.y+2,2,none⟩=some (iV s'.used):=oC3.rw.ld zU rfl;have v4:zB Pg t4 3 ⟨Z.y+2,2,none⟩=some (iV s'.used):=oC4.rw.ld zU rfl;have w3:zB Pg t3 125 ⟨Z.y,0,none⟩=some (.pointer (some ⟨Bp,0,none⟩)):=oA3.ld uM rfl;have w4:zB Pg t4 125 ⟨Z.y,0,none⟩=some (.pointer (some ⟨Bp,0,none⟩)):=oA4.ld uM rfl;have em:zFI w k i s=decide (s'.used<=w.j):=by unfold zFI;rw [hall,hs'];rfl
  rw [em];have lC:zB Pg t3 107 ⟨Z.y+2,0,none⟩=some (.agg ⟨zL s'.free s'.row s'.used s'.day⟩):=oC3.ldN (k:=0) vP xG rfl rfl (by simp);have lD:zB Pg t4 107 ⟨Z.y+3,0,none⟩=some (.agg ⟨zL s'.free s'.row s'.used s'.day⟩):=oD4.ldN (k:=0) vP xG rfl rfl (by simp);have b1:∀ {x:Addr},x.block<t3.y->zF t3.y [.pointer (some x)]:=fun h=>zE (zP h) zI
  have b2:zF t3.y [.pointer (some ⟨Z.y+3,0,none⟩),.agg ⟨zL s'.free s'.row s'.used s'.day⟩]:=zE (zP (by show Z.y+3<_;omega)) (zE (yM rfl) zI);by_cases hu:s'.used<=w.j
  ·rw [decide_eq_true hu];exact ⟨s',(wAR ⟨l1,ly,kq,ca,q5,q6,q7,ck,st2,lC,v3,w3,u3,st4,(b1 (by show Z.y+2<_;omega)),(b1 (by show Z.y+2<_;omega)),(b1 (by show Z.y<_;omega)),(b1 (by show Bp<_;omega)),b2,⟨⟨by show Z.y+2<_;omega,rfl⟩,v3⟩,⟨⟨by show Z.y+2<_;omega,rfl⟩,v4⟩,⟨⟨by show Z.y<_;omega,rfl⟩,w3⟩,⟨⟨by show Z.y<_;omega,rfl⟩,w4⟩,⟨⟨by show Bp<_;omega,rfl⟩,u3⟩,⟨⟨by show Bp<_;omega,rfl⟩,u4⟩,lD⟩ ⟨rfl,N4.lw⟩ (by omega) hu).pure,fun _=>hs'⟩
  ·rw [decide_eq_false hu];exact ⟨s',(wAQ ⟨l1,ly,kq,ca,q5,q6,q7,ck,st2,lC,v3,w3,u3,st4,(b1 (by show Z.y+2<_;omega)),(b1 (by show Z.y+2<_;omega)),(b1 (by show Z.y<_;omega)),(b1 (by show Bp<_;omega)),b2,⟨⟨by show Z.y+2<_;omega,rfl⟩,v3⟩,⟨⟨by show Z.y+2<_;omega,rfl⟩,v4⟩,⟨⟨by show Z.y<_;omega,rfl⟩,w3⟩,⟨⟨by show Z.y<_;omega,rfl⟩,w4⟩,⟨⟨by show Bp<_;omega,rfl⟩,u3⟩,⟨⟨by show Bp<_;omega,rfl⟩,u4⟩,lD⟩ ⟨rfl,N4.lw⟩ (by omega) hu).pure,fun e=>by cases e⟩
end
end
section
variable {p:Option Addr} {l:Nat} {rs:List (List Int)}
def zRW (Z:St) (p:Option Addr) (l:Nat) (rs:List (List Int)):Prop:=∃ vs:List Value,SlV Pg Z 26 1 p l vs/\rs.length=l/\∀ (i:Nat) (r:List Int),rs[i]?=some r->∃ q c,vs[i]?=some (Value.slice q r.length c)/\yC Z q r.length r
section
variable {Z:St}
theorem zRW.le {Z':St} {p:Option Addr} {l:Nat} {rs:List (List Int)} (h:zRW Z p l rs) (k:Le Z Z'):zRW Z' p l rs:=by
 obtain ⟨vs,h1,h2,h3⟩:=h;exact ⟨vs,h1.le k,h2,fun i r hi=>by obtain ⟨q,c,g1,g2⟩:=h3 i r hi;exact ⟨q,c,g1,g2.le k⟩⟩
theorem zRW.len (h:zRW Z p l rs):rs.length=l:=h.choose_spec.2.1
theorem zRW.row {i:Nat} (h:zRW Z p l rs) (hi:i<l):∃ a,p=some a/\∃ r q c,rs[i]?=some r/\(∀ τ,Le Z τ->zB Pg τ 26 (zJ a (Int.toNat (i:Int)*1))=some (.slice q r.length c))/\yC Z q r.length r:=by
 obtain ⟨vs,h1,h2,h3⟩:=h;obtain ⟨a,rfl,_⟩:=h1.some hi;obtain ⟨q,c,g1,g2⟩:=h3 i rs[i] (by simp);exact ⟨a,rfl,rs[i],q,c,by simp,fun τ hτ=>(h1.le hτ).at rfl g1,g2⟩
theorem zXZ (zs:List Value):∀ N,(xA zs N).length=N*zs.length
 | 0=>by simp [xA]
 | N+1=>by simp [xA,zXZ zs N,Nat.add_mul];omega
theorem zUL {zs:List Value} (h:zs.all cellB=true):∀ N,(xA zs N).all cellB=true
 | 0=>by simp [xA]
 | N+1=>by simp only [xA,List.all_append,zUL h N,h,Bool.and_self]
theorem xRJ {α:Type} {f:α->Value} (hf:∀ x,(f x).cells.toList.all cellB=true) (r:List α):(wD (r.map f)).all cellB=true:=by
 induction r with
 | nil=>rfl
 | cons x r ih=>rw [List.map_cons,show f x::r.map f=[f x]++r.map f from rfl,zEU,List.all_append,ih,Bool.and_true];simpa [wD] using hf x

theorem xWN {N:Nat} (hN:N<=1073741824):∃ p c Z',zD Pg 120 [.slice none 0 0,iV (N:Int)] Z (.slice p 0 c) Z'/\New Z Z'/\Buf Z' Z.y 1 N p 0 c []:=by
 have k0:xM Pg (evL [.slice none 0 0]) Z.re (.call { callee:=.builtin .cap,args:=⟨wS 1⟩,argTypes:=⟨[26]⟩ })=some (iV 0):=by kernel_rfl
 suffices hmain:zO Pg 120 [.slice none 0 0,iV (N:Int)] Z.re fun v s=>New Z.re s/\∃ p c,v=.slice p 0 c/\Buf s Z.y 1 N p 0 c [] by
  obtain ⟨v,Z',h1,h2,p,c,rfl,h3⟩:=zO.new hmain (by rintro v s s' ⟨p,c,rfl,h⟩ hl;exact ⟨p,c,rfl,h.le hl⟩) (by
   rintro v s hr ⟨p,c,rfl,h⟩;refine ⟨p,c,rfl, ?_⟩
   rcases h with ⟨rfl,e1,_,e2,_⟩ | ⟨b,bc,rfl,_⟩
   ·exact .inl ⟨rfl,e1,rfl,e2,rfl⟩
   ·exact Bool.noConfusion (show false=true from hr))
  exact ⟨p,c,Z',h1,h2,h3⟩
 rcases Nat.eq_zero_or_pos N with h0 | h0
 ·subst h0;exact xQX k0 ⟨New.refl _,none,0,rfl,Buf.nil⟩
 have hz:∃ ei z,Pg.info? 3=some ei/\ei.zero=some z/\ei.bytes<=4096/\zW RD z=true/\Nat.beq z.cells.toList.length 1=true/\z.cells.toList=[iV 0]:=⟨_,_,rfl,rfl,by decide,rfl,rfl,rfl⟩;obtain ⟨ei,z,hei,hz,hby,hrz,hzl,hzz⟩:=hz;have hzc:(xA z.cells.toList N).length=N*1:=by rw [hzz];exact zXZ _ N
 have hcb:(xA z.cells.toList N).all cellB=true:=by rw [hzz];exact zUL rfl N
 have g:=xQW (P:=Pg) (Z:=Z.re) (st:=26) (xt:=3) (e:=3) (n:=1) (N:=N) (k:=.i64) (q:=.i64) (z:=z) (by kernel_rfl) (by kernel_rfl) hei hz hby hrz hzl (by omega) hN h0 hzc hcb;have o:Own (Z.re.row (xA z.cells.toList N) 1) Z.y (xA z.cells.toList N) 1:=zC _ _ _;have s3:vS Pg Z.re 26 (.slice none 0 0) none (some (iV 0)) none=some (.slice none 0 0):=by kernel_rfl
 obtain ⟨c6,s6,e6⟩:=yUU (P:=Pg) (t:=26) (e:=3) (N:=N) (c:=N+uB) (q:=.i64) (by kernel_rfl) (by kernel_rfl) o h0 (zAS N) (zFN N);exact xQY k0 k0 s3 (by simpa using g) (by simpa using s6) ⟨New.row _ _ _,some ⟨Z.y,0,none⟩,c6,rfl,.inr ⟨Z.y,_,rfl,e6,o,hzc,Nat.zero_le _,by simp,Nat.le_refl _,h0⟩⟩
theorem xWW {c:Nat} (h:zRW Z p l rs) (hl:l<=1073741824) (hN:rs.flatten.length<=1073741824) :
  ∃ p' c' Z',zD Pg 104 [.slice p l c] Z (.slice p' rs.flatten.length c') Z'/\New Z Z'/\yC Z' p' rs.flatten.length rs.flatten/\∀ b,AtP p' b->Z.y<=b:=by
 have hlen:=h.len;have h0:=h.le (le0 Z);have hsum:∀ s,((rs.take s).flatten).length<=rs.flatten.length:=fun s=>by
  have e:rs.flatten.length=((rs.take s).flatten).length+((rs.drop s).flatten).length:=by rw [<- List.length_append,<- List.flatten_append,List.take_append_drop]
  omega
 refine zO.newSl (xRZ (P0:=fun n τ=>τ=Z.re/\n=(rs.flatten.length:Int)) (yRX (Inv:=fun k n i τ=>∃ s:Nat,i=s/\s+k=l/\τ=Z.re/\n=(((rs.take s).flatten).length:Int)) ?_ l 0 0 Z.re ⟨0,rfl,by omega,rfl,by simp⟩) ?_)
 ·rintro k n i τ ⟨s,rfl,hk,rfl,rfl⟩;by_cases hs:s<l;rotate_left
  ·exact xJC ⟨rfl,by rw [List.take_of_length_le (by omega)]⟩ (by omega)
  obtain ⟨a,rfl,r,q,d,hr,ld,hq⟩:=h0.row hs;have e1:((rs.take (s+1)).flatten).length=((rs.take s).flatten).length+r.length:=by rw [wF hr];simp
  have:=hsum (s+1);exact xJD (ld _ (Le.refl _)) ⟨k-1,by omega,s+1,by omega,by omega,rfl,by rw [e1];omega⟩ (by omega) (by omega) (by omega) (by omega) (by omega)
 ·rintro n τ ⟨rfl,rfl⟩;obtain ⟨p1,c1,Z1,k1,n1,b1⟩:=xWN (Z:=Z.re) (N:=rs.flatten.length) hN;refine yRV k1 (P2:=fun p' l' c' τ=>l'=rs.flatten.length/\New Z.re τ/\Buf τ Z.y 1 rs.flatten.length p' l' c' (wD (rs.flatten.map yA))) (yRW (Inv:=fun k p' l' c' i τ=>∃ s:Nat,i=s/\s+k=l/\l'=((rs.take s).flatten).length/\New Z.re τ/\Buf τ Z.y 1 rs.flatten.length p' l' c' (wD (((rs.take s).flatten).map yA))) ?_ l p1 0 c1 0 Z1 ⟨0,rfl,by omega,rfl,n1,by simpa [wD] using b1⟩) ?_
  ·rintro k p' l' c' i τ ⟨s,rfl,hk,rfl,hNw,hb⟩;by_cases hs:s<l;rotate_left
   ·rw [List.take_of_length_le (by omega)] at hb ⊢;exact xJA ⟨rfl,hNw,hb⟩ (by omega)
   obtain ⟨a,rfl,r,q,d,hr,ld,hq⟩:=(h0.le hNw.le).row hs;have e1:((rs.take (s+1)).flatten).length=((rs.take s).flatten).length+r.length:=by rw [wF hr];simp
   have:=hsum (s+1);obtain ⟨τ2,g1,g2,g3,g4,g5⟩:=hb.push (P:=Pg) (st:=26) (xt:=26) (e:=3) (m:=r.length) (d:=d) (q:=q) (xs:=wD (r.map yA)) (zMV (by kernel_rfl)) hq.1 (by omega) hN (xRJ (fun _=>rfl) r);have N2:New Z.re τ2:=hNw.of_only g3 (fun b hbb=>(hb.bd b hbb).1);refine xJB (ld _ (Le.refl _)) g1 ⟨k-1,by omega,s+1,by omega,by omega,by rw [e1],N2, ?_⟩ (by omega);rw [wF hr,List.flatten_append,List.map_append,zEU];simpa using g2
  ·rintro p' l' c' τ ⟨rfl,hNw,hb⟩;exact yRU ⟨hNw,p',c',rfl,hb.slv (List.length_map _) (by intro v hv;obtain ⟨x,_,rfl⟩:=List.mem_map.1 hv;exact vY x),fun b hbb=>(hb.bd b hbb).1⟩
end
end
section
variable {Z τ:St} {w:Wk} {p q t:Option Addr} {l m c d tc:Nat} {rv:Value} {X:Nat->Prop} {f:Nat->Std} {A:List Bch} {ts:List Int}
theorem xEW {lo B3 bq k i:Nat} {wl:List Value} {qc qd:Nat} (ht:yC Z t l ts) (hk:k<6) (hi:i<l) (hs:StOk (f k)) (hx:DtOk (dtQ w i)) (hu:-1000000<=zY ts i/\zY ts i<=1000000)
  (hJ:J Z wl rv (.slice t l tc) X f A τ) (hB:Row τ ⟨B3,0,none⟩ (zG (dtQ w i).day (dtQ w i).on (dtQ w i).lo (dtQ w i).hi (dtQ w i).route)) (hX4:¬ X (Z.y+4)) {Qn:St->Prop}
  (hQ:∀ z,J Z wl rv (.slice t l tc) X (upd f k (take (f k) (dtQ w i) (zY ts i))) A z->Only (fun x=>¬ X x) τ z->Qn z) :
  zLB lo Z.y (Z.y+2) (Z.y+3) (Z.y+4) (i:Int) B3 (k:Int) (some ⟨bq,0,none⟩) qc qd τ Qn:=by
 have L:Le Z τ:=(le0 Z).trans hJ.new.le;obtain ⟨a,rfl,x,hxi,l4⟩:=xZ (SlV.le ht L) hi;have gx:zY ts i=x:=yN hxi;rw [gx] at hu hQ;have l3:zB Tryz.prog τ 26 ⟨Z.y+2,0,none⟩=some (.slice (some a) l tc):=hJ.tr.ld yT rfl;have lb:zB Tryz.prog τ 85 ⟨B3,0,none⟩=some (uK (dtQ w i)):=hB.ldN (k:=0) zNU uD (ds:=zG (dtQ w i).day (dtQ w i).on (dtQ w i).lo (dtQ w i).hi (dtQ w i).route) rfl rfl (by simp);obtain ⟨g1,g2,g3⟩:=hJ.take hk (take (f k) (dtQ w i) x) hX4;exact yMC (yJL hJ.nw hk) lb l3 l4 (yJK hs hx hu) g1 (hQ _ g2 g3) (by omega) (by omega)
end
section
variable {n0 n t len c l m d a1 a2 D:Nat} {z z':St} {p q:Option Addr} {vs:List Value} {w:Wk}
structure Same (n0:Nat) (z z':St):Prop where
 y:z.y<=z'.y
 get:∀ y,y<z.y->(∀ tm ps a b st pend db,yJ z.heap y≠some (.loop tm ps a b st pend db))->yJ z'.heap y=yJ z.heap y
 old:∀ y,y<n0->yJ z'.heap y=yJ z.heap y
theorem Same.own {b:Nat} {cs:List Value} (h:Same n0 z z') (k:Own z b cs n):Own z' b cs n:=k.at_ (h.get b k.lt (fun _ _ _ _ _ _ _ e=>by rw [k.get] at e;cases e)) h.y
theorem Same.of_le (h:Le z z') (hn:n0<=z.y):Same n0 z z':=⟨h.y,fun y hy _=>h.get y hy,fun y hy=>h.get y (by omega)⟩
theorem Same.rw {n0:Nat} {z z':St} {a:Addr} {cs:List Value} (h:Same n0 z z') (k:Row z a cs):Row z' a cs:=by
 refine ⟨?_,Nat.lt_of_lt_of_le k.lt h.y⟩
 have:=k.rd;unfold yU at this ⊢;rw [h.get a.block k.lt (fun tm ps x y st pend db e=>by rw [e] at this;simp at this)];exact this
theorem Same.slv (h:Same n0 z z') (k:SlV Pg z t n p len vs):SlV Pg z' t n p len vs:=by
 refine ⟨⟨k.1.1, ?_⟩,k.2⟩
 cases p with
 | none=>exact k.1.2
 | some a=>exact h.rw k.1.2
theorem Same.gr {m0:Nat} (h:Same n0 z z') (k:Gr Pg z m0 t n p len c vs):Gr Pg z' m0 t n p len c vs:=by
 have key:∀ {v:Value} {cs:List Value},App z m0 n v len cs->App z' m0 n v len cs:=by
  intro v cs ka;cases ka with
  | nil=>exact .nil
  | more g1 g2 g3 g4 g5 g6 g7=>exact .more (by rw [h.get _ g4 (fun _ _ _ _ _ _ _ e=>by rw [g1] at e;cases e)];exact g1) g2 g3 (Nat.lt_of_lt_of_le g4 h.y) g5 g6 g7
 exact ⟨key k.app,k.len_eq,k.el⟩
abbrev wDF (x:Dty):List Value:=zG x.day x.on x.lo x.hi x.route
abbrev yJE (z:St) (x:Dty):St:=(z.row (zG 0 0 0 0 0) 5).own z.y (wDF x) 5
theorem zWZ (z:St) (x:Dty):Le z (yJE z x):=(Le.row z (zG 0 0 0 0 0) 5).own (Nat.le_refl _)
theorem xVY {Z:St} {lo:Nat} (r1:Row Z ⟨a1,0,none⟩ (wkc w.M p l c q m d w.rest w.run w.j)) (hl:l<=100000) {K:Nat->St->Prop} (h0:K 0 Z)
  (hT:∀ s z,K s z->Row z ⟨a2,0,none⟩ [yA D]/\yDO z 85 p l w.N) (hJ:∀ s z,s<l->K s z->if (dtQ w s).day=(D:Int) then ∃ z',xBS Pg lo [iV (s:Int),uK (dtQ w s)] (yJE z (dtQ w s)) (.bool true) z'/\K (s+1) z' else K (s+1) (yJE z (dtQ w s))) :
  zO Pg 91 [.func (.yield lo) ⟨[]⟩ ⟨[]⟩,.pointer (some ⟨a1,0,none⟩),.pointer (some ⟨a2,0,none⟩)] Z fun v s=>v=.tuple ⟨[]⟩/\K l s:=by
 have hn:w.N.length=l:=by have:=(hT 0 Z h0).2.2.1;simpa using this
 refine wAK (Pr:=fun _=>False) (P0:=fun τ=>K l τ) (r1.load1 uU (k:=1) rfl)
  (xHT (Inv:=fun k i τ=>∃ s:Nat,i=s/\s+k=l/\K s τ) (Qr:=fun _=>False) (Q0:=fun τ=>K l τ) ?_ l 0 Z ⟨0,rfl,by omega,h0⟩) (fun _ h=>h.elim) (fun τ h=>xHS ⟨rfl,h⟩)
 rintro k i τ ⟨s,rfl,hk,hj⟩;by_cases hs:s<l;rotate_left
 ·have:s=l:=by omega
  subst this;exact xVV hj (by omega)
 obtain ⟨ra,hd⟩:=hT s τ hj;obtain ⟨a,rfl,x,hx,lx⟩:=xZ hd hs;have ex:x=dtQ w s:=by
  unfold dtQ;rw [List.getD_eq_getElem?_getD,hx];rfl
 subst ex;have l2:zB Pg (yJE τ (dtQ w s)) 3 ⟨a2,0,none⟩=some (iV (D:Int)):=(ra.le (zWZ τ (dtQ w s))).ld zU rfl;have h:=hJ s τ hs hj;by_cases ht:(dtQ w s).day=(D:Int)
 ·rw [if_pos ht] at h;obtain ⟨τ',h1,h2⟩:=h;exact xVX lx l2 h1 ⟨k-1,by omega,s+1,by omega,by omega,h2⟩ (by omega) (by omega) ht (by omega)
 ·rw [if_neg ht] at h;exact xVW lx l2 ⟨k-1,by omega,s+1,by omega,by omega,h⟩ (by omega) (by omega) ht (by omega)
theorem zVY {zf:St->Dty->St} (hzf:∀ (z:St) (x:Dty),Le z (zf z x)) (hzl:∀ (z:St) (x:Dty),z.y<=(zf z.re x).low) {w:Wk} {pp q:Option Addr} {l m c d D:Nat} {gx:Operand} {ps:Array Tmp} {a b:Code} {n:Nat} {l0:List (Nat × Value)} {Qn:St->Prop} {τ:St} {a1 a2 n0:Nat} {J:Nat->St->Prop}
  (hg:∀ g0,yG (Fm n (ov l0 g0)) gx=.func (.func 91) ⟨[]⟩ ⟨[.pointer (some ⟨a1,0,none⟩),.pointer (some ⟨a2,0,none⟩)]⟩) (r1:Row τ ⟨a1,0,none⟩ (wkc w.M pp l c q m d w.rest w.run w.j)) (hl:l<=100000) (hn0:n0<=τ.y)
  (hT:∀ s z,J s z->Row z ⟨a2,0,none⟩ [yA D]/\yDO z 85 pp l w.N) (h0:J 0 τ) (hJ:∀ s z z',J s z->Same n0 z z'->J s z') (hskip:∀ s z,s<l->(dtQ w s).day≠(D:Int)->J s z->J (s+1) z)
  (hR:∀ s z z1 lo g0 db,s<l->(dtQ w s).day=(D:Int)->lo=τ.y+1->yJ z.heap lo=some (.loop (Fm n (ov l0 g0)) ps.toList a b .ready none db)->z1=(zf z.re (dtQ w s)).put lo (.loop (Fm n (ov l0 g0)) ps.toList a b .busy none db)->J s z->τ.y+2<=z.y ->
   ∃ z4,zFO Pg lo [iV (s:Int),uK (dtQ w s)] z (Fm n (ov l0 g0)) ps.toList a b db [⟨Unit,.normal,fun _=>[],fun _=>[],fun _ z=>z=z4⟩]/\J (s+1) z4/\∃ S,Only S z1 z4/\∀ y,S y->n0<=y/\y≠τ.y/\y≠τ.y+1)
  (hQ:∀ z,J l z->yJ z.heap τ.y=some .defd->τ.y<z.y->(∀ m,m<=n0->m<=τ.low->m<=z.low)->Qn z):zUH Pg (zV Pg) gx ps a b n l0 [(.normal,Qn)] τ:=by
 refine xFS (fs:=[.pointer (some ⟨a1,0,none⟩),.pointer (some ⟨a2,0,none⟩)]) (f:=91) hg (fun g0=>?_);obtain ⟨τa,hτa⟩:∃ τa,τa=(τ.add .defd).add (.loop (Fm n (ov l0 g0)) ps.toList a b .ready none τ.y):=⟨_,rfl⟩;have hN:New τ τa:=by rw [hτa];exact (New.add _ _).trans (New.add _ _)
 have nxa:τa.y=τ.y+2:=by rw [hτa];rfl
 have Ld:yJ τa.heap τ.y=some .defd:=by rw [hτa,St.add_get,if_neg (by simp),St.add_get,if_pos rfl]
 have Ll:yJ τa.heap (τ.y+1)=some (.loop (Fm n (ov l0 g0)) ps.toList a b .ready none τ.y):=by rw [hτa,St.add_get,if_pos (by simp)]
 have sm_re:∀ z:St,Same n0 z z.re:=fun z=>⟨Nat.le_refl _,fun _ _ _=>rfl,fun _ _=>rfl⟩
 let K:Nat->St->Prop:=fun s z=>J s z/\yJ z.heap τ.y=some .defd/\yJ z.heap (τ.y+1)=some (.loop (Fm n (ov l0 g0)) ps.toList a b .ready none τ.y)/\τa.y<=z.y/\n0<=z.low/\((J s τa.re/\New τa.re z)\/z.low<=τ.y+1)
 have J0:J 0 τa.re:=hJ _ _ _ (hJ _ _ _ h0 (Same.of_le hN.le hn0)) (sm_re τa);have hrun:zO Pg 91 [.func (.yield (τ.y+1)) ⟨[]⟩ ⟨[]⟩,.pointer (some ⟨a1,0,none⟩),.pointer (some ⟨a2,0,none⟩)] τa.re fun v s=>v=.tuple ⟨[]⟩/\K l s:=by
  refine xVY (w:=w) (p:=pp) (D:=D) ((r1.le hN.le).le (le0 _)) hl (K:=K) ⟨J0,Ld,Ll,Nat.le_refl _,by show n0<=τa.y;omega,.inl ⟨J0,New.refl _⟩⟩ (fun s z h=>hT s z h.1) ?_
  rintro s z hs ⟨j1,j2,j3,j4,j5,j6⟩;have zl:=zWZ z (dtQ w s);have zn:New z (yJE z (dtQ w s)):=(New.row z (zG 0 0 0 0 0) 5).own (Nat.le_refl _);have kz:K s (yJE z (dtQ w s)):=⟨hJ _ _ _ j1 (Same.of_le zl (by omega)),by rw [zl.get _ (by omega)];exact j2,by rw [zl.get _ (by omega)];exact j3,by have:=zl.y;omega,zn.low _ j5 (by omega),j6.imp (fun h=>⟨h.1,h.2.trans zn⟩) (fun h=>Nat.le_trans (Nat.min_le_left _ _) h)⟩;by_cases ht:(dtQ w s).day=(D:Int);rotate_left
  ·rw [if_neg ht];obtain ⟨k1,k2,k3,k4,k5,k6⟩:=kz;exact ⟨hskip s _ hs ht k1,k2,k3,k4,k5,k6.imp (fun h=>⟨hskip s _ hs ht h.1,h.2⟩) id⟩
  rw [if_pos ht];obtain ⟨j1,j2,j3,j4,j5,j6⟩:=kz;obtain ⟨z,hz⟩:∃ z',z'=yJE z (dtQ w s):=⟨_,rfl⟩;rw [<- hz] at j1 j2 j3 j4 j5 j6 ⊢;obtain ⟨z1,hz1⟩:∃ z1,z1=(zf z.re (dtQ w s)).put (τ.y+1) (.loop (Fm n (ov l0 g0)) ps.toList a b .busy none τ.y):=⟨_,rfl⟩;have zl1:=hzf z.re (dtQ w s);have s0:Same n0 z (zf z.re (dtQ w s)):=⟨zl1.y,fun y hy _=>zl1.get y hy,fun y hy=>zl1.get y (by show y<z.y;omega)⟩;have j3':yJ (zf z.re (dtQ w s)).heap (τ.y+1)=some (.loop (Fm n (ov l0 g0)) ps.toList a b .ready none τ.y):=by rw [zl1.get _ (by show _<z.y;omega)];exact j3
  have s1:Same n0 z z1:=⟨by rw [hz1];exact zl1.y,fun y hy hne=>by
   rw [hz1,St.put_get,if_neg (fun e=>by subst e;exact hne _ _ _ _ _ _ _ j3)];exact zl1.get y hy,fun y hy=>by rw [hz1,St.put_get,if_neg (by omega)];exact zl1.get y (by show y<z.y;omega)⟩
  have nx1:z.y<=z1.y:=by rw [hz1];exact zl1.y
  have L1:yJ z1.heap (τ.y+1)=some (.loop (Fm n (ov l0 g0)) ps.toList a b .busy none τ.y):=by rw [hz1,St.put_get,if_pos rfl]
  have D1:yJ z1.heap τ.y=some .defd:=by rw [hz1,St.put_get,if_neg (by omega),zl1.get _ (by show _<z.y;omega)];exact j2
  obtain ⟨z4,hr,k1,S,k2,k3⟩:=hR s z z1 (τ.y+1) g0 τ.y hs ht rfl j3 hz1 j1 (by omega);have L4:yJ z4.heap (τ.y+1)=some (.loop (Fm n (ov l0 g0)) ps.toList a b .busy none τ.y):=by
   rw [k2.get _ (by omega) (fun h=>(k3 _ h).2.2 rfl)];exact L1
  have D4:yJ z4.heap τ.y=some .defd:=by
   rw [k2.get _ (by omega) (fun h=>(k3 _ h).2.1 rfl)];exact D1
  have n4:=k2.y;obtain ⟨e,z',⟨al,hal,rfl,t,hq⟩,hc⟩:=hr;simp only [In,or_false] at hal;subst hal;have hq:z'=z4:=hq;subst hq;have hcy:=hc (.inl rfl) (by omega) L4 (by omega);have hlow:n0<=z'.low:=k2.low n0 (by have:=hzl z (dtQ w s);rw [hz1];show n0<=min (zf z.re (dtQ w s)).low (τ.y+1);omega) (by omega) (fun y _ hy=>(k3 y hy).1);refine ⟨_,hcy,hJ _ _ _ k1 ⟨Nat.le_refl _,fun y hy hne=>?_,fun y hy=>?_⟩, ?_, ?_, ?_, ?_,.inr ?_⟩
  ·show yJ (z'.put _ _).heap y=_;rw [St.put_get,if_neg (fun e=>by subst e;exact hne _ _ _ _ _ _ _ L4)]
  ·show yJ (z'.put _ _).heap y=_;rw [St.put_get,if_neg (by omega)]
  ·show yJ (z'.put _ _).heap _=_;rw [St.put_get,if_neg (by omega)];exact D4
  ·show yJ (z'.put _ _).heap _=_;rw [St.put_get,if_pos rfl];rfl
  ·show τa.y<=z'.y;omega
  ·show n0<=min _ _;omega
  ·show min _ _<=_;omega
 obtain ⟨v,s,h1,rfl,j1,j2,j3,j4,j5,j6⟩:=hrun;have fin:∀ u z:St,J l u->yJ u.heap τ.y=some .defd->yJ u.heap (τ.y+1)=some (.loop (Fm n (ov l0 g0)) ps.toList a b .ready none τ.y)->τa.y<=u.y->z.heap=u.heap->z.y=u.y->(∀ m,m<=n0->m<=τ.low->m<=z.low)->yTL [(.normal,Qn)] (xRN none) (z.put (τ.y+1) (.loop (Fm n (ov l0 g0)) ps.toList a b .exhausted none τ.y)):=by
  intro u z i1 i2 i3 i4 e1 e2 e3;refine .inl ⟨rfl,hQ _ (hJ _ _ _ i1 ⟨by show u.y<=z.y;omega,fun y hy hne=>?_,fun y hy=>?_⟩) ?_ (by show τ.y<z.y;omega) (fun m h1 h2=>?_)⟩
  ·rw [St.put_get,if_neg (fun e=>by subst e;exact hne _ _ _ _ _ _ _ i3),e1]
  ·rw [St.put_get,if_neg (by omega),e1]
  ·rw [St.put_get,if_neg (by omega),e1];exact i2
  ·have:=e3 m h1 h2;show m<=min _ _;omega
 by_cases hlw:s.low<=τ.y+1
 ·refine ⟨_,⟨s.heap,s.y,min τa.low s.low⟩,.ready,none,by rw [<- hτa];exact xYY h1 j4 (by omega),j3,.inl ⟨rfl,rfl⟩,fin s _ j1 j2 j3 j4 rfl rfl (fun m h1 h2=>?_)⟩
  have:=hN.low m h2 (by omega);show m<=min _ _;omega
 ·rcases j6 with ⟨g1,g2⟩ | e;rotate_left
  ·exact absurd e hlw
  refine ⟨_,τa,.ready,none,by rw [<- hτa];exact zSI h1 (by omega) rfl,Ll,.inl ⟨rfl,rfl⟩,fin τa.re τa g1 Ld Ll (Nat.le_refl _) rfl rfl (fun m h1 h2=>hN.low m h2 (by omega))⟩
theorem yZK {pp:Option Addr} {gx:Operand} {ps:Array Tmp} {a b:Code} {l0:List (Nat × Value)} {Qn:St->Prop} {τ:St} {J:Nat->St->Prop}
  (hg:∀ g0,yG (Fm n (ov l0 g0)) gx=.func (.func 91) ⟨[]⟩ ⟨[.pointer (some ⟨a1,0,none⟩),.pointer (some ⟨a2,0,none⟩)]⟩) (r1:Row τ ⟨a1,0,none⟩ (wkc w.M pp l c q m d w.rest w.run w.j)) (hl:l<=100000) (hn0:n0<=τ.y)
  (hT:∀ s z,J s z->Row z ⟨a2,0,none⟩ [yA D]/\yDO z 85 pp l w.N) (h0:J 0 τ) (hJ:∀ s z z',J s z->Same n0 z z'->J s z') (hskip:∀ s z,s<l->(dtQ w s).day≠(D:Int)->J s z->J (s+1) z)
  (hR:∀ s z z1 lo g0 db,s<l->(dtQ w s).day=(D:Int)->lo=τ.y+1->yJ z.heap lo=some (.loop (Fm n (ov l0 g0)) ps.toList a b .ready none db)->z1=(yJE z.re (dtQ w s)).put lo (.loop (Fm n (ov l0 g0)) ps.toList a b .busy none db)->J s z->τ.y+2<=z.y ->
   ∃ z4,zFO Pg lo [iV (s:Int),uK (dtQ w s)] z (Fm n (ov l0 g0)) ps.toList a b db [⟨Unit,.normal,fun _=>[],fun _=>[],fun _ z=>z=z4⟩]/\J (s+1) z4/\∃ S,Only S z1 z4/\∀ y,S y->n0<=y/\y≠τ.y/\y≠τ.y+1)
  (hQ:∀ z,J l z->yJ z.heap τ.y=some .defd->τ.y<z.y->(∀ m,m<=n0->m<=τ.low->m<=z.low)->Qn z):zUH Pg (zV Pg) gx ps a b n l0 [(.normal,Qn)] τ :=
 zVY zWZ (fun z x=>by show z.y<=min z.y z.y;omega) hg r1 hl hn0 hT h0 hJ hskip hR hQ
end
section
variable {s:Std} {n k D j:Nat}
section
variable {w:Wk} {ros tru:Nat->Int} {l m:Nat}
structure StB (s:Std) (n:Nat):Prop where
 free:-10080<=s.free/\s.free<=100000
 day:-1<=s.day/\s.day<=6
 row:0<=s.row/\s.row<=15+s.day
 used:0<=s.used/\s.used<=20000+1440*n
theorem StB.ok (h:StB s n) (hn:n<=200):StOk s:=by
 have h1:=h.free;have h2:=h.day;have h3:=h.row;have h4:=h.used;exact ⟨by omega,by omega,by omega,by omega⟩
theorem StB.mono {n':Nat} (h:StB s n) (hn:n<=n'):StB s n':=⟨h.free,h.day,h.row,by have:=h.used;omega⟩
theorem StB.take {s:Std} {x:Dty} {e:Int} {n:Nat} (h:StB s n) (hx:0<=x.day/\x.day<=6) (he:x.on<=e/\e<=x.on+1440) (ho:0<=x.on/\x.on<=1439) (hd:s.day<=x.day):StB (take s x e) (n+1):=by
 have h1:=h.free;have h2:=h.day;have h3:=h.row;have h4:=h.used;unfold Go.Proofs.YtgfiniccfpfplaaGreat.take;by_cases e1:s.day=x.day
 ·rw [if_pos e1];exact ⟨h1,h2,h3,by simp only;omega⟩
 ·rw [if_neg e1];refine ⟨by simp only;omega,⟨by simp only;omega,hx.2⟩, ?_,by simp only;omega⟩
  simp only;by_cases e2:s.day=x.day-1
  ·rw [if_pos e2];omega
  ·rw [if_neg e2];omega
theorem yDW:(xJ w ros tru k D j).day<=(D:Int):=by
 obtain ⟨h1,h2⟩:=zYQ (w:=w) (ros:=ros) (tru:=tru) (k:=k) (D:=D) (j:=j);by_cases e:onL w ros k D j=[]
 ·rw [h2 e,(zLT (w:=w) (ros:=ros) (tru:=tru) (k:=k) (D:=D)).2.2];have:=zGH (w:=w) (ros:=ros) (k:=k) (D:=D);omega
 ·rw [h1.2 e];exact Int.le_refl _
theorem xLR (hs:Sane w l m) (hl:w.N.length=l) (ht:∀ i,i<l->(dtQ w i).on<=tru i/\tru i<=(dtQ w i).on+1440) {k:Nat} (hk:k<m):∀ {D j:Nat},j<=l->StB (xJ w ros tru k D j) (D*l+j):=by
 have step:∀ {D j:Nat},j<l->StB (xJ w ros tru k D j) (D*l+j)->StB (xJ w ros tru k D (j+1)) (D*l+(j+1)):=by
  intro D j hj h;rw [uY];split
  ·rename_i hh;unfold his at hh;simp only [Bool.and_eq_true,decide_eq_true_eq] at hh;have hd:=hs.duty j hj;have:=yDW (w:=w) (ros:=ros) (tru:=tru) (k:=k) (D:=D) (j:=j);exact h.take ⟨hd.1,hd.2.1⟩ (ht j hj) ⟨hd.2.2.1,hd.2.2.2.1⟩ (by omega)
  ·exact h.mono (by omega)
 have day:∀ {D:Nat},StB (xJ w ros tru k D 0) (D*l+0)->∀ {j:Nat},j<=l->StB (xJ w ros tru k D j) (D*l+j):=by
  intro D h0 j;induction j with
  | zero=>intro _;exact h0
  | succ j ih=>intro hj;exact step (by omega) (ih (by omega))
 intro D;induction D with
 | zero =>
  intro j hj;refine day ?_ hj;have:=hs.dr k hk;show StB (before (drQ w k)) _;exact ⟨⟨this.1,by show (drQ w k).off<=_;omega⟩,⟨Int.le_refl _,by show (-1:Int)<=6;omega⟩,⟨this.2.2.1,by show (drQ w k).row<=15+(-1:Int);omega⟩,⟨this.2.2.2.2.1,by show (drQ w k).used<=_;omega⟩⟩
 | succ D ih =>
  intro j hj;refine day ?_ hj;have h:=ih (Nat.le_refl l);have e:xJ w ros tru k (D+1) 0=xJ w ros tru k D l:=by
   rw [<- hl];rfl
  rw [e,Nat.add_mul,Nat.one_mul];exact h
def stF (w:Wk) (ros tru:Nat->Int) (m D j:Nat):Nat->Std:=fun k=>if k<m then xJ w ros tru k D j else zWS
theorem xLY:stF w ros tru m (D+1) 0=stF w ros tru m D w.N.length:=rfl
theorem yNP (h:¬ ((dtQ w j).day=(D:Int)/\0<=ros j)):stF w ros tru m D (j+1)=stF w ros tru m D j:=by
 funext k;unfold stF;split
 ·rw [uY,if_neg];unfold his;simp only [Bool.and_eq_true,decide_eq_true_eq];rintro ⟨h1,h2⟩;exact h ⟨h2,by omega⟩
 ·rfl
theorem xLX (hk:k<m) (hd:(dtQ w j).day=(D:Int)) (hr:ros j=(k:Int)):stF w ros tru m D (j+1)=upd (stF w ros tru m D j) k (take (stF w ros tru m D j k) (dtQ w j) (tru j)):=by
 funext i;unfold stF upd;by_cases e:i=k
 ·subst e;rw [if_pos hk,if_pos rfl,if_pos hk,uY,if_pos (by unfold his;simp [hd,hr])];rfl
 ·rw [if_neg e];show (if i<m then xJ w ros tru i D (j+1) else zWS)=if i<m then xJ w ros tru i D j else zWS;have e2:xJ w ros tru i D (j+1)=xJ w ros tru i D j:=by rw [uY,if_neg (by unfold his;simp [hd,hr];omega)]
  rw [e2]
theorem yIH (h:¬ ((dtQ w j).day=(D:Int)/\ros j≠-1)):zEF w ros tru D (j+1)=zEF w ros tru D j:=by
 rw [yZN];split
 ·rename_i hd;have:ros j=-1:=Decidable.not_not.1 fun e=>h ⟨hd,e⟩
  unfold zNQ;rw [if_pos this,List.append_nil]
 ·rw [List.append_nil]
theorem xIX (hk:k<m) (hd:(dtQ w j).day=(D:Int)) (hr:ros j=(k:Int)):zEF w ros tru D (j+1)=zEF w ros tru D j++zNR w k j (stF w ros tru m D j k) 5:=by
 rw [yZN,if_pos hd];congr 1;unfold zNQ zNR stF;rw [if_neg (by omega),if_pos hk,show (ros j).toNat=k by omega]
end
end
structure JL (Z:St) (wl:List Value) (rv tv:Value) (X:Nat->Prop) (f:Nat->Std) (A:List Bch) (τ:St):Prop where
 le:Le Z.re τ
 wk:Row τ ⟨Z.y,0,none⟩ wl
 ro:Row τ ⟨Z.y+1,0,none⟩ [rv]
 tr:Row τ ⟨Z.y+2,0,none⟩ [tv]
 nw:Own τ (Z.y+4) (stL f) 4
 out:∃ po co,Own τ (Z.y+3) [.slice po A.length co] 1/\Gr Tryz.prog τ (Z.y+5) 45 3 po A.length co (A.map zRR)/\∀ b,AtP po b->¬ X b
section
variable {Z τ τ':St} {wl:List Value} {rv tv:Value} {X:Nat->Prop} {f:Nat->Std} {A:List Bch}
theorem J.dn (h:J Z wl rv tv X f A τ):JL Z wl rv tv X f A τ:=⟨h.new.le,h.wk,h.ro,h.tr,h.nw,h.out⟩
theorem JL.up (h:JL Z wl rv tv X f A τ) (hl:Z.y<=τ.low):J Z wl rv tv X f A τ:=⟨⟨h.le,fun m _ h2=>Nat.le_trans h2 hl⟩,h.wk,h.ro,h.tr,h.nw,h.out⟩
theorem JL.mono {Y:Nat->Prop} (h:JL Z wl rv tv X f A τ) (k:∀ b,b<τ.y->Z.y+5<=b->Y b->X b):JL Z wl rv tv Y f A τ:=by
 obtain ⟨po,co,h1,h2,h3⟩:=h.out;exact ⟨h.le,h.wk,h.ro,h.tr,h.nw,po,co,h1,h2,fun b hb hy=>h3 b hb (k b (h2.bd hb).2 (h2.bd hb).1 hy)⟩
theorem JL.same {n0:Nat} (h:JL Z wl rv tv X f A τ) (k:Same n0 τ τ') (hn:Z.y<=n0):JL Z wl rv tv X f A τ':=by
 obtain ⟨po,co,h1,h2,h3⟩:=h.out;exact ⟨⟨Nat.le_trans h.le.y k.y,fun b hb=>(k.old b (Nat.lt_of_lt_of_le hb hn)).trans (h.le.get b hb)⟩,k.rw h.wk,k.rw h.ro,k.rw h.tr,k.own h.nw,po,co,k.own h1,k.gr h2,h3⟩
theorem yVE {lo:Nat} {args:List Value} {z:St} {tm:Tm} {ps:List Tmp} {a b:Code} {db:Nat} {Q:St->Prop} (h:zFO Tryz.prog lo args z tm ps a b db [⟨Unit,.normal,fun _=>[],fun _=>[],fun _ z=>Q z⟩]):∃ z4,Q z4/\zFO Tryz.prog lo args z tm ps a b db [⟨Unit,.normal,fun _=>[],fun _=>[],fun _ z=>z=z4⟩]:=by
 obtain ⟨e,z',⟨al,hal,rfl,t,hq⟩,hc⟩:=h;simp only [In,or_false] at hal;subst hal;exact ⟨z',hq,_,z',⟨_,.inl rfl,rfl,(),rfl⟩,hc⟩
variable {w:Wk} {p q r t:Option Addr} {l m c d rc tc D:Nat} {rs ts:List Int}
theorem xWV {wd i19:Int} {a1 a2:Nat} (h:WkP Z 85 88 w p l q m) (hs:Sane w l m) (hsh:zAD w) (hr:yC Z r l rs) (ht:yC Z t l ts) (hro:∀ i,i<l->-1<=zY rs i/\zY rs i<(m:Int))
  (hts:∀ i,i<l->(dtQ w i).on<=zY ts i/\zY ts i<=(dtQ w i).on+1440) (hA:∀ j,j<=l->(zCL w (zY rs) (zY ts) D++zEF w (zY rs) (zY ts) D j).length<=450) (hD:D<=6)
  (r1:Row τ ⟨a1,0,none⟩ (wkc w.M p l c q m d w.rest w.run w.j)) (r2:Row τ ⟨a2,0,none⟩ [yA D]) (ha2:Z.y+5<=a2) {ms:List Nat} (hms:∀ y∈ms,yJ τ.heap y=some .defd/\Z.y+5<=y/\y<τ.y)
  (hJ:J Z (wkc w.M p l c q m d w.rest w.run w.j) (.slice r l rc) (.slice t l tc) (fun x=>x=a2\/x∈ms) (stF w (zY rs) (zY ts) m D 0) (zCL w (zY rs) (zY ts) D) τ) {Qn:St->Prop}
  (hQ:∀ z,JL Z (wkc w.M p l c q m d w.rest w.run w.j) (.slice r l rc) (.slice t l tc) (fun x=>x∈τ.y::ms) (stF w (zY rs) (zY ts) m (D+1) 0) (zCL w (zY rs) (zY ts) (D+1)) z->(∀ y∈τ.y::ms,yJ z.heap y=some .defd)->τ.y<z.y->Z.y<=z.low->Qn z) :
  yIO Z.y (Z.y+1) (Z.y+2) (Z.y+3) (Z.y+4) wd i19 91 [.pointer (some ⟨a1,0,none⟩),.pointer (some ⟨a2,0,none⟩)] τ Qn:=by
 have hn:=h.len.1;have hm6:=hs.m6;have hl12:=hs.l12;have hτ5:Z.y+5<=τ.y:=by have:=hJ.nw.lt;omega
 obtain ⟨X,hX⟩:∃ X:Nat->Prop,X=fun x=>x<Z.y\/x=a2\/x=τ.y\/x=τ.y+1\/x∈ms:=⟨_,rfl⟩
 have hX3:¬ X (Z.y+3):=by
  rw [hX];rintro (g | g | g | g | g)
  ·omega
  ·omega
  ·omega
  ·omega
  ·have:=(hms _ g).2.1;omega
 have hX4:¬ X (Z.y+4):=by
  rw [hX];rintro (g | g | g | g | g)
  ·omega
  ·omega
  ·omega
  ·omega
  ·have:=(hms _ g).2.1;omega
 refine yZK (w:=w) (pp:=p) (q:=q) (l:=l) (m:=m) (c:=c) (d:=d) (D:=D) (a1:=a1) (a2:=a2) (n0:=Z.y) (J:=fun s z=>JL Z (wkc w.M p l c q m d w.rest w.run w.j) (.slice r l rc) (.slice t l tc) X (stF w (zY rs) (zY ts) m D s) (zCL w (zY rs) (zY ts) D++zEF w (zY rs) (zY ts) D s) z/\Row z ⟨a2,0,none⟩ [yA D]/\(∀ y∈ms,yJ z.heap y=some .defd)/\τ.y<=z.y)
  (fun g0=>rfl) r1 (by omega) (by omega) (fun s z hz=>⟨hz.2.1,SlV.le h.dty ((le0 Z).trans hz.1.le)⟩) ⟨?_,r2,fun y hy=>(hms y hy).1,Nat.le_refl _⟩ (fun s z z' hz hk=>⟨hz.1.same hk (Nat.le_refl _),hk.rw hz.2.1,fun y hy=>by rw [hk.get y (by have:=(hms y hy).2.2;have:=hz.2.2.2;omega) (fun _ _ _ _ _ _ _ e=>by rw [hz.2.2.1 y hy] at e;cases e)];exact hz.2.2.1 y hy,Nat.le_trans hz.2.2.2 hk.y⟩) ?_ ?_ ?_
 ·have e:zCL w (zY rs) (zY ts) D++zEF w (zY rs) (zY ts) D 0=zCL w (zY rs) (zY ts) D:=by simp [zEF]
  rw [e];refine hJ.dn.mono ?_
  rw [hX];rintro b hb hb2 (h1 | h1 | h1 | h1 | h1)
  ·omega
  ·exact .inl h1
  ·omega
  ·omega
  ·exact .inr h1
 ·rintro s z hsl hd ⟨hz,hz2⟩;rw [yNP (fun e=>hd e.1),yIH (fun e=>hd e.1)];exact ⟨hz,hz2⟩
 ·rintro s z z1 lo g0 db hsl hd hlo hlp hz1 ⟨hz,hz2,hz3,hz4⟩ hnx;have zl:=zWZ z.re (dtQ w s);have hlt:lo<z.y:=by omega
  have hl1:yJ (yJE z.re (dtQ w s)).heap lo=some (zBW Z.y (Z.y+1) (Z.y+2) (Z.y+3) (Z.y+4) wd i19 91 [.pointer (some ⟨a1,0,none⟩),.pointer (some ⟨a2,0,none⟩)] g0 .ready none db):=by
   rw [zl.get _ hlt];exact hlp
  have s1:Same Z.y z z1:=⟨by rw [hz1];exact zl.y,fun y hy hne=>by
   rw [hz1,St.put_get,if_neg (fun e=>by subst e;exact hne _ _ _ _ _ _ _ hlp)];exact zl.get y hy,fun y hy=>by rw [hz1,St.put_get,if_neg (by omega)];exact zl.get y (by show y<z.y;omega)⟩
  have hm1:∀ y∈ms,yJ z1.heap y=some .defd:=fun y hy=>by rw [s1.get y (by have:=(hms y hy).2.2;omega) (fun _ _ _ _ _ _ _ e=>by rw [hz3 y hy] at e;cases e)];exact hz3 y hy
  have hlw:Z.y<=z1.low:=by rw [hz1];show Z.y<=min (min z.y z.y) lo;omega
  have Jz:=(hz.mono (Y:=fun x=>X x\/z.y<=x) (fun b h1 _ h3=>h3.elim id (fun h4=>by omega)));have J1:=(Jz.same s1 (Nat.le_refl _)).up hlw;have rB:Row z1 ⟨z.re.y,0,none⟩ (wDF (dtQ w s)):=by
   rw [hz1];exact (Only.put (S:=(·=lo)) (.inr rfl)).rw' ((zC z.re (zG 0 0 0 0 0) 5).put).rw (fun e=>by have e:z.y=lo:=e;omega)
  have LS:Le Z z1:=(le0 Z).trans J1.new.le;obtain ⟨a,rfl,x,hx,lx⟩:=xZ (SlV.le hr LS) hsl;have gx:zY rs s=x:=yN hx;have l26:zB Tryz.prog z1 26 ⟨Z.y+1,0,none⟩=some (.slice (some a) l rc):=J1.ro.ld yT rfl;have hrs:=hro s hsl;by_cases e1:x=-1
  ·refine ⟨z1,xAH hlp hl1 hz1 l26 lx rfl (by omega) e1, ?_,fun _=>False,Only.refl _ _,fun y hy=>hy.elim⟩
   rw [yNP (fun e=>by omega),yIH (fun e=>by omega)];exact ⟨hz.same s1 (Nat.le_refl _),s1.rw hz2,hm1,Nat.le_trans hz4 s1.y⟩
  obtain ⟨k,hkx⟩:∃ k:Nat,x=(k:Int):=⟨x.toNat,by omega⟩;have hk:k<m:=by omega
  have hrk:zY rs s=(k:Int):=by rw [gx,hkx]
  obtain ⟨bq,s2,cq,nq,hbq,rowq⟩:=zVI (Z:=z1);obtain ⟨X2,hX2⟩:∃ X2:Nat->Prop,X2=fun x=>X x\/x=z.y\/x=bq:=⟨_,rfl⟩
  have nz1:=s1.y;have J2:J Z (wkc w.M p l c q m d w.rest w.run w.j) (.slice (some a) l rc) (.slice t l tc) X2 (stF w (zY rs) (zY ts) m D s) (zCL w (zY rs) (zY ts) D++zEF w (zY rs) (zY ts) D s) s2:=by
   refine (J1.le nq.le (J1.new.trans nq)).mono ?_
   rw [hX2];rintro b _ _ (g | g | g)
   ·exact .inl g
   ·exact .inr (by omega)
   ·exact .inr (by omega)
  have ha2z:a2<τ.y:=r2.lt;have hz12:z.y<s2.y:=by have:=nq.le.y;have:=rB.lt;have e:z.re.y<z1.y:=this;have:z.y<z1.y:=e;omega
  have hXlt:∀ x,X2 x->x<s2.y:=by
   rw [hX2,hX];rintro x ((g | g | g | g | g) | g | g)
   ·omega
   ·omega
   ·omega
   ·omega
   ·have:=(hms _ g).2.2;omega
   ·omega
   ·have:=rowq.lt;rw [g];exact this
  have hX23:¬ X2 (Z.y+3):=by
   rw [hX2];rintro (g | g | g)
   ·exact hX3 g
   ·omega
   ·have:=J1.nw.lt;omega
  have hX24:¬ X2 (Z.y+4):=by
   rw [hX2];rintro (g | g | g)
   ·exact hX4 g
   ·omega
   ·have:=J1.nw.lt;omega
  have hXB:X2 z.re.y:=by rw [hX2];exact .inr (.inl rfl)
  have hXq:X2 bq:=by rw [hX2];exact .inr (.inr rfl)
  have hfk:stF w (zY rs) (zY ts) m D s k=xJ w (zY rs) (zY ts) k D s:=by unfold stF;rw [if_pos hk]
  have hDl:D*l<=6*12:=Nat.mul_le_mul hD hl12;have hso:StOk (stF w (zY rs) (zY ts) m D s k):=by rw [hfk];exact (xLR hs hn hts hk (by omega)).ok (by omega)
  have hdt:=hs.duty s hsl;have hdo:DtOk (dtQ w s):=⟨⟨hdt.1,hdt.2.1⟩,⟨hdt.2.2.1,hdt.2.2.2.1⟩⟩;have hAs:=hA s (by omega);have ask:=xSO (lo:=lo) (c:=c) (d:=d) h hsh hm6 hk hsl hso hdo (by omega) J2 (rB.le nq.le) rowq hXB hXq hX23 hXlt;have hu:=hts s hsl;have rd:zFO Tryz.prog lo [iV (s:Int),uK (dtQ w s)] z (Fm 92 (ov (zAT Z.y (Z.y+1) (Z.y+2) (Z.y+3) (Z.y+4) wd i19 91 [.pointer (some ⟨a1,0,none⟩),.pointer (some ⟨a2,0,none⟩)]) g0)) [25,26] zBC uT db
    [⟨Unit,.normal,fun _=>[],fun _=>[],fun _ z4=>J Z (wkc w.M p l c q m d w.rest w.run w.j) (.slice (some a) l rc) (.slice t l tc) X2 (stF w (zY rs) (zY ts) m D (s+1)) (zCL w (zY rs) (zY ts) D++zEF w (zY rs) (zY ts) D (s+1)) z4/\Only (fun x=>¬ X2 x) s2 z4⟩]:=by
   refine xAG hlp hl1 hz1 l26 (hkx ▸ lx) cq ask ?_ (by omega) (by omega)
   rintro z3 ⟨J3,O3⟩
   refine xEW ht (by omega) hsl hso hdo (by omega) J3 (O3.rw' (rB.le nq.le) (fun hh=>hh hXB)) hX24 ?_
   intro z4 J4 O4
   rw [xLX hk hd hrk,xIX (m:=m) hk hd hrk,<- List.append_assoc]
   exact ⟨J4,O3.trans' O4 (fun b _ hb=>.inl hb)⟩
  obtain ⟨z4,⟨J4,O4⟩,rd4⟩:=yVE rd;refine ⟨z4,rd4,⟨J4.dn.mono (fun b _ _ hb=>by rw [hX2];exact .inl hb), ?_, ?_, ?_⟩,fun y=>Z.y<=y/\y≠τ.y/\y≠τ.y+1,(nq.only).trans' (O4.mono (T:=fun y=>Z.y<=y/\y≠τ.y/\y≠τ.y+1) ?_) (fun b _ hb=>.inl hb),fun y hy=>hy⟩
  ·refine O4.rw' ((s1.rw hz2).le nq.le) (fun hh=>hh ?_);rw [hX2,hX];exact .inl (.inr (.inl rfl))
  ·intro y hy;have hys:y<s2.y:=hXlt y (by rw [hX2,hX];exact .inl (.inr (.inr (.inr (.inr hy)))));rw [O4.get y hys (fun hh=>hh (by rw [hX2,hX];exact .inl (.inr (.inr (.inr (.inr hy)))))),nq.le.get y (by have:=(hms y hy).2.2;omega)];exact hm1 y hy
  ·have:=O4.y;have:=nq.le.y;omega
  ·intro b _ hb;rw [hX2,hX] at hb;refine ⟨?_, ?_, ?_⟩
   ·rcases Nat.lt_or_ge b Z.y with g | g
    ·exact absurd (.inl (.inl g)) hb
    ·exact g
   ·intro e;exact hb (.inl (.inr (.inr (.inl e))))
   ·intro e;exact hb (.inl (.inr (.inr (.inr (.inl e)))))
 ·rintro z ⟨hz,_,hz3,_⟩ h1 h2 h3;refine hQ z ?_ (fun y hy=>by rcases List.mem_cons.1 hy with e | e;exact e ▸ h1;exact hz3 y e) h2 (h3 Z.y (Nat.le_refl _) ?_)
  ·have e:zCL w (zY rs) (zY ts) (D+1)=zCL w (zY rs) (zY ts) D++zEF w (zY rs) (zY ts) D l:=by rw [xOP,hn]
   rw [e,xLY,hn];refine hz.mono (fun b _ _ h=>?_);rw [hX];rcases List.mem_cons.1 h with e | e
   ·exact .inr (.inr (.inl e))
   ·exact .inr (.inr (.inr (.inr e)))
  ·have:=hJ.new.low Z.y (Nat.le_refl _) (Nat.le_refl _);exact this
end
section
variable {Z τ:St} {w:Wk} {p q r t:Option Addr} {l m c d rc tc:Nat} {rs ts:List Int}
theorem wCJ {D:Nat}:∃ a1 a2 Z',zD Tryz.prog 75 [.agg ⟨wkc w.M p l c q m d w.rest w.run w.j⟩,iV (D:Int)] Z (.func (.func 91) ⟨[]⟩ ⟨[.pointer (some ⟨a1,0,none⟩),.pointer (some ⟨a2,0,none⟩)]⟩) Z'/\New Z Z'/\Z.y<=a2/\Row Z' ⟨a1,0,none⟩ (wkc w.M p l c q m d w.rest w.run w.j)/\Row Z' ⟨a2,0,none⟩ [yA D]:=by
 obtain ⟨v,Z',h1,h2,a1,a2,rfl,h3,h4,h5⟩:=zO.new (Z:=Z) (P:=Tryz.prog) (f:=75) (args:=[.agg ⟨wkc w.M p l c q m d w.rest w.run w.j⟩,iV (D:Int)]) (Q:=fun v s=>∃ a1 a2,v=.func (.func 91) ⟨[]⟩ ⟨[.pointer (some ⟨a1,0,none⟩),.pointer (some ⟨a2,0,none⟩)]⟩/\Z.y<=a2/\Row s ⟨a1,0,none⟩ (wkc w.M p l c q m d w.rest w.run w.j)/\Row s ⟨a2,0,none⟩ [yA D])
  (wCI ⟨(New.row _ _ _).row',Z.re.y,Z.re.y+1,rfl,by show Z.y<=Z.y+1;omega,(xH _ _ _).row,xH (Z.re.row (wkc w.M p l c q m d w.rest w.run w.j) 6) _ _⟩) (by rintro v s s' ⟨a1,a2,rfl,g1,g2,g3⟩ hle;exact ⟨a1,a2,rfl,g1,g2.le hle,g3.le hle⟩) (by rintro v s hr ⟨a1,a2,rfl,_⟩;cases hr)
 exact ⟨a1,a2,Z',h1,h2,h3,h4,h5⟩
theorem xRY {n:Nat} (hn:w.M=(n:Int)) (hn7:n<=7) (h:WkP Z 85 88 w p l q m) (hs:Sane w l m) (hsh:zAD w) (hr:yC Z r l rs) (ht:yC Z t l ts) (hro:∀ i,i<l->-1<=zY rs i/\zY rs i<(m:Int))
  (hts:∀ i,i<l->(dtQ w i).on<=zY ts i/\zY ts i<=(dtQ w i).on+1440) (hA:∀ D j,D<=6->j<=l->(zCL w (zY rs) (zY ts) D++zEF w (zY rs) (zY ts) D j).length<=450)
  (hJ:J Z (wkc w.M p l c q m d w.rest w.run w.j) (.slice r l rc) (.slice t l tc) (fun x=>x∈([]:List Nat)) (st0 w m) [] τ) :
  zTY Z.y (Z.y+1) (Z.y+2) (Z.y+3) (Z.y+4) w.M 0 [] τ (fun ms z=>J Z (wkc w.M p l c q m d w.rest w.run w.j) (.slice r l rc) (.slice t l tc) (fun x=>x∈ms) (stF w (zY rs) (zY ts) m n 0) (zCL w (zY rs) (zY ts) n) z/\ms.Nodup/\∀ y∈ms,yJ z.heap y=some .defd/\Z.y+5<=y/\y<z.y):=by
 refine yMH (Inv:=fun k i ms z=>∃ D:Nat,i=D/\D+k=n/\J Z (wkc w.M p l c q m d w.rest w.run w.j) (.slice r l rc) (.slice t l tc) (fun x=>x∈ms) (stF w (zY rs) (zY ts) m D 0) (zCL w (zY rs) (zY ts) D) z/\ms.Nodup/\∀ y∈ms,yJ z.heap y=some .defd/\Z.y+5<=y/\y<z.y) ?_ n 0 [] τ ⟨0,rfl,by omega,hJ,List.nodup_nil,fun y hy=>by cases hy⟩;rintro k i ms z ⟨D,rfl,hk,hz,hnd,hms⟩;by_cases hD:D<n;rotate_left
 ·have:D=n:=by omega
  subst this;exact xAO ⟨hz,hnd,hms⟩ (by omega)
 have lw:zB Tryz.prog z 34 ⟨Z.y,0,none⟩=some (.agg ⟨wkc w.M p l c q m d w.rest w.run w.j⟩):=hz.wk.ldN (k:=0) xL yR (ds:=wkc w.M p l c q m d w.rest w.run w.j) rfl rfl (by simp);obtain ⟨a1,a2,z2,c2,n2,ha2,r1,r2⟩:=wCJ (Z:=z) (w:=w) (p:=p) (l:=l) (c:=c) (q:=q) (m:=m) (d:=d) (D:=D);have hz5:Z.y+5<=z.y:=by have:=hz.nw.lt;omega
 have J2:=((hz.mono (Y:=fun x=>x=a2\/x∈ms) (fun b h1 _ h3=>h3.elim (fun e=>by omega) id)).le n2.le (hz.new.trans n2));have hms2:∀ y∈ms,yJ z2.heap y=some .defd/\Z.y+5<=y/\y<z2.y:=fun y hy=>by
  obtain ⟨g1,g2,g3⟩:=hms y hy;exact ⟨by rw [n2.le.get y g3];exact g1,g2,by have:=n2.le.y;omega⟩
 refine xAP lw c2 (xWV (wd:=w.M) (i19:=D) h hs hsh hr ht hro hts (fun j hj=>hA D j (by omega) hj) (by omega) r1 r2 (by omega) hms2 J2
  (Qn:=fun z3=>J Z (wkc w.M p l c q m d w.rest w.run w.j) (.slice r l rc) (.slice t l tc) (fun x=>x∈z2.y::ms) (stF w (zY rs) (zY ts) m (D+1) 0) (zCL w (zY rs) (zY ts) (D+1)) z3/\∀ y∈z2.y::ms,yJ z3.heap y=some .defd/\Z.y+5<=y/\y<z3.y)
  (fun z3 g1 g2 g3 g4=>⟨g1.up g4,fun y hy=>⟨g2 y hy, ?_⟩⟩)) ?_ (by omega)
 ·rcases List.mem_cons.1 hy with e | e
  ·have:=n2.le.y;omega
  ·have:=hms2 y e;omega
 ·rintro z3 ⟨g1,g2⟩;refine yMD ⟨k-1,by omega,D+1,by omega,by omega,g1, ?_,g2⟩ (by omega);exact List.nodup_cons.2 ⟨fun e=>by have:=(hms2 _ e).2.2;omega,hnd⟩
end
def zON (xs:List Nat):List Int:=xs.map fun i:Nat=>(i:Int)
section
variable {Z:St} {w:Wk} {p q:Option Addr} {l m c d D:Nat}
theorem yRQ (h:WkP Z 85 88 w p l q m) (hl:l<=1000):∃ p' c' Z',zD Tryz.prog 85 [.agg ⟨wkc w.M p l c q m d w.rest w.run w.j⟩,iV (D:Int)] Z (.slice p' (yD w D l).length c') Z'/\New Z Z'/\yC Z' p' (yD w D l).length (zON (yD w D l))/\∀ b,AtP p' b->Z.y<=b:=by
 have hln:=h.len.1;have hle:∀ s,(yD w D s).length<=s:=fun s=>by
  unfold yD;have:=List.length_filter_le (fun i=>decide ((dtQ w i).day=(D:Int))) (List.range s);simpa using this
 obtain ⟨Z1,hZ1⟩:∃ Z1,Z1=(Z.re.row (wkc w.M p l c q m d w.rest w.run w.j) 6).row [.slice none 0 0] 1:=⟨_,rfl⟩;have N1:New Z.re Z1:=by rw [hZ1];exact (New.row _ _ _).row'
 have x1:Z1.y=Z.y+2:=by rw [hZ1];rfl
 have o1:Own Z1 (Z.y+1) [.slice none 0 0] 1:=by rw [hZ1];exact zC (Z.re.row (wkc w.M p l c q m d w.rest w.run w.j) 6) [.slice none 0 0] 1
 obtain ⟨a1,a2,τ,k1,n1,ha2,r1,r2⟩:=wCJ (Z:=Z1) (w:=w) (p:=p) (q:=q) (l:=l) (m:=m) (c:=c) (d:=d) (D:=D);have N2:=N1.trans n1;have L2:Le Z τ:=(le0 Z).trans N2.le;have nx2:=n1.nx;have hd2:yDO τ 85 p l w.N:=SlV.le h.dty L2;have hpb:∀ a,p=some a->a.block<Z.y:=yW h.dty;have ha2t:a2<τ.y:=r2.lt;rw [hZ1] at k1;let J:Nat->St->Prop:=fun s z=>Row z ⟨a2,0,none⟩ [yA D]/\yDO z 85 p l w.N/\τ.y<=z.y/\∃ p' c',Own z (Z.y+1) [.slice p' (yD w D s).length c'] 1/\Gr Tryz.prog z (τ.y+2) 3 1 p' (yD w D s).length c' ((zON (yD w D s)).map yA)/\Le Z z
 refine zO.newSl (xIV k1 (Pn:=fun z=>J l z/\yJ z.heap τ.y=some .defd/\τ.y<z.y/\∀ m,m<=Z.y->m<=τ.low->m<=z.low) (zVY (zf:=fun z _=>z) (fun z _=>Le.refl z) (fun z _=>Nat.le_refl _) (w:=w) (pp:=p) (q:=q) (l:=l) (m:=m) (c:=c) (d:=d) (D:=D) (a1:=a1) (a2:=a2) (n0:=Z.y) (J:=fun s z=>J s z) (fun g0=>rfl) r1 (by omega) (by omega) (fun s z hz=>⟨hz.1,hz.2.1⟩) ⟨r2,hd2,Nat.le_refl _,none,0,o1.le n1.le,by simpa [yD,zON] using Gr.nil,L2⟩ ?_ ?_ ?_ ?_) ?_)
 ·rintro s z z' ⟨h1,h2,h3,p',c',h4,h5,h6⟩ hk;refine ⟨hk.rw h1,hk.slv h2,Nat.le_trans h3 hk.y,p',c',hk.own h4,hk.gr h5,⟨Nat.le_trans h6.y hk.y,fun b hb=>by rw [hk.old b hb];exact h6.get b hb⟩⟩
 ·rintro s z hs hd ⟨h1,h2,h3,p',c',h4,h5,h6⟩;have e:yD w D (s+1)=yD w D s:=by rw [yLR,if_neg hd]
  refine ⟨h1,h2,h3,p',c', ?_, ?_,h6⟩
  ·rw [e];exact h4
  ·rw [e];exact h5
 ·rintro s z z1 lo g0 db hs hd hlo hlp hz1 ⟨h1,h2,h3,p',c',h4,h5,h6⟩ hnx;have e:yD w D (s+1)=yD w D s++[s]:=by rw [yLR,if_pos hd]
  have hlt:lo<z.y:=by omega
  have k01:Only (fun y=>y=lo) z z1:=by
   rw [hz1];exact (Only.re (S:=fun y=>y=lo) z).trans' (Only.put (S:=fun y=>y=lo) (.inr rfl)) (fun b _ e=>.inl e)
  have u1:Own z1 (Z.y+1) [.slice p' (yD w D s).length c'] 1:=k01.own' h4 (by omega);have v1:Gr Tryz.prog z1 (τ.y+2) 3 1 p' (yD w D s).length c' ((zON (yD w D s)).map yA):=h5.only k01 (fun b hb e=>by have:=(h5.bd hb).1;omega);have nx1:=k01.y;have hs2:=hle s;obtain ⟨p2,c2,z2,g1,g2,g3,g4⟩:=yRA (yA (s:Int)) zAU v1 (Le.refl z1) (vY _) (by omega) (by omega);have hS:∀ b,AtP p' b->τ.y+2<=b:=fun b hb=>(v1.bd hb).1
  have k12:Only (AtP p') z1 z2:=(Only.row z1 [yA (s:Int)] 1).trans' g3 (fun b _ e=>.inl e);have u2:=k12.own' u1 (fun hb=>by have:=hS _ hb;omega);have st:=u2.store (P:=Tryz.prog) (k:=0) (t:=26) (v:=.slice p2 ((yD w D s).length+1) c2) (vs:=[.slice p2 ((yD w D s).length+1) c2]) (ds:=[.slice p2 ((yD w D s).length+1) c2]) rfl yUZ rfl (by simp) rfl;obtain ⟨z3,hz3⟩:∃ z3,z3=z2.own (Z.y+1) [.slice p2 ((yD w D s).length+1) c2] 1:=⟨_,rfl⟩;rw [<- hz3] at st;have k23:Only (fun y=>y=Z.y+1) z2 z3:=by rw [hz3];exact Only.own (.inr rfl)
  have k13:Only (fun y=>y=Z.y+1\/AtP p' y) z1 z3:=(k12.mono (fun _ _ e=>.inr e)).trans' k23 (fun b _ e=>.inl (.inl e));have k03:Only (fun y=>y=lo\/y=Z.y+1\/AtP p' y) z z3:=(k01.mono (fun _ _ e=>.inl e)).trans' k13 (fun b _ e=>.inl (.inr e));refine ⟨z3,yZL hlp hz1 (u1.ld (k:=0) rfl yT rfl) g1 st rfl,⟨k03.rw' h1 ?_,k03.slv' h2 ?_,by have:=k03.y;omega,p2,c2, ?_, ?_, ?_⟩,_,k13, ?_⟩
  ·rintro (hb | hb | hb)
   ·have hb:a2=lo:=hb;omega
   ·have hb:a2=Z.y+1:=hb;omega
   ·have:=hS _ hb;have:τ.y+2<=a2:=this;omega
  ·rintro a ea (hb | hb | hb)
   ·have:=hpb a ea;omega
   ·have:=hpb a ea;omega
   ·have:=hS _ hb;have:=hpb a ea;omega
  ·rw [e,List.length_append,hz3];exact u2.put
  ·rw [e,List.length_append];have e2:(zON (yD w D s++[s])).map yA=(zON (yD w D s)).map yA++[yA (s:Int)]:=by simp [zON]
   rw [e2];exact g2.only k23 (fun b hb e=>by have:=(g2.bd hb).1;omega)
  ·refine ⟨Nat.le_trans h6.y k03.y,fun b hb=>?_⟩
   rw [k03.get b (by omega) ?_]
   ·exact h6.get b hb
   ·rintro (e | e | e)
    ·omega
    ·omega
    ·have:=hS _ e;omega
  ·rintro y (e | e)
   ·exact ⟨by omega,by omega,by omega⟩
   ·have:=hS _ e;exact ⟨by omega,by omega,by omega⟩
 ·rintro z h1 h2 h3 h4;exact ⟨h1,h2,h3,h4⟩
 ·rintro z ⟨⟨h1,h2,h3,p',c',h4,h5,h6⟩,h7,h8,h9⟩;have st:=h4.store (P:=Tryz.prog) (k:=0) (t:=26) (v:=.slice p' (yD w D l).length c') (vs:=[.slice p' (yD w D l).length c']) (ds:=[.slice p' (yD w D l).length c']) rfl yUZ rfl (by simp) rfl;have hB:Z.y+1<τ.y:=by omega
  obtain ⟨z2,k1,k2,k3,k4⟩:=zPU (ms:=[τ.y]) (Z:=z.own (Z.y+1) [.slice p' (yD w D l).length c'] 1) (fun y hy=>by
   rcases List.mem_singleton.1 hy with rfl;show yJ (St.put _ _ _).heap _=_;rw [St.put_get,if_neg (by omega)];exact h7) (by simp)
  have o2:Own z2 (Z.y+1) [.slice p' (yD w D l).length c'] 1:=h4.put.at_ (k3 _ (fun e=>by have:=List.mem_singleton.1 e;omega)) (by rw [k2];exact Nat.le_refl _);have g2:Gr Tryz.prog (z.own (Z.y+1) [.slice p' (yD w D l).length c'] 1) (τ.y+2) 3 1 p' (yD w D l).length c' ((zON (yD w D l)).map yA):=h5.only (S:=(·=Z.y+1)) (Only.own (.inr rfl)) (fun b hb e=>by have:=(h5.bd hb).1;omega);have sl:yC z2 p' (yD w D l).length (zON (yD w D l)):=by
   have:=g2.slv;refine ⟨⟨this.1.1, ?_⟩,this.2⟩
   cases p' with
   | none=>exact this.1.2
   | some a =>
    have hr:=this.1.2;have hb:=(h5.bd ⟨a,rfl,rfl⟩);refine ⟨?_,by rw [k2];exact hr.lt⟩
    have e:yJ z2.heap a.block=yJ (z.own (Z.y+1) [.slice (some a) (yD w D l).length c'] 1).heap a.block:=k3 _ (fun e=>by have:=List.mem_singleton.1 e;omega);have:=hr.rd;unfold yU at this ⊢;rw [e];exact this
  have N:New Z.re z2:=by
   refine ⟨⟨by rw [k2];exact h6.y,fun b hb=>?_⟩,fun m g1 g2=>k4 m ?_ (fun y hy=>by have:=List.mem_singleton.1 hy;have g2:m<=Z.y:=g2;omega)⟩
   ·have hb:b<Z.y:=hb;rw [k3 b (fun e=>by have:=List.mem_singleton.1 e;omega)];show yJ (St.put _ _ _).heap b=_;rw [St.put_get,if_neg (by omega)];exact h6.get b hb
   ·have g2:m<=Z.y:=g2;have:=h9 m g2 (N2.low m g1 g2);show m<=min _ _;omega
  exact yLS (h4.ld (k:=0) rfl yT rfl) st k1 (o2.ld (k:=0) rfl yT rfl) ⟨N,p',c',rfl,sl,fun b hb=>by have:=(h5.bd hb).1;show Z.y<=b;omega⟩
end
section
noncomputable section
variable (day:Int) (who:oAa) (aT bk BA:Nat) (q1 q13:oAa) (l1 l13 c1 c13 BB BC:Nat) (n14 aA bX:Int) (q0:St->Prop) (qH:oAa) (lJ cH:Nat) (q3:Int->St->Prop) (bi dZ:Int) (Q:Int->Int->St->Prop) (Z:St) (Nx:Int->Int->St->Prop) (q5 Q2:Int->St->Prop) (q4:vPa) (Q0:St->Prop)
def yVB:Code:=(Code.part [1,1,1,1,1,0,1,0,0] (qh 59))
def yJR:lNa:=[(3,pt BA 0),(6,.slice q13 l13 c13),(7,pt BB 0),(10,pt BC 0),(11,iV aA),(31,iV n14),(32,iV bX)]
def xCE:Alt:=⟨Int × Int,.normal,fun t=>yJR BA q13 l13 c13 BB BC n14 t.1 t.2,fun t=>[],fun t Z=>Q t.1 t.2 Z⟩
def yOA (BA:Nat) (q13:oAa) (l13 c13 BB BC:Nat) (n14:Int):lNa:=[(6,.slice q13 l13 c13),(7,pt BB 0),(10,pt BC 0)]
def zPW:Alt:=⟨Unit,(.exit 0),fun t=>yOA BA q13 l13 c13 BB BC n14,fun t=>[],fun t Z=>q0 Z⟩
def yVD:Prop:=qi qj none yVB 62 (yJR BA q13 l13 c13 BB BC n14 aA bX) [] [xCE BA q13 l13 c13 BB BC n14 Nx,zPW BA q13 l13 c13 BB BC n14 Q0] Z
def yVC:Prop:=qk qj none yVB 62 (yJR BA q13 l13 c13 BB BC n14 aA bX) [] [zPW BA q13 l13 c13 BB BC n14 Q0] Z
def xMH:Code:=(Code.part [1,1,1,1,1,0,1,0,0,1,1,0,0,1,1,0,0] (qh 59))
def zYZ:lNa:=[(3,pt BA 0),(6,.slice q13 l13 c13),(7,pt BB 0),(10,pt BC 0),(11,iV bi),(31,iV n14),(32,iV bX),(37,.slice qH lJ cH),(38,iV (lJ:Int)),(39,iV dZ)]
def xUW:Alt:=⟨Int × Int,.normal,fun t=>zYZ BA q13 l13 c13 BB BC n14 bX qH lJ cH t.1 t.2,fun t=>[],fun t Z=>Q t.1 t.2 Z⟩
def yNZ (BA:Nat) (q13:oAa) (l13 c13 BB BC:Nat) (n14 bX:Int) (qH:oAa) (lJ cH:Nat) (bi:Int):lNa:=[(3,pt BA 0),(6,.slice q13 l13 c13),(7,pt BB 0),(10,pt BC 0),(11,iV bi),(31,iV n14),(32,iV bX)]
def zZA:Alt:=⟨Int,(.exit 2),fun t=>yNZ BA q13 l13 c13 BB BC n14 bX qH lJ cH t,fun t=>[],fun t Z=>q3 t Z⟩
def yJS:Prop:=qi qj none xMH 62 (zYZ BA q13 l13 c13 BB BC n14 bX qH lJ cH bi dZ) [] [xUW BA q13 l13 c13 BB BC n14 bX qH lJ cH Nx,zZA BA q13 l13 c13 BB BC n14 bX qH lJ cH Q2] Z
def xMI:Prop:=qk qj none xMH 62 (zYZ BA q13 l13 c13 BB BC n14 bX qH lJ cH bi dZ) [] [zZA BA q13 l13 c13 BB BC n14 bX qH lJ cH Q2] Z
def yOB:Prop:=kZ qj yVB [1,1,0,0,1,1,0] (zFP 62 [xCE BA q13 l13 c13 BB BC n14 Nx,zPW BA q13 l13 c13 BB BC n14 Q0]) (.exit 2) 62 (yNZ BA q13 l13 c13 BB BC n14 bX qH lJ cH bi) Z
def zZB:Prop:=kZ qj (qh 59) [1,1,1,1,1,0,1,0] (ql 59 q4) (.exit 0) 62 (yOA BA q13 l13 c13 BB BC n14) Z
def yTW:Code:=(Code.part [1,0,1,0,0] (qh 57))
def zLO:lNa:=[(0,iV day),(1,.slice who aT bk),(5,pt BA 0),(9,.slice q1 l1 c1),(10,iV (l1:Int)),(11,iV aA)]
def xLE:Alt:=⟨Int,.normal,fun t=>zLO day who aT bk BA q1 l1 c1 t,fun t=>[],fun t Z=>q3 t Z⟩
def yDR (day:Int) (who:oAa) (aT bk BA:Nat) (q1:oAa) (l1 c1:Nat):lNa:=[(5,pt BA 0)]
def zPL:Alt:=⟨Unit,(.exit 0),fun t=>yDR day who aT bk BA q1 l1 c1,fun t=>[],fun t Z=>q0 Z⟩
def zLP:Prop:=qi qj none yTW 30 (zLO day who aT bk BA q1 l1 c1 aA) [] [xLE day who aT bk BA q1 l1 c1 q5,zPL day who aT bk BA q1 l1 c1 Q0] Z
def yTX:Prop:=qk qj none yTW 30 (zLO day who aT bk BA q1 l1 c1 aA) [] [zPL day who aT bk BA q1 l1 c1 Q0] Z
def yDS:Prop:=kZ qj (qh 57) [1,0,1,0] (ql 57 q4) (.exit 0) 30 (yDR day who aT bk BA q1 l1 c1) Z
end
variable {BA l13 c13 BB BC lJ cH lE cB lG cF lH cG ac ad aa ab l8 c8 l11 c11 l2 c2 l12 c12 aT bk l1 c1 lA cE:Nat} {q13 qH qE qG af ae q8 q11 q2 q12 who q1 qD:oAa} {n14 bX bi dZ nM nP aA nG nB nD nE ak am au aj n2 n3 n4 n5 n6 n7 nJC nBA nBD nBE nBF nBG nTB nBe nBf nBg nBh nCA n1 n8 day nCD x0:Int} {Inv:Nat->Int->Int->St->Prop} {Q0 P0:St->Prop} {Q2 P2:Int->St->Prop} {qH_a qB_a q13_a f8 v0:Addr} {ZBP Z ZN Z10 Z12 ZTB Z14 ZMB ZVB:St} {Nx:Int->Int->St->Prop} {leaves b9 bE:Bool} {worth:FuncId} {gz:lVa} {f1:Nat->Std} {Q:vPa}
theorem xFL (hb:∀ k aA bX Z,Inv k aA bX Z->yVD BA q13 l13 c13 BB BC n14 aA bX Z (NX2 Inv k) Q0):∀ k aA bX Z,Inv k aA bX Z->yVC BA q13 l13 c13 BB BC n14 aA bX Z Q0 :=
 zCR (ai (xV 0) trivial) hb
theorem xFK (hb:∀ k bi dZ Z,Inv k bi dZ Z->yJS BA q13 l13 c13 BB BC n14 bX qH lJ cH bi dZ Z (NX2 Inv k) Q2):∀ k bi dZ Z,Inv k bi dZ Z->xMI BA q13 l13 c13 BB BC n14 bX qH lJ cH bi dZ Z Q2 :=
 zCR (ai (xV 2) trivial) hb
theorem xUT (h1:lz Z 3 (zJ qH_a (Int.toNat dZ*1)) (iV nM)) (h2:lz Z 4 (qe BC 7) (.bool true)) (h3:lz Z 26 (qe BC 6) (.slice (some qB_a) lE cB)) (h4:lz Z 3 (zJ qB_a (Int.toNat bi*1)) (iV nP)) (h5:qo (evL [pz (zJ q13_a (Int.toNat nM*1)),iV nP]) Z (.store 3 (.tmp 0) (.tmp 1))=some (undef,ZBP)) (nx:Nx (bi+1) (dZ+1) ZBP) (u1:dZ<(lJ:Int):=by omega) (u2:Ix dZ lJ:=by omega) (u3:Ix bi lE:=by omega) (u4:Ix nM l13:=by omega) (u5:I6 (bi+1):=by omega) (u6:I6 (dZ+1):=by omega):yJS BA (some q13_a) l13 c13 BB BC n14 bX (some qH_a) lJ cH bi dZ Z Nx Q2 :=
 kO 0 (bi+1,dZ+1) [.b true,.i,.l (iV nM),.g,.g,.l (.bool true),.g,.g,.g,.l (.slice (some qB_a) lE cB),.g,.i,.l (iV nP),.i,.e undef ZBP,.g,.n (bi+1),.g,.n (dZ+1),.g] (fun _ f=>an5 (zR u1) u2 h1 h2 h3 (an6 u3 h4 u4 h5 (w64 u5) (w64 u6) f)) nx
theorem xUS (h1:lz Z 3 (zJ qH_a (Int.toNat dZ*1)) (iV nM)) (h2:lz Z 4 (qe BC 7) (.bool false)) (nx:Nx bi (dZ+1) Z) (u1:dZ<(lJ:Int):=by omega) (u2:Ix dZ lJ:=by omega) (u3:I6 (dZ+1):=by omega):yJS BA q13 l13 c13 BB BC n14 bX (some qH_a) lJ cH bi dZ Z Nx Q2 :=
 kO 0 (bi,dZ+1) [.b true,.i,.l (iV nM),.g,.g,.l (.bool false),.n (dZ+1),.g] (fun _ f=>an5 (zR u1) u2 h1 h2 (w64 u3) f) nx
theorem xUR (nx:Q2 bi Z) (u1:¬ dZ<(lJ:Int):=by omega):yJS BA q13 l13 c13 BB BC n14 bX qH lJ cH bi dZ Z Nx Q2 :=
 kO 1 bi [.b false] (fun _ f=>ai (zT u1) f) nx
theorem xUV (h1:lz Z 34 (qe BA 0) (qf (wkc nG qE lG cF qG lH cG nB nD nE))) (h2:qm 85 [qf (wkc nG qE lG cF qG lH cG nB nD nE),iV bX] Z (.slice qH lJ cH) ZN) (hL:xMI BA q13 l13 c13 BB BC n14 bX qH lJ cH aA 0 ZN P2) (k2:∀ i11_2' Z',P2 i11_2' Z'->yOB BA q13 l13 c13 BB BC n14 bX qH lJ cH i11_2' Z' Nx Q0) (u1:bX<n14:=by omega):yVD BA q13 l13 c13 BB BC n14 aA bX Z Nx Q0 :=
 zCE [.b true,.g,.g,.l (qf (wkc nG qE lG cF qG lH cG nB nD nE)),.g,.c (.slice qH lJ cH) ZN,.g,.g,.lf 62 (zYZ BA q13 l13 c13 BB BC n14 bX qH lJ cH aA 0) [zZA BA q13 l13 c13 BB BC n14 bX qH lJ cH P2]] (fun g=>kd (an3 (zR u1) h1 h2 (ai (ai tt (ai (arf (zYZ BA q13 l13 c13 BB BC n14 bX qH lJ cH aA 0)) hL)) (ai (kz1 k2) trivial))))
theorem xUU (nx:Q0 Z) (u1:¬ bX<n14:=by omega):yVD BA q13 l13 c13 BB BC n14 aA bX Z Nx Q0 :=
 kO 1 () [.b false] (fun _ f=>ai (zT u1) f) nx
theorem xFI (nx:Nx bi (bX+1) Z) (u1:I6 (bX+1):=by omega):yOB BA q13 l13 c13 BB BC n14 bX qH lJ cH bi Z Nx Q0 :=
 sF 0 (bi,bX+1) [.n (bX+1),.g] (fun _ f=>ai (w64 u1) f) nx
theorem xZT:let s1:=Z.row (wkc ak af ac ad ae aa ab am au aj) 6;let s2:=s1.row (zK 0 0 0 0 0 0) 1;let s3:=s2.add (.map []);let s4:=s3.row [iV ak,.slice af ac ad,.slice ae aa ab,iV am,iV au,iV aj,.bool leaves,.func (.func worth) ⟨[]⟩ ⟨gz⟩,.map (some (Z.y+2))] 9;let s5:=Z10.row [iV 0,iV 0,iV 0,iV 0,iV 0,iV 0,.slice none 0 0,.bool false] 8;let s6:=s5.own Z10.y [iV n2,iV n3,iV n4,iV n5,iV n6,iV n7,.slice q8 l8 c8,.bool b9] 8;∀ (h1:qm 74 [qf (wkc ak af ac ad ae aa ab am au aj)] s4 (qf (stL f1)) s4) (h2:qm 84 [pt ((Z.y+3)) 0,qf (iV 0::(stL f1))] s4 (qf [iV n2,iV n3,iV n4,iV n5,iV n6,iV n7,.slice q8 l8 c8,.bool b9]) Z10) (h3:lz s6 31 (qe Z.y 1) (.slice q11 l11 c11)) (h4:qo (evL [iV (l11:Int),iV (l11:Int)]) s6 (.makeSlice 26 (.tmp 0) (.tmp 1))=some (.slice q13 l13 c13,Z12)) (h5:lz Z12 3 (qe Z.y 0) (iV n14)) (hL:yVC Z.y q13 l13 c13 (Z.y+1) Z10.y n14 0 0 Z12 P0) (k0:∀ Z',P0 Z'->zZB Z.y q13 l13 c13 (Z.y+1) Z10.y n14 Z' Q),qg 59 [qf (wkc ak af ac ad ae aa ab am au aj),.bool leaves,.func (.func worth) ⟨[]⟩ ⟨gz⟩] Z Q:=
 let s1:=Z.row (wkc ak af ac ad ae aa ab am au aj) 6;let s2:=s1.row (zK 0 0 0 0 0 0) 1;let s3:=s2.add (.map []);let s4:=s3.row [iV ak,.slice af ac ad,.slice ae aa ab,iV am,iV au,iV aj,.bool leaves,.func (.func worth) ⟨[]⟩ ⟨gz⟩,.map (some (Z.y+2))] 9;let s5:=Z10.row [iV 0,iV 0,iV 0,iV 0,iV 0,iV 0,.slice none 0 0,.bool false] 8;let s6:=s5.own Z10.y [iV n2,iV n3,iV n4,iV n5,iV n6,iV n7,.slice q8 l8 c8,.bool b9] 8;let s7:=yJR Z.y q13 l13 c13 (Z.y+1) Z10.y n14 0 0;fun h1 h2 h3 h4 h5 hL k0=>zH [.g,.g,.g,.g,.l (qf (wkc ak af ac ad ae aa ab am au aj)),.g,.g,.g,.g,.g,.g,.g,.l (qf (wkc ak af ac ad ae aa ab am au aj)),.c (qf (stL f1)) s4,.g,.c (qf [iV n2,iV n3,iV n4,iV n5,iV n6,iV n7,.slice q8 l8 c8,.bool b9]) Z10,.g,.e undef s6,.g,.l (.slice q11 l11 c11),.g,.e (.slice q13 l13 c13) Z12,.g,.g,.g,.l (iV n14),.g,.lf 62 s7 [zPW Z.y q13 l13 c13 (Z.y+1) Z10.y n14 P0]] (kd (an2 ((zC _ _ _).row.rw.ldN xL yR (k:=0) rfl rfl (nle rfl):lz s2 34 (qe Z.y 0) (qf (wkc ak af ac ad ae aa ab am au aj))) ((zC _ _ _).row.add.row.rw.ldN xL yR (k:=0) rfl rfl (nle rfl):lz s4 34 (qe Z.y 0) (qf (wkc ak af ac ad ae aa ab am au aj))) (an6 h1 h2 ((zC _ _ _).store (vs:=[iV n2,iV n3,iV n4,iV n5,iV n6,iV n7,.slice q8 l8 c8,.bool b9]) rfl vT rfl (nle rfl) rfl:qo (evL [pt Z10.y 0,qf [iV n2,iV n3,iV n4,iV n5,iV n6,iV n7,.slice q8 l8 c8,.bool b9]]) s5 (.store 130 (.tmp 0) (.tmp 1))=some (undef,s6)) h3 h4 h5 (ai (ai tt (ai (arf s7) hL)) (ai (kz0 k0) trivial)))))
theorem xFJ:let y0:=zK nJC nBA nBD nBE nBF nBG;let y1:=zK nTB nBe nBf nBg nBh nCA;∀ (h1:lz Z 98 (qe BC 0) (qf y0)) (h2:lz Z 4 (qe BC 7) (.bool bE)) (h3:qo (evL [pt BB 0,qf y0]) Z (.store 98 (.tmp 0) (.tmp 1))=some (undef,ZTB)) (h4:(zLq ZTB 4 (qe BC 7) (.bool bE))) (h5:lz ZTB 98 (qe BB 0) (qf y1)) (nx:Q (.tuple ⟨[.slice q13 l13 c13,qf y1,.bool bE]⟩) ZTB) (b_BC:BC<Z.y:=by omega) (b_BB:BB<Z.y:=by omega),zZB BA q13 l13 c13 BB BC n14 Z Q :=
 let y0:=zK nJC nBA nBD nBE nBF nBG;let y1:=zK nTB nBe nBf nBg nBh nCA;fun h1 h2 h3 h4 h5 nx b_BC b_BB=>sK [.g,.g,.l (qf y0),.g,.l (.bool bE),.g,.e undef ZTB,.g,.l (qf y1)] (an3 h1 h2 h3 (an6 ((zE (zP b_BC) zI):zF Z.y [pt BC 0]) ((zE (zP b_BC) zI):zF Z.y [pt BC 7]) ((zE (zP b_BB) (zE (yM rfl) zI)):zF Z.y [pt BB 0,qf y0]) (⟨⟨b_BC,rfl⟩,h2⟩:(zLq Z 4 (qe BC 7) (.bool bE))) h4 h5 nx))
theorem xYP:let s1:=Z.row (wkc ak af ac ad ae aa ab am au aj) 6;∀ (h1:qm 16 [qf (wkc ak af ac ad ae aa ab am au aj)] s1 (iV n1) s1) (nx:Q (.tuple ⟨[.slice none 0 0,.slice none 0 0,iV n1]⟩) s1) (u1:¬ n1=0:=by omega),qg 25 [qf (wkc ak af ac ad ae aa ab am au aj)] Z Q:=
 let s1:=Z.row (wkc ak af ac ad ae aa ab am au aj) 6;fun h1 nx u1=>zH [.g,.g,.g,.g,.l (qf (wkc ak af ac ad ae aa ab am au aj)),.c (iV n1) s1,.g,.g,.b true,.g,.g,.g,.g] (kd (an3 ((zC _ _ _).rw.ldN xL yR (k:=0) rfl rfl (nle rfl):lz s1 34 (qe Z.y 0) (qf (wkc ak af ac ad ae aa ab am au aj))) h1 (zCC u1) nx))
theorem xYO:let s1:=Z.row (wkc ak af ac ad ae aa ab am au aj) 6;let s2:=Z10.row (zK 0 0 0 0 0 0) 1;let s3:=s2.own Z10.y (zK n3 n4 n5 n6 n7 n8) 1;∀ (h1:qm 16 [qf (wkc ak af ac ad ae aa ab am au aj)] s1 (iV n1) s1) (h2:qm 59 [qf (wkc ak af ac ad ae aa ab am au aj),.bool false,.func (.func 57) ⟨[]⟩ ⟨[pt Z.y 0]⟩] s1 (.tuple ⟨[.slice q2 l2 c2,qf (zK n3 n4 n5 n6 n7 n8),.bool true]⟩) Z10) (h3:lz s3 32 (qe Z.y 2) (.slice q11 l11 c11)) (h4:vS Pg s3 98 (pt Z10.y 0) none (some (iV (l11:Int))) none=some (.slice q12 l12 c12)) (h5:qm 60 [.slice q12 l12 c12] s3 (.slice q13 l13 c13) Z14) (nx:Q (.tuple ⟨[.slice q2 l2 c2,.slice q13 l13 c13,iV 0]⟩) Z14) (u1:n1=0:=by omega),qg 25 [qf (wkc ak af ac ad ae aa ab am au aj)] Z Q:=
 let s1:=Z.row (wkc ak af ac ad ae aa ab am au aj) 6;let s2:=Z10.row (zK 0 0 0 0 0 0) 1;let s3:=s2.own Z10.y (zK n3 n4 n5 n6 n7 n8) 1;fun h1 h2 h3 h4 h5 nx u1=>zH [.g,.g,.g,.g,.l (qf (wkc ak af ac ad ae aa ab am au aj)),.c (iV n1) s1,.g,.g,.b false,.g,.g,.l (qf (wkc ak af ac ad ae aa ab am au aj)),.g,.c (.tuple ⟨[.slice q2 l2 c2,qf (zK n3 n4 n5 n6 n7 n8),.bool true]⟩) Z10,.g,.g,.g,.g,.g,.g,.e undef s3,.g,.g,.g,.g,.g,.l (.slice q11 l11 c11),.g,.v (.slice q12 l12 c12),.c (.slice q13 l13 c13) Z14,.g,.g,.g] (kd (an3 ((zC _ _ _).rw.ldN xL yR (k:=0) rfl rfl (nle rfl):lz s1 34 (qe Z.y 0) (qf (wkc ak af ac ad ae aa ab am au aj))) h1 (xR u1) (an6 ((zC _ _ _).rw.ldN xL yR (k:=0) rfl rfl (nle rfl):lz s1 34 (qe Z.y 0) (qf (wkc ak af ac ad ae aa ab am au aj))) h2 ((zC _ _ _).store (vs:=(zK n3 n4 n5 n6 n7 n8)) rfl wA rfl (nle rfl) rfl:qo (evL [pt Z10.y 0,qf (zK n3 n4 n5 n6 n7 n8)]) s2 (.store 98 (.tmp 0) (.tmp 1))=some (undef,s3)) h3 h4 h5 nx)))
theorem xYN:let s1:=Z.row (wkc ak af ac ad ae aa ab am au aj) 6;let s2:=Z10.row (zK 0 0 0 0 0 0) 1;let s3:=s2.own Z10.y (zK n3 n4 n5 n6 n7 n8) 1;∀ (h1:qm 16 [qf (wkc ak af ac ad ae aa ab am au aj)] s1 (iV n1) s1) (h2:qm 59 [qf (wkc ak af ac ad ae aa ab am au aj),.bool false,.func (.func 57) ⟨[]⟩ ⟨[pt Z.y 0]⟩] s1 (.tuple ⟨[.slice q2 l2 c2,qf (zK n3 n4 n5 n6 n7 n8),.bool false]⟩) Z10) (nx:Q (.tuple ⟨[.slice none 0 0,.slice none 0 0,iV 9]⟩) s3) (u1:n1=0:=by omega),qg 25 [qf (wkc ak af ac ad ae aa ab am au aj)] Z Q:=
 let s1:=Z.row (wkc ak af ac ad ae aa ab am au aj) 6;let s2:=Z10.row (zK 0 0 0 0 0 0) 1;let s3:=s2.own Z10.y (zK n3 n4 n5 n6 n7 n8) 1;fun h1 h2 nx u1=>zH [.g,.g,.g,.g,.l (qf (wkc ak af ac ad ae aa ab am au aj)),.c (iV n1) s1,.g,.g,.b false,.g,.g,.l (qf (wkc ak af ac ad ae aa ab am au aj)),.g,.c (.tuple ⟨[.slice q2 l2 c2,qf (zK n3 n4 n5 n6 n7 n8),.bool false]⟩) Z10,.g,.g,.g,.g,.g,.g,.e undef s3,.g,.g,.g,.g,.g,.g] (kd (an6 ((zC _ _ _).rw.ldN xL yR (k:=0) rfl rfl (nle rfl):lz s1 34 (qe Z.y 0) (qf (wkc ak af ac ad ae aa ab am au aj))) h1 (xR u1) ((zC _ _ _).rw.ldN xL yR (k:=0) rfl rfl (nle rfl):lz s1 34 (qe Z.y 0) (qf (wkc ak af ac ad ae aa ab am au aj))) h2 ((zC _ _ _).store (vs:=(zK n3 n4 n5 n6 n7 n8)) rfl wA rfl (nle rfl) rfl:qo (evL [pt Z10.y 0,qf (zK n3 n4 n5 n6 n7 n8)]) s2 (.store 98 (.tmp 0) (.tmp 1))=some (undef,s3)) nx))
theorem yTV {Inv:Nat->Int->St->Prop} (hb:∀ k aA Z,Inv k aA Z->zLP day who aT bk BA q1 l1 c1 aA Z (NX1 Inv k) Q0):∀ k aA Z,Inv k aA Z->yTX day who aT bk BA q1 l1 c1 aA Z Q0 :=
 xE (ai (xV 0) trivial) hb
theorem xLD {Nx:Int->St->Prop}:let s1:=Z.row (zN none 0 0 none 0 0 none 0 0 0 0 0) 6;let s2:=s1.own Z.y (zN qD lA cE qE lG cF qG lH cG nB nD nE) 6;let y0:=zN qD lA cE qE lG cF qG lH cG nB nD nE;∀ (h1:lz Z 88 (zJ f8 (Int.toNat aA*6)) (qf y0)) (h2:qm 58 [.slice qG lH cG,iV day] s2 (.bool true) s2) (h3:qm 58 [.slice who aT bk,iV aA] s2 (.bool true) s2) (nx:Nx (aA+1) s2) (u1:aA<(l1:Int):=by omega) (u2:Ix aA l1:=by omega) (u3:I6 (aA+1):=by omega),zLP day who aT bk BA (some f8) l1 c1 aA Z Nx Q0:=
 let s1:=Z.row (zN none 0 0 none 0 0 none 0 0 0 0 0) 6;let s2:=s1.own Z.y (zN qD lA cE qE lG cF qG lH cG nB nD nE) 6;let y0:=zN qD lA cE qE lG cF qG lH cG nB nD nE;fun h1 h2 h3 nx u1 u2 u3=>kO 0 (aA+1) [.b true,.g,.i,.l (qf y0),.g,.g,.e undef s2,.g,.l (.slice qG lH cG),.g,.c (.bool true) s2,.g,.g,.g,.c (.bool true) s2,.g,.g,.n (aA+1),.g] (fun _ f=>an2 (zR u1) u2 (an6 h1 ((zC _ _ _).store (vs:=y0) rfl zFF rfl (nle rfl) rfl:qo (evL [pt Z.y 0,qf y0]) s1 (.store 88 (.tmp 0) (.tmp 1))=some (undef,s2)) ((zC _ _ _).put.rw.ld yT (k:=2) rfl:lz s2 26 (qe Z.y 2) (.slice qG lH cG)) h2 h3 (w64 u3) f)) nx
theorem xLC {Nx:Int->St->Prop}:let s1:=Z.row (zN none 0 0 none 0 0 none 0 0 0 0 0) 6;let s2:=s1.own Z.y (zN qD lA cE qE lG cF qG lH cG nB nD nE) 6;let y0:=zN qD lA cE qE lG cF qG lH cG nB nD nE;∀ (h1:lz Z 88 (zJ f8 (Int.toNat aA*6)) (qf y0)) (h2:qm 58 [.slice qG lH cG,iV day] s2 (.bool true) s2) (h3:qm 58 [.slice who aT bk,iV aA] s2 (.bool false) s2) (h4:qo (evL [pt BA (0+Int.toNat aA*1),iV 1]) s2 (.store 3 (.tmp 0) (.tmp 1))=some (undef,ZMB)) (nx:Nx (aA+1) ZMB) (u1:aA<(l1:Int):=by omega) (u2:Ix aA l1:=by omega) (u3:Ix aA 6:=by omega) (u4:I6 (aA+1):=by omega),zLP day who aT bk BA (some f8) l1 c1 aA Z Nx Q0:=
 let s1:=Z.row (zN none 0 0 none 0 0 none 0 0 0 0 0) 6;let s2:=s1.own Z.y (zN qD lA cE qE lG cF qG lH cG nB nD nE) 6;let y0:=zN qD lA cE qE lG cF qG lH cG nB nD nE;fun h1 h2 h3 h4 nx u1 u2 u3 u4=>kO 0 (aA+1) [.b true,.g,.i,.l (qf y0),.g,.g,.e undef s2,.g,.l (.slice qG lH cG),.g,.c (.bool true) s2,.g,.g,.g,.c (.bool false) s2,.g,.g,.g,.i,.e undef ZMB,.n (aA+1),.g] (fun _ f=>an4 (zR u1) u2 h1 ((zC _ _ _).store (vs:=y0) rfl zFF rfl (nle rfl) rfl:qo (evL [pt Z.y 0,qf y0]) s1 (.store 88 (.tmp 0) (.tmp 1))=some (undef,s2)) (an6 ((zC _ _ _).put.rw.ld yT (k:=2) rfl:lz s2 26 (qe Z.y 2) (.slice qG lH cG)) h2 h3 u3 h4 (w64 u4) f)) nx
theorem xLB {Nx:Int->St->Prop}:let s1:=Z.row (zN none 0 0 none 0 0 none 0 0 0 0 0) 6;let s2:=s1.own Z.y (zN qD lA cE qE lG cF qG lH cG nB nD nE) 6;let y0:=zN qD lA cE qE lG cF qG lH cG nB nD nE;∀ (h1:lz Z 88 (zJ f8 (Int.toNat aA*6)) (qf y0)) (h2:qm 58 [.slice qG lH cG,iV day] s2 (.bool false) s2) (nx:Nx (aA+1) s2) (u1:aA<(l1:Int):=by omega) (u2:Ix aA l1:=by omega) (u3:I6 (aA+1):=by omega),zLP day who aT bk BA (some f8) l1 c1 aA Z Nx Q0:=
 let s1:=Z.row (zN none 0 0 none 0 0 none 0 0 0 0 0) 6;let s2:=s1.own Z.y (zN qD lA cE qE lG cF qG lH cG nB nD nE) 6;let y0:=zN qD lA cE qE lG cF qG lH cG nB nD nE;fun h1 h2 nx u1 u2 u3=>kO 0 (aA+1) [.b true,.g,.i,.l (qf y0),.g,.g,.e undef s2,.g,.l (.slice qG lH cG),.g,.c (.bool false) s2,.g,.g,.n (aA+1),.g] (fun _ f=>ai (zR u1) (an6 u2 h1 ((zC _ _ _).store (vs:=y0) rfl zFF rfl (nle rfl) rfl:qo (evL [pt Z.y 0,qf y0]) s1 (.store 88 (.tmp 0) (.tmp 1))=some (undef,s2)) ((zC _ _ _).put.rw.ld yT (k:=2) rfl:lz s2 26 (qe Z.y 2) (.slice qG lH cG)) h2 (w64 u3) f)) nx
theorem xLA {Nx:Int->St->Prop} (nx:Q0 Z) (u1:¬ aA<(l1:Int):=by omega):zLP day who aT bk BA q1 l1 c1 aA Z Nx Q0 :=
 kO 1 () [.b false] (fun _ f=>ai (zT u1) f) nx
theorem xUA (h1:lz (Z.row (zK 0 0 0 0 0 0) 1) 32 (zJ v0 2) (.slice q1 l1 c1)) (hL:yTX day who aT bk Z.y q1 l1 c1 0 (Z.row (zK 0 0 0 0 0 0) 1) P0) (k0:∀ Z',P0 Z'->yDS day who aT bk Z.y q1 l1 c1 Z' Q):qg 57 [iV day,.slice who aT bk,pz v0] Z Q :=
 zH [.g,.g,.l (.slice q1 l1 c1),.g,.g,.lf 30 (zLO day who aT bk Z.y q1 l1 c1 0) [zPL day who aT bk Z.y q1 l1 c1 P0]] (kd (ai h1 (ai (ai tt (ai (arf (zLO day who aT bk Z.y q1 l1 c1 0)) hL)) (ai (kz0 k0) trivial))))
theorem yTU (h1:lz Z 98 (qe BA 0) (qf (zK nJC nBA nBD nBE nBF nBG))) (h2:qo (evL [pt BA 0,qf (zK nJC nBA nBD nBE nBF nBG)]) Z (.store 98 (.tmp 0) (.tmp 1))=some (undef,ZVB)) (h3:lz ZVB 98 (qe BA 0) (qf (zK nCD nTB nBe nBf nBg nBh))) (nx:Q (qf (zK nCD nTB nBe nBf nBg nBh)) ZVB):yDS day who aT bk BA q1 l1 c1 Z Q :=
 sK [.l (qf (zK nJC nBA nBD nBE nBF nBG)),.e undef ZVB,.l (qf (zK nCD nTB nBe nBf nBg nBh))] (an3 h1 h2 h3 nx)
theorem xYJ:let s1:=Z.row (wkc ak af ac ad ae aa ab am au aj) 6;∀ (h1:qm 16 [qf (wkc ak af ac ad ae aa ab am au aj)] s1 (iV n1) s1) (nx:Q (.tuple ⟨[.slice none 0 0,iV 0,iV n1]⟩) s1) (u1:¬ n1=0:=by omega),qg 37 [qf (wkc ak af ac ad ae aa ab am au aj)] Z Q:=
 let s1:=Z.row (wkc ak af ac ad ae aa ab am au aj) 6;fun h1 nx u1=>zH [.g,.g,.g,.g,.l (qf (wkc ak af ac ad ae aa ab am au aj)),.c (iV n1) s1,.g,.g,.b true,.g,.g,.g,.g] (kd (an3 ((zC _ _ _).rw.ldN xL yR (k:=0) rfl rfl (nle rfl):lz s1 34 (qe Z.y 0) (qf (wkc ak af ac ad ae aa ab am au aj))) h1 (zCC u1) nx))
theorem xYI:let s1:=Z.row (wkc ak af ac ad ae aa ab am au aj) 6;let s2:=Z10.row (zK 0 0 0 0 0 0) 1;let s3:=s2.own Z10.y (zK n3 n4 n5 n6 n7 n8) 1;∀ (h1:qm 16 [qf (wkc ak af ac ad ae aa ab am au aj)] s1 (iV n1) s1) (h2:qm 59 [qf (wkc ak af ac ad ae aa ab am au aj),.bool true,.func (.func 65) ⟨[]⟩ ⟨[]⟩] s1 (.tuple ⟨[.slice q2 l2 c2,qf (zK n3 n4 n5 n6 n7 n8),.bool b9]⟩) Z10) (nx:Q (.tuple ⟨[.slice q2 l2 c2,iV n3,iV 0]⟩) s3) (u1:n1=0:=by omega),qg 37 [qf (wkc ak af ac ad ae aa ab am au aj)] Z Q:=
 let s1:=Z.row (wkc ak af ac ad ae aa ab am au aj) 6;let s2:=Z10.row (zK 0 0 0 0 0 0) 1;let s3:=s2.own Z10.y (zK n3 n4 n5 n6 n7 n8) 1;fun h1 h2 nx u1=>zH [.g,.g,.g,.g,.l (qf (wkc ak af ac ad ae aa ab am au aj)),.c (iV n1) s1,.g,.g,.b false,.g,.l (qf (wkc ak af ac ad ae aa ab am au aj)),.g,.c (.tuple ⟨[.slice q2 l2 c2,qf (zK n3 n4 n5 n6 n7 n8),.bool b9]⟩) Z10,.g,.g,.g,.g,.g,.g,.e undef s3,.g,.g,.i,.l (iV n3),.g,.g,.g] (kd (an2 ((zC _ _ _).rw.ldN xL yR (k:=0) rfl rfl (nle rfl):lz s1 34 (qe Z.y 0) (qf (wkc ak af ac ad ae aa ab am au aj))) h1 (an6 (xR u1) ((zC _ _ _).rw.ldN xL yR (k:=0) rfl rfl (nle rfl):lz s1 34 (qe Z.y 0) (qf (wkc ak af ac ad ae aa ab am au aj))) h2 ((zC _ _ _).store (vs:=(zK n3 n4 n5 n6 n7 n8)) rfl wA rfl (nle rfl) rfl:qo (evL [pt Z10.y 0,qf (zK n3 n4 n5 n6 n7 n8)]) s2 (.store 98 (.tmp 0) (.tmp 1))=some (undef,s3)) (⟨by decide,by decide⟩:xQL 0 6) ((zC _ _ _).put.rw.ld zU (k:=0) rfl:lz s3 3 (qe Z10.y 0) (iV n3)) nx)))
theorem xTV:let s1:=Z.row (zK 0 0 0 0 0 0) 1;let s2:=s1.own Z.y (zK n1 0 0 0 0 0) 1;∀ (h1:qm 63 [.slice who aT bk] s1 (iV n1) s1) (nx:Q (qf (zK n1 0 0 0 0 0)) s2),qg 65 [iV x0,.slice who aT bk] Z Q:=
 let s1:=Z.row (zK 0 0 0 0 0 0) 1;let s2:=s1.own Z.y (zK n1 0 0 0 0 0) 1;fun h1 nx=>zH [.g,.g,.c (iV n1) s1,.g,.e undef s2,.l (qf (zK n1 0 0 0 0 0))] (kd (an3 h1 ((zC _ _ _).store (vs:=(zK n1 0 0 0 0 0)) rfl wA rfl (nle rfl) rfl:qo (evL [pt Z.y 0,qf (zK n1 0 0 0 0 0)]) s1 (.store 98 (.tmp 0) (.tmp 1))=some (undef,s2)) ((zC _ _ _).put.rw.ldN zCX wA (k:=0) rfl rfl (nle rfl):lz s2 98 (qe Z.y 0) (qf (zK n1 0 0 0 0 0))) nx))
end
end Go.Proofs.YtgfiniccfpfplaaGreat
