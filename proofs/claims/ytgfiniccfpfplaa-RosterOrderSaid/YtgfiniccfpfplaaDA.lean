import Derived.Test.YtgfiniccfpfplaaTy
import Derived.Test.YtgfiniccfpfplaaTA
import Derived.Test.YtgfiniccfpfplaaLayD
set_option linter.unusedVariables false
set_option maxRecDepth 20000
set_option linter.unusedSimpArgs false
namespace Go.Proofs.Ytgfiniccfpfplaa
open Go Go.Lay
open Try renaming prog → Pg
section
variable {am ao au aj by_2 n2 n21 n22 n28 n29 n36 n43:Int} {af ae dz q3 q5 q6 q8 q9 q11 q12 q14 q16 q20 q27 q34 q35 q41 q42:oAa} {ab ad aa ac bF bK l3 c3 l5 c5 l6 c6 l8 c8 l9 c9 l11 c11 l12 c12 l14 c14 l16 c16 l20 c20 l27 c27 l34 c34 l35 c35 l41 c41 l42 c42:Nat} {σ σ4 σ7 σ10 σ13 σ15 σ19 σ23 σ26 σ30 σ33 σ37 σ40 σ44 σ48 σ52:St} {Q:vPa} {cs17 cs18 cs24 cs25 cs31 cs32 cs38 cs39 cs46 cs47 cs50 cs51:lVa}
theorem xCY:let s1:=σ.row (wkc am af ab ad ae aa ac ao au aj) 6;∀ (h1:qn 23 [qh (wkc am af ab ad ae aa ac ao au aj)] s1 (.bool true) s1) (nx:Q (.bool true) s1) (u1:(ab:Int)=0:=by omega),yIQ Pg 7 5 [qh (wkc am af ab ad ae aa ac ao au aj),.slice dz bF bK,.int .u8 by_2] σ Q:=
 let s1:=σ.row (wkc am af ab ad ae aa ac ao au aj) 6;fun h1 nx u1=>zUQ [.g,.g,.l (qh (wkc am af ab ad ae aa ac ao au aj)),.c (.bool true) s1,.g,.g,.g,.l (.slice af ab ad),.g,.b true,.g,.c (.bool true) s1,.g] (kc (by kernel_rfl) (an5 ((zC _ _ _).rw.ldN zCR vZ (k:=0) rfl rfl (nle rfl):lz s1 25 (qg σ.y 0) (qh (wkc am af ab ad ae aa ac ao au aj))) (zD.top (aw:=7) h1) ((zC _ _ _).rw.ld vI (k:=1) rfl:lz s1 22 (qg σ.y 1) (.slice af ab ad)) (xH u1) (xOP:zEH (zWA Pg 7) (.func 7) [] s1 (.bool true) s1) nx))
@[reducible] def Hb0 (am ao au aj by_2 n2 n21 n22 n28 n29 n36 n43:Int) (af ae q3 q5 q6 q8 dz q9 q11 q12 q14 q16 q20 q27 q34 q35 q41 q42:oAa) (ab ad aa ac l3 c3 l5 c5 l6 c6 l8 c8 bF bK l9 c9 l11 c11 l12 c12 l14 c14 l16 c16 l20 c20 l27 c27 l34 c34 l35 c35 l41 c41 l42 c42:Nat) (σ σ4 σ7 σ10 σ13 σ15 σ19 σ23 σ26 σ30 σ33 σ37 σ40 σ44 σ48:St) (cs17 cs18 cs24 cs25 cs31 cs32 cs38 cs39 cs46 cs47:lVa):Prop:=qn 23 [.agg ⟨wkc am af ab ad ae aa ac ao au aj⟩] (σ.row (wkc am af ab ad ae aa ac ao au aj) 6) (.bool true) (σ.row (wkc am af ab ad ae aa ac ao au aj) 6)∧uH Pg .rem 3 (.tmp 34) (.tmp 37) (iV by_2) (iV ((ab:Nat):Int))=some (iV n2)∧yI Pg ((((σ.row (wkc am af ab ad ae aa ac ao au aj) 6).row (wkc 0 none 0 0 none 0 0 0 0 0) 6).own (σ.y+1) (wkc am af ab ad ae aa ac ao au aj) 6).row [] 5) 22 (.slice af ab ad) (some (iV n2)) none none=some (.slice q3 l3 c3)∧(yD Pg 22 22 (.slice (some ⟨(σ.y+2),0,none⟩) 0 0) (.slice q3 l3 c3) ((((σ.row (wkc am af ab ad ae aa ac ao au aj) 6).row (wkc 0 none 0 0 none 0 0 0 0 0) 6).own (σ.y+1) (wkc am af ab ad ae aa ac ao au aj) 6).row [] 5)=some (.slice q5 l5 c5,σ4))∧qp σ4 22 ⟨σ.y,1,none⟩=some (.slice af ab ad)∧yI Pg σ4 22 (.slice af ab ad) none (some (iV n2)) none=some (.slice q6 l6 c6)∧yD Pg 22 22 (.slice q5 l5 c5) (.slice q6 l6 c6) σ4=some (.slice q8 l8 c8,σ7)∧(qq (evL [.pointer (some ⟨(σ.y+1),1,none⟩),.slice q8 l8 c8]) σ7 (.store 22 (.tmp 0) (.tmp 1))=some (undef,(σ7.own (σ.y+1) (wkc am q8 l8 c8 ae aa ac ao au aj) 6)))∧zG σ4.y [.pointer (some ⟨σ.y,1,none⟩)]∧zG σ4.y [.slice af ab ad,iV n2]∧zG σ4.y [.slice q5 l5 c5,.slice q6 l6 c6]∧(zG σ7.y [.pointer (some ⟨(σ.y+1),1,none⟩),.slice q8 l8 c8])∧qp (((σ.row (wkc am af ab ad ae aa ac ao au aj) 6).row (wkc 0 none 0 0 none 0 0 0 0 0) 6).own (σ.y+1) (wkc am af ab ad ae aa ac ao au aj) 6) 22 ⟨σ.y,1,none⟩=some (.slice af ab ad)∧(((zG (((σ.row (wkc am af ab ad ae aa ac ao au aj) 6).row (wkc 0 none 0 0 none 0 0 0 0 0) 6).own (σ.y+1) (wkc am af ab ad ae aa ac ao au aj) 6).y [.slice af ab ad,iV n2]∧zL RD (.slice q3 l3 c3)=true)∧yI Pg (((σ.row (wkc am af ab ad ae aa ac ao au aj) 6).row (wkc 0 none 0 0 none 0 0 0 0 0) 6).own (σ.y+1) (wkc am af ab ad ae aa ac ao au aj) 6) 22 (.slice af ab ad) (some (iV n2)) none none=some (.slice q3 l3 c3)))∧(((zG ((((σ.row (wkc am af ab ad ae aa ac ao au aj) 6).row (wkc 0 none 0 0 none 0 0 0 0 0) 6).own (σ.y+1) (wkc am af ab ad ae aa ac ao au aj) 6).row [] 5).y [.slice af ab ad,iV n2]∧zL RD (.slice q3 l3 c3)=true)∧yI Pg ((((σ.row (wkc am af ab ad ae aa ac ao au aj) 6).row (wkc 0 none 0 0 none 0 0 0 0 0) 6).own (σ.y+1) (wkc am af ab ad ae aa ac ao au aj) 6).row [] 5) 22 (.slice af ab ad) (some (iV n2)) none none=some (.slice q3 l3 c3)))∧((zLq σ4 22 ⟨σ.y,1,none⟩ (.slice af ab ad)))∧(((zG (((σ.row (wkc am af ab ad ae aa ac ao au aj) 6).row (wkc 0 none 0 0 none 0 0 0 0 0) 6).own (σ.y+1) (wkc am af ab ad ae aa ac ao au aj) 6).y [.slice af ab ad,iV n2]∧zL RD (.slice q6 l6 c6)=true)∧yI Pg (((σ.row (wkc am af ab ad ae aa ac ao au aj) 6).row (wkc 0 none 0 0 none 0 0 0 0 0) 6).own (σ.y+1) (wkc am af ab ad ae aa ac ao au aj) 6) 22 (.slice af ab ad) none (some (iV n2)) none=some (.slice q6 l6 c6)))∧(((zG ((((σ.row (wkc am af ab ad ae aa ac ao au aj) 6).row (wkc 0 none 0 0 none 0 0 0 0 0) 6).own (σ.y+1) (wkc am af ab ad ae aa ac ao au aj) 6).row [] 5).y [.slice af ab ad,iV n2]∧zL RD (.slice q6 l6 c6)=true)∧yI Pg ((((σ.row (wkc am af ab ad ae aa ac ao au aj) 6).row (wkc 0 none 0 0 none 0 0 0 0 0) 6).own (σ.y+1) (wkc am af ab ad ae aa ac ao au aj) 6).row [] 5) 22 (.slice af ab ad) none (some (iV n2)) none=some (.slice q6 l6 c6)))∧(((zG σ4.y [.slice af ab ad,iV n2]∧zL RD (.slice q6 l6 c6)=true)∧yI Pg σ4 22 (.slice af ab ad) none (some (iV n2)) none=some (.slice q6 l6 c6)))∧qp (σ7.own (σ.y+1) (wkc am q8 l8 c8 ae aa ac ao au aj) 6) 25 ⟨σ.y,0,none⟩=some (.agg ⟨wkc am af ab ad ae aa ac ao au aj⟩)∧(qn 8 [.agg ⟨wkc am af ab ad ae aa ac ao au aj⟩,.slice dz bF bK] (σ7.own (σ.y+1) (wkc am q8 l8 c8 ae aa ac ao au aj) 6) (.slice q9 l9 c9) σ10)∧yI Pg σ10 29 (.slice q9 l9 c9) (some (iV n2)) none none=some (.slice q11 l11 c11)∧qn 10 [.slice q11 l11 c11] σ10 (.slice q12 l12 c12) σ13∧yI Pg σ13 29 (.slice q9 l9 c9) none (some (iV n2)) none=some (.slice q14 l14 c14)∧yD Pg 29 29 (.slice q12 l12 c12) (.slice q14 l14 c14) σ13=some (.slice q16 l16 c16,σ15)∧zG σ10.y [.slice q9 l9 c9,iV n2]∧zG σ10.y [.slice q11 l11 c11]∧zG σ13.y [.slice q9 l9 c9,iV n2]∧zG σ13.y [.slice q12 l12 c12,.slice q14 l14 c14]∧(((zG σ10.y [.slice q9 l9 c9,iV n2]∧zL RD (.slice q14 l14 c14)=true)∧yI Pg σ10 29 (.slice q9 l9 c9) none (some (iV n2)) none=some (.slice q14 l14 c14)))∧(((zG σ13.y [.slice q9 l9 c9,iV n2]∧zL RD (.slice q14 l14 c14)=true)∧yI Pg σ13 29 (.slice q9 l9 c9) none (some (iV n2)) none=some (.slice q14 l14 c14)))∧qp σ15 25 ⟨σ.y,0,none⟩=some (.agg ⟨cs17⟩)∧qn 12 [.agg ⟨cs17⟩] σ15 (.agg ⟨cs18⟩) σ19∧qn 18 [.agg ⟨cs18⟩] σ19 (.tuple ⟨[.slice q20 l20 c20,iV n21,iV n22]⟩) σ23∧(qp σ23 25 ⟨(σ.y+1),0,none⟩=some (.agg ⟨cs24⟩))∧qn 12 [.agg ⟨cs24⟩] σ23 (.agg ⟨cs25⟩) σ26∧qn 18 [.agg ⟨cs25⟩] σ26 (.tuple ⟨[.slice q27 l27 c27,iV n28,iV n29]⟩) σ30∧qp σ30 25 ⟨σ.y,0,none⟩=some (.agg ⟨cs31⟩)∧qn 12 [.agg ⟨cs31⟩] σ30 (.agg ⟨cs32⟩) σ33∧qn 21 [.agg ⟨cs32⟩] σ33 (.tuple ⟨[.slice q34 l34 c34,.slice q35 l35 c35,iV n36]⟩) σ37∧(qp σ37 25 ⟨(σ.y+1),0,none⟩=some (.agg ⟨cs38⟩))∧qn 12 [.agg ⟨cs38⟩] σ37 (.agg ⟨cs39⟩) σ40∧qn 21 [.agg ⟨cs39⟩] σ40 (.tuple ⟨[.slice q41 l41 c41,.slice q42 l42 c42,iV n43]⟩) σ44∧qn 19 [.slice q35 l35 c35,.slice q42 l42 c42] σ44 (.bool true) σ44∧qp σ44 25 ⟨σ.y,0,none⟩=some (.agg ⟨cs46⟩)∧qn 12 [.agg ⟨cs46⟩] σ44 (.agg ⟨cs47⟩) σ48
theorem xCX:let y0:=wkc am af ab ad ae aa ac ao au aj;let y1:Value:=.bool true;∀ (H:Hb0 am ao au aj by_2 n2 n21 n22 n28 n29 n36 n43 af ae q3 q5 q6 q8 dz q9 q11 q12 q14 q16 q20 q27 q34 q35 q41 q42 ab ad aa ac l3 c3 l5 c5 l6 c6 l8 c8 bF bK l9 c9 l11 c11 l12 c12 l14 c14 l16 c16 l20 c20 l27 c27 l34 c34 l35 c35 l41 c41 l42 c42 σ σ4 σ7 σ10 σ13 σ15 σ19 σ23 σ26 σ30 σ33 σ37 σ40 σ44 σ48 cs17 cs18 cs24 cs25 cs31 cs32 cs38 cs39 cs46 cs47) (h47:qn 20 [qh cs47,.slice q9 l9 c9,iV 0] σ48 y1 σ48) (h48:lz σ48 25 ⟨(σ.y+1),0,none⟩ (qh cs50)) (h49:qn 12 [qh cs50] σ48 (qh cs51) σ52) (h50:qn 20 [qh cs51,.slice q16 l16 c16,iV 0] σ52 y1 σ52) (h51:zG σ44.y [.slice q35 l35 c35,.slice q42 l42 c42]) (h52:zG σ44.y [pq σ.y 0]) (h53:zG σ44.y [qh cs46]) (h54:zG σ48.y [qh cs47,.slice q9 l9 c9,iV 0]) (h55:zG σ48.y [pq ((σ.y+1)) 0]) (h56:zG σ48.y [qh cs50]) (h57:zG σ52.y [qh cs51,.slice q16 l16 c16,iV 0]) (h58:(zLq σ44 25 ⟨(σ.y+1),0,none⟩ (qh cs50))) (h59:(zLq σ48 25 ⟨(σ.y+1),0,none⟩ (qh cs50))) (fW:∀ a,af=some a→a.block<σ.y) (b_q3:∀ a,q3=some a→a.block<σ.y) (nx:Q y1 σ52) (u1:¬ (ab:Int)=0:=by omega) (u2:I6 by_2:=by omega) (u3:n22=0:=by omega) (u4:n29=0:=by omega) (u5:n21=n28:=by omega) (u6:n36=n43:=by omega),yIQ Pg 7 5 [qh y0,.slice dz bF bK,.int .u8 by_2] σ Q :=
 let y0:=wkc am af ab ad ae aa ac ao au aj;let y1:Value:=.bool true;fun H h47 h48 h49 h50 h51 h52 h53 h54 h55 h56 h57 h58 h59 fW b_q3 nx u1 u2 u3 u4 u5 u6=>match H with|⟨h1,h2,h3,h4,h5,h6,h7,h8,h9,h10,h11,h12,h13,h14,h15,h16,h17,h18,h19,h20,h21,h22,h23,h24,h25,h26,h27,h28,h29,h30,h31,h32,h33,h34,h35,h36,h37,h38,h39,h40,h41,h42,h43,h44,h45,h46⟩=>let s1:=σ.row y0 6;let s2:=s1.row (wkc 0 none 0 0 none 0 0 0 0 0) 6;let s3:=s2.own (σ.y+1) y0 6;let s4:=s3.row [] 5;zUQ [.g,.g,.l (qh y0),.c y1 s1,.g,.g,.g,.l (.slice af ab ad),.g,.b false,.g,.g,.n by_2,.g,.l (.slice af ab ad),.g,.v (iV n2),.g,.l (qh y0),.g,.e undef s3,.g,.g,.l (.slice af ab ad),.g,.v (.slice q3 l3 c3),.e (.slice q5 l5 c5) σ4,.g,.l (.slice af ab ad),.g,.v (.slice q6 l6 c6),.e (.slice q8 l8 c8) σ7,.g,.e undef (σ7.own (σ.y+1) (wkc am q8 l8 c8 ae aa ac ao au aj) 6),.l (qh y0),.g,.c (.slice q9 l9 c9) σ10,.g,.g,.g,.v (.slice q11 l11 c11),.c (.slice q12 l12 c12) σ13,.g,.g,.v (.slice q14 l14 c14),.e (.slice q16 l16 c16) σ15,.g,.l (qh cs17),.c (qh cs18) σ19,.c (.tuple ⟨[.slice q20 l20 c20,iV n21,iV n22]⟩) σ23,.g,.g,.g,.g,.g,.g,.g,.l (qh cs24),.c (qh cs25) σ26,.c (.tuple ⟨[.slice q27 l27 c27,iV n28,iV n29]⟩) σ30,.g,.g,.g,.g,.g,.g,.g,.l (qh cs31),.c (qh cs32) σ33,.c (.tuple ⟨[.slice q34 l34 c34,.slice q35 l35 c35,iV n36]⟩) σ37,.g,.g,.g,.g,.g,.g,.g,.l (qh cs38),.c (qh cs39) σ40,.c (.tuple ⟨[.slice q41 l41 c41,.slice q42 l42 c42,iV n43]⟩) σ44,.g,.g,.g,.g,.g,.g,.g,.g,.b true,.g,.g,.b true,.g,.g,.g,.g,.b true,.g,.g,.g,.g,.b true,.g,.g,.g,.g,.c y1 σ44,.g,.g,.l (qh cs46),.c (qh cs47) σ48,.g,.c y1 σ48,.l (qh cs50),.c (qh cs51) σ52,.g,.c y1 σ52,.g,.g,.g,.c y1 σ52,.g,.g] (kc (by kernel_rfl) (an4 ((zC _ _ _).rw.ldN zCR vZ (k:=0) rfl rfl (nle rfl):lz s1 25 (qg σ.y 0) (qh y0)) (zD.top (aw:=7) h1) ((zC _ _ _).rw.ld vI (k:=1) rfl:lz s1 22 (qg σ.y 1) (.slice af ab ad)) (xL u1) (an6 (w64 u2) ((zC _ _ _).rw.ld vI (k:=1) rfl:lz s1 22 (qg σ.y 1) (.slice af ab ad)) h2 ((zC _ _ _).rw.ldN zCR vZ (k:=0) rfl rfl (nle rfl):lz s1 25 (qg σ.y 0) (qh y0)) ((zC _ _ _).store (vs:=y0) rfl vZ rfl (nle rfl) rfl:qq (evL [pq ((σ.y+1)) 0,qh y0]) s2 (.store 25 (.tmp 0) (.tmp 1))=some (undef,s3)) (((zC _ _ _).row.own (nne σ.y 0 1 rfl)).row.rw.ld vI (k:=1) rfl:lz s4 22 (qg σ.y 1) (.slice af ab ad)) (an6 h3 h4 h5 h6 h7 h8 (an6 ((zE (zO (nlt σ.y 0 3 rfl)) zH):zG s4.y [pq σ.y 1]) ((zE (zCA fW 3) (zE (yL rfl) zH)):zG s4.y [.slice af ab ad,iV n2]) ((zE (zEF (nlt σ.y 2 3 rfl)) (zE (zCA b_q3 3) zH)):zG s4.y [.slice (some ⟨(σ.y+2),0,none⟩) 0 0,.slice q3 l3 c3]) h9 h10 h11 (an6 h12 (⟨⟨(nlt σ.y 0 2 rfl),rfl⟩,h13⟩:(zLq s3 22 (qg σ.y 1) (.slice af ab ad))) (⟨⟨(nlt σ.y 0 3 rfl),rfl⟩,(((zC _ _ _).row.own (nne σ.y 0 1 rfl)).row.rw.ld vI (k:=1) rfl)⟩:(zLq s4 22 (qg σ.y 1) (.slice af ab ad))) h14 h15 (⟨⟨(nlt σ.y 0 2 rfl),rfl⟩,h13⟩:(zLq s3 22 (qg σ.y 1) (.slice af ab ad))) (an6 (⟨⟨(nlt σ.y 0 3 rfl),rfl⟩,(((zC _ _ _).row.own (nne σ.y 0 1 rfl)).row.rw.ld vI (k:=1) rfl)⟩:(zLq s4 22 (qg σ.y 1) (.slice af ab ad))) (⟨⟨(nlt σ.y 0 3 rfl),rfl⟩,(((zC _ _ _).row.own (nne σ.y 0 1 rfl)).row.rw.ld vI (k:=1) rfl)⟩:(zLq s4 22 (qg σ.y 1) (.slice af ab ad))) h16 h17 h18 h18 (an6 h19 h20 (zD.top (aw:=7) h21) h22 (zD.top (aw:=7) h23) h24 (an6 h25 h26 h27 h28 h29 h30 (an6 h31 h32 (zD.top (aw:=7) h33) (zD.top (aw:=7) h34) h35 (zD.top (aw:=7) h36) (an6 (zD.top (aw:=7) h37) h38 (zD.top (aw:=7) h39) (zD.top (aw:=7) h40) h41 (zD.top (aw:=7) h42) (an6 (zD.top (aw:=7) h43) (xH u3) (xH u4) (xH u5) (xH u6) (zD.top (aw:=7) h44) (an6 h45 (zD.top (aw:=7) h46) (zD.top (aw:=7) h47) h48 (zD.top (aw:=7) h49) (zD.top (aw:=7) h50) (an6 (xOP:zEH (zWA Pg 7) (.func 7) [] σ52 y1 σ52) h51 h52 h53 h54 h55 (an6 h56 h57 h58 h59 h59 h59 nx)))))))))))))))
theorem xCW:let y0:=wkc am af ab ad ae aa ac ao au aj;∀ (H:Hb0 am ao au aj by_2 n2 n21 n22 n28 n29 n36 n43 af ae q3 q5 q6 q8 dz q9 q11 q12 q14 q16 q20 q27 q34 q35 q41 q42 ab ad aa ac l3 c3 l5 c5 l6 c6 l8 c8 bF bK l9 c9 l11 c11 l12 c12 l14 c14 l16 c16 l20 c20 l27 c27 l34 c34 l35 c35 l41 c41 l42 c42 σ σ4 σ7 σ10 σ13 σ15 σ19 σ23 σ26 σ30 σ33 σ37 σ40 σ44 σ48 cs17 cs18 cs24 cs25 cs31 cs32 cs38 cs39 cs46 cs47) (h47:qn 20 [qh cs47,.slice q9 l9 c9,iV 0] σ48 (.bool false) σ48) (h48:lz σ48 25 ⟨(σ.y+1),0,none⟩ (qh cs50)) (h49:qn 12 [qh cs50] σ48 (qh cs51) σ52) (h50:qn 20 [qh cs51,.slice q16 l16 c16,iV 0] σ52 (.bool false) σ52) (h51:zG σ44.y [.slice q35 l35 c35,.slice q42 l42 c42]) (h52:zG σ44.y [pq σ.y 0]) (h53:zG σ44.y [qh cs46]) (h54:zG σ48.y [qh cs47,.slice q9 l9 c9,iV 0]) (h55:zG σ48.y [pq ((σ.y+1)) 0]) (h56:zG σ48.y [qh cs50]) (h57:zG σ52.y [qh cs51,.slice q16 l16 c16,iV 0]) (h58:(zLq σ44 25 ⟨(σ.y+1),0,none⟩ (qh cs50))) (h59:(zLq σ48 25 ⟨(σ.y+1),0,none⟩ (qh cs50))) (fW:∀ a,af=some a→a.block<σ.y) (b_q3:∀ a,q3=some a→a.block<σ.y) (nx:Q (.bool true) σ52) (u1:¬ (ab:Int)=0:=by omega) (u2:I6 by_2:=by omega) (u3:n22=0:=by omega) (u4:n29=0:=by omega) (u5:n21=n28:=by omega) (u6:n36=n43:=by omega),yIQ Pg 7 5 [qh y0,.slice dz bF bK,.int .u8 by_2] σ Q :=
 let y0:=wkc am af ab ad ae aa ac ao au aj;fun H h47 h48 h49 h50 h51 h52 h53 h54 h55 h56 h57 h58 h59 fW b_q3 nx u1 u2 u3 u4 u5 u6=>match H with|⟨h1,h2,h3,h4,h5,h6,h7,h8,h9,h10,h11,h12,h13,h14,h15,h16,h17,h18,h19,h20,h21,h22,h23,h24,h25,h26,h27,h28,h29,h30,h31,h32,h33,h34,h35,h36,h37,h38,h39,h40,h41,h42,h43,h44,h45,h46⟩=>let s1:=σ.row y0 6;let s2:=s1.row (wkc 0 none 0 0 none 0 0 0 0 0) 6;let s3:=s2.own (σ.y+1) y0 6;let s4:=s3.row [] 5;zUQ [.g,.g,.l (qh y0),.c (.bool true) s1,.g,.g,.g,.l (.slice af ab ad),.g,.b false,.g,.g,.n by_2,.g,.l (.slice af ab ad),.g,.v (iV n2),.g,.l (qh y0),.g,.e undef s3,.g,.g,.l (.slice af ab ad),.g,.v (.slice q3 l3 c3),.e (.slice q5 l5 c5) σ4,.g,.l (.slice af ab ad),.g,.v (.slice q6 l6 c6),.e (.slice q8 l8 c8) σ7,.g,.e undef (σ7.own (σ.y+1) (wkc am q8 l8 c8 ae aa ac ao au aj) 6),.l (qh y0),.g,.c (.slice q9 l9 c9) σ10,.g,.g,.g,.v (.slice q11 l11 c11),.c (.slice q12 l12 c12) σ13,.g,.g,.v (.slice q14 l14 c14),.e (.slice q16 l16 c16) σ15,.g,.l (qh cs17),.c (qh cs18) σ19,.c (.tuple ⟨[.slice q20 l20 c20,iV n21,iV n22]⟩) σ23,.g,.g,.g,.g,.g,.g,.g,.l (qh cs24),.c (qh cs25) σ26,.c (.tuple ⟨[.slice q27 l27 c27,iV n28,iV n29]⟩) σ30,.g,.g,.g,.g,.g,.g,.g,.l (qh cs31),.c (qh cs32) σ33,.c (.tuple ⟨[.slice q34 l34 c34,.slice q35 l35 c35,iV n36]⟩) σ37,.g,.g,.g,.g,.g,.g,.g,.l (qh cs38),.c (qh cs39) σ40,.c (.tuple ⟨[.slice q41 l41 c41,.slice q42 l42 c42,iV n43]⟩) σ44,.g,.g,.g,.g,.g,.g,.g,.g,.b true,.g,.g,.b true,.g,.g,.g,.g,.b true,.g,.g,.g,.g,.b true,.g,.g,.g,.g,.c (.bool true) σ44,.g,.g,.l (qh cs46),.c (qh cs47) σ48,.g,.c (.bool false) σ48,.l (qh cs50),.c (qh cs51) σ52,.g,.c (.bool false) σ52,.g,.g,.g,.c (.bool true) σ52,.g,.g] (kc (by kernel_rfl) (an4 ((zC _ _ _).rw.ldN zCR vZ (k:=0) rfl rfl (nle rfl):lz s1 25 (qg σ.y 0) (qh y0)) (zD.top (aw:=7) h1) ((zC _ _ _).rw.ld vI (k:=1) rfl:lz s1 22 (qg σ.y 1) (.slice af ab ad)) (xL u1) (an6 (w64 u2) ((zC _ _ _).rw.ld vI (k:=1) rfl:lz s1 22 (qg σ.y 1) (.slice af ab ad)) h2 ((zC _ _ _).rw.ldN zCR vZ (k:=0) rfl rfl (nle rfl):lz s1 25 (qg σ.y 0) (qh y0)) ((zC _ _ _).store (vs:=y0) rfl vZ rfl (nle rfl) rfl:qq (evL [pq ((σ.y+1)) 0,qh y0]) s2 (.store 25 (.tmp 0) (.tmp 1))=some (undef,s3)) (((zC _ _ _).row.own (nne σ.y 0 1 rfl)).row.rw.ld vI (k:=1) rfl:lz s4 22 (qg σ.y 1) (.slice af ab ad)) (an6 h3 h4 h5 h6 h7 h8 (an6 ((zE (zO (nlt σ.y 0 3 rfl)) zH):zG s4.y [pq σ.y 1]) ((zE (zCA fW 3) (zE (yL rfl) zH)):zG s4.y [.slice af ab ad,iV n2]) ((zE (zEF (nlt σ.y 2 3 rfl)) (zE (zCA b_q3 3) zH)):zG s4.y [.slice (some ⟨(σ.y+2),0,none⟩) 0 0,.slice q3 l3 c3]) h9 h10 h11 (an6 h12 (⟨⟨(nlt σ.y 0 2 rfl),rfl⟩,h13⟩:(zLq s3 22 (qg σ.y 1) (.slice af ab ad))) (⟨⟨(nlt σ.y 0 3 rfl),rfl⟩,(((zC _ _ _).row.own (nne σ.y 0 1 rfl)).row.rw.ld vI (k:=1) rfl)⟩:(zLq s4 22 (qg σ.y 1) (.slice af ab ad))) h14 h15 (⟨⟨(nlt σ.y 0 2 rfl),rfl⟩,h13⟩:(zLq s3 22 (qg σ.y 1) (.slice af ab ad))) (an6 (⟨⟨(nlt σ.y 0 3 rfl),rfl⟩,(((zC _ _ _).row.own (nne σ.y 0 1 rfl)).row.rw.ld vI (k:=1) rfl)⟩:(zLq s4 22 (qg σ.y 1) (.slice af ab ad))) (⟨⟨(nlt σ.y 0 3 rfl),rfl⟩,(((zC _ _ _).row.own (nne σ.y 0 1 rfl)).row.rw.ld vI (k:=1) rfl)⟩:(zLq s4 22 (qg σ.y 1) (.slice af ab ad))) h16 h17 h18 h18 (an6 h19 h20 (zD.top (aw:=7) h21) h22 (zD.top (aw:=7) h23) h24 (an6 h25 h26 h27 h28 h29 h30 (an6 h31 h32 (zD.top (aw:=7) h33) (zD.top (aw:=7) h34) h35 (zD.top (aw:=7) h36) (an6 (zD.top (aw:=7) h37) h38 (zD.top (aw:=7) h39) (zD.top (aw:=7) h40) h41 (zD.top (aw:=7) h42) (an6 (zD.top (aw:=7) h43) (xH u3) (xH u4) (xH u5) (xH u6) (zD.top (aw:=7) h44) (an6 h45 (zD.top (aw:=7) h46) (zD.top (aw:=7) h47) h48 (zD.top (aw:=7) h49) (zD.top (aw:=7) h50) (an6 (xOP:zEH (zWA Pg 7) (.func 7) [] σ52 (.bool true) σ52) h51 h52 h53 h54 h55 (an6 h56 h57 h58 h59 h59 h59 nx)))))))))))))))
theorem xCV:let s1:=σ.row (wkc am af ab ad ae aa ac ao au aj) 6;∀ (h1:qn 23 [qh (wkc am af ab ad ae aa ac ao au aj)] s1 (.bool false) s1) (nx:Q (.bool true) s1),yIQ Pg 7 5 [qh (wkc am af ab ad ae aa ac ao au aj),.slice dz bF bK,.int .u8 by_2] σ Q:=
 let s1:=σ.row (wkc am af ab ad ae aa ac ao au aj) 6;fun h1 nx=>zUQ [.g,.g,.l (qh (wkc am af ab ad ae aa ac ao au aj)),.c (.bool false) s1,.g,.g,.g,.c (.bool true) s1,.g] (kc (by kernel_rfl) (an3 ((zC _ _ _).rw.ldN zCR vZ (k:=0) rfl rfl (nle rfl):lz s1 25 (qg σ.y 0) (qh (wkc am af ab ad ae aa ac ao au aj))) (zD.top (aw:=7) h1) (xOP:zEH (zWA Pg 7) (.func 7) [] s1 (.bool true) s1) nx))
end
theorem yQR {ox oy:Operand} {t:TypeId} {a b:Int} (h:b≠0):uH Pg .rem t ox oy (iV a) (iV b)=some (iV (a.tmod b)):=by
 simp [uH,zDN,yHG,h]
abbrev yZA (x:Int):Value:=.int .u8 x
section
variable {σ z:St} {w:Wk} {p q r pw:Option Addr} {l m c d rl rc lw cw:Nat} {xs ws:List Int}
theorem xSZ (h:WkP z 35 70 w p l q m) (hw:SlV Pg z 5 1 pw lw (ws.map yZA)) (hb:∀ x∈ws,0≤x∧x≤255) (hl:l≤12) (hm6:m≤6) :
  ∃ out:List Int,∃ p' c' z',zD Pg 8 [.agg ⟨wkc w.M p l c q m d w.rest w.run w.j⟩,.slice pw lw cw] z (.slice p' l c') z'∧New z z'∧Ax z' (z.y+1) 1 p' l c' (out.map zZ)∧out.length=l∧∀ y∈out, -1≤y∧y<(m:Int):=by
 obtain ⟨t1,ht1⟩:∃ t1,t1=z.re.row (wkc w.M p l c q m d w.rest w.run w.j) 6:=⟨_,rfl⟩;have n1:t1.y=z.y+1:=by rw [ht1];rfl
 have M1:New z.re t1:=by rw [ht1];exact New.row _ _ _
 have w1:Row t1 ⟨z.y,0,none⟩ (wkc w.M p l c q m d w.rest w.run w.j):=by rw [ht1];exact xQ z.re _ _
 suffices hmain:zP Pg 8 [.agg ⟨wkc w.M p l c q m d w.rest w.run w.j⟩,.slice pw lw cw] z.re fun v s=>New z.re s∧∃ out:List Int,∃ p' c',v=.slice p' l c'∧Ax s (z.y+1) 1 p' l c' (out.map zZ)∧out.length=l∧∀ y∈out, -1≤y∧y<(m:Int) by
  obtain ⟨v,s,h1,h2,out,p',c',rfl,h3,h4⟩:=zP.new hmain (by
   rintro v s s' ⟨out,p',c',e,g1,g2⟩ hle;exact ⟨out,p',c',e,g1.le hle,g2⟩) (by
   rintro v s hr ⟨out,p',c',rfl,g1,g2⟩;cases p' with
   | some a=>exact Bool.noConfusion (show false=true from hr)
   | none =>
    rcases g1 with g1 | ⟨b,e,_⟩
    ·refine ⟨out,none,c',rfl, ?_,g2⟩
     have hc:out.map zZ=[]∧l=0∧c'=0:=by
      generalize out.map zZ=cs at g1 ⊢;cases g1
      exact ⟨rfl,rfl,rfl⟩
     rw [hc.1,hc.2.1,hc.2.2];exact .inl .nil
    ·cases e)
  exact ⟨out,p',c',s,h1,h2,h3,h4⟩
 let Jn:Nat→Option Addr→Nat→Nat→St→Prop:=fun j p5 l5 c5 y=>∃ out:List Int,New z.re y∧Row y ⟨z.y,0,none⟩ (wkc w.M p l c q m d w.rest w.run w.j)∧Ax y (z.y+1) 1 p5 l5 c5 (out.map zZ)∧l5=j∧out.length=j∧∀ y∈out, -1≤y∧y<(m:Int)
 have hL:yAJ pw lw cw z.y none 0 0 0 t1 (fun p5 l5 c5 y=>Jn l p5 l5 c5 y):=by
  refine yPC (Inv:=fun k p5 l5 c5 i y=>∃ j:Nat,i=(j:Int)∧j+k=l∧Jn j p5 l5 c5 y) ?_ l none 0 0 0 t1 ⟨0,rfl,by omega,[],M1,w1,Ax.nil,rfl,rfl,fun y hy=>by cases hy⟩;rintro k p5 l5 c5 i y ⟨j,rfl,hk,out,J1,J2,J3,rfl,J4,J5⟩;have h1:zB Pg y 22 ⟨z.y,1,none⟩=some (.slice p l c):=J2.ld vI rfl;have h2:zB Pg y 23 ⟨z.y,2,none⟩=some (.slice q m d):=J2.ld zGA rfl;by_cases hj:l5<l;rotate_left
  ·have:l5=l:=by omega
   subst this;exact xFG h1 ⟨out,J1,J2,J3,rfl,J4,J5⟩ (by omega)
  have yn:z.y<y.y:=J2.lt;have step:∀ x:Int, -1≤x∧x<(m:Int)→∃ p4 c4 s4,yD Pg 29 29 (.slice p5 l5 c5) (.slice (some ⟨y.y,0,none⟩) 1 1) (y.row [iV x] 1)=some (.slice p4 (l5+1) c4,s4)∧∃ k',k' < k∧∃ j':Nat,(l5:Int)+1=(j':Int)∧j'+k'=l∧Jn j' p4 (l5+1) c4 s4:=fun x hx=>by
   obtain ⟨t3,ht3⟩:∃ t3,t3=y.row [iV x] 1:=⟨_,rfl⟩;have M3:New y t3:=by rw [ht3];exact New.row _ _ _
   have r3:Row t3 ⟨y.y,0,none⟩ [iV x]:=by rw [ht3];exact xQ _ _ _
   have nx3:=M3.nx;obtain ⟨p4,c4,s4,ap4,A4,O4,b4⟩:=Ax.append (P:=Pg) (k:=1) (m:=1) (n0:=z.y+1) zAU (J3.le M3.le) (r3.sl rfl) (by omega) rfl (by omega);have N4:New z.re s4:=(J1.trans M3).of_only O4 (fun b hb=>by have:=(J3.bd b hb).1;show z.y≤b;omega);have w4:=O4.rw' (J2.le M3.le) (fun hb=>by have hb:AtP p5 z.y:=hb;have:=(J3.bd _ hb).1;omega);rw [ht3] at ap4;exact ⟨p4,c4,s4,ap4,k-1,by omega,l5+1,by omega,by omega,out++[x],N4,w4,by rw [List.map_append];exact A4,rfl,by simp [J4],fun y hy=>by
    rcases List.mem_append.1 hy with hy | hy
    ·exact J5 y hy
    ·rw [List.mem_singleton.1 hy];exact hx⟩
  by_cases g1:0<lw;rotate_left
  ·obtain ⟨p4,c4,s4,ap4,nx⟩:=step (-1) ⟨by omega,by omega⟩;exact xFH h1 ap4 nx (by omega) (by omega) ⟨by omega,by omega⟩
  by_cases g2:0<m;rotate_left
  ·obtain ⟨p4,c4,s4,ap4,nx⟩:=step (-1) ⟨by omega,by omega⟩;exact xFI h1 h2 ap4 nx (by omega) (by omega) (by omega) ⟨by omega,by omega⟩
  have hw1:SlV Pg y 5 1 pw lw (ws.map yZA):=SlV.le hw ((le0 z).trans J1.le);have hmod:l5 % lw<lw:=Nat.mod_lt _ g1;obtain ⟨aw,rfl,x,hx,ldx⟩:=vQ (f:=yZA) hw1 hmod;have hxb:=hb x (List.mem_of_getElem? hx);have eT:(l5:Int).tmod (lw:Int)=((l5 % lw:Nat):Int):=by rw [Int.tmod_eq_emod_of_nonneg (by omega)];omega
  have rm1:uH Pg .rem 3 (.tmp 25) (.tmp 27) (iV (l5:Int)) (iV (lw:Int))=some (iV ((l5 % lw:Nat):Int)):=by rw [yQR (by omega),eT]
  have rm2:uH Pg .rem 3 (.tmp 31) (.tmp 35) (iV x) (iV ((m:Int)+1))=some (iV (x.tmod ((m:Int)+1))):=yQR (by omega);have e2:x.tmod ((m:Int)+1)=x % ((m:Int)+1):=Int.tmod_eq_emod_of_nonneg (by omega);have e3:=Int.emod_nonneg x (show (m:Int)+1≠0 by omega);have e4:=Int.emod_lt_of_pos x (show 0<(m:Int)+1 by omega);obtain ⟨p4,c4,s4,ap4,nx⟩:=step (x.tmod ((m:Int)+1)-1) ⟨by omega,by omega⟩;exact xFJ h1 h2 rm1 ldx rm2 ap4 nx (by omega) (by omega) (by omega) ⟨by omega,by omega⟩ ⟨by omega,by omega⟩ ⟨by omega,by omega⟩ ⟨by omega,by omega⟩ ⟨by omega,by omega⟩
 subst ht1;refine xOB hL ?_
 rintro p5 l5 c5 y ⟨out,J1,J2,J3,rfl,J4,J5⟩;exact yPB ⟨J1,out,p5,c5,rfl,J3,J4,J5⟩
end
def turn (l t i:Nat):Nat:=if i+t<l then i+t else i+t-l
theorem yWU {l t i:Nat} (ht:t≤l) (hi:i<l):turn l t i<l:=by unfold turn;split <;> omega
theorem zVZ {α:Type} {xs:List α} {t i:Nat} (ht:t≤xs.length) (hi:i<xs.length):(xs.drop t++xs.take t)[i]?=xs[turn xs.length t i]?:=by
 unfold turn;by_cases h:i+t<xs.length
 ·rw [if_pos h,List.getElem?_append_left (by rw [List.length_drop];omega),List.getElem?_drop,Nat.add_comm]
 ·rw [if_neg h,List.getElem?_append_right (by rw [List.length_drop];omega),List.length_drop,List.getElem?_take_of_lt (by omega)];congr 1;omega
theorem yZR {l t:Nat} (ht:t≤l):((List.range l).map (turn l t)).Perm (List.range l):=by
 have e:(List.range l).map (turn l t)=(List.range l).drop t++(List.range l).take t:=by
  apply List.ext_getElem?;intro i;by_cases h:i<l
  ·rw [zVZ (xs:=List.range l) (by simpa using ht) (by simpa using h),List.getElem?_map,List.getElem?_range h,List.length_range,List.getElem?_range (yWU ht h)];rfl
  ·rw [List.getElem?_eq_none (by simp;omega),List.getElem?_eq_none (by simp;omega)]
 rw [e];exact List.perm_append_comm.trans (by rw [List.take_append_drop])
def zCH (xs:List Int) (t:Nat):List Int:=xs.drop t++xs.take t
def wD (w:Wk) (t:Nat):Wk:=⟨w.M,w.N.drop t++w.N.take t,w.L,w.rest,w.run,w.j⟩
theorem yBO {α:Type} {xs:List α} {t:Nat} (ht:t≤xs.length):(xs.drop t++xs.take t).drop (xs.length-t)++(xs.drop t++xs.take t).take (xs.length-t)=xs:=by
 have e:(xs.drop t).length=xs.length-t:=by simp
 rw [← e,List.drop_left,List.take_left,List.take_append_drop]
theorem zOI {α:Type} {xs:List α} {t:Nat} (ht:t≤xs.length):(xs.drop t++xs.take t).length=xs.length:=by simp;omega
theorem yJM {xs:List Int} {t i:Nat} (ht:t≤xs.length) (hi:i<xs.length):zY (zCH xs t) i=zY xs (turn xs.length t i):=by
 unfold zY zCH;rw [List.getD_eq_getElem?_getD,List.getD_eq_getElem?_getD,zVZ ht hi]
structure Tn (w x:Wk) (f:Nat→Nat):Prop where
 len:x.N.length=w.N.length
 perm:((List.range w.N.length).map f).Perm (List.range w.N.length)
 lt:∀ i,i<w.N.length→f i<w.N.length
 inj:∀ i j,i<w.N.length→j<w.N.length→f i=f j→i=j
 edty:∀ i,i<w.N.length→dty x i=dty w (f i)
 dr:x.L=w.L
 rest:x.rest=w.rest
 run:x.run=w.run
 j:x.j=w.j
theorem Tn.of {w:Wk} {t:Nat} (ht:t≤w.N.length):Tn w (wD w t) (turn w.N.length t):=by
 refine ⟨zOI ht,yZR ht,fun i hi=>yWU ht hi,fun i j hi hj h=>?_,fun i hi=>?_,rfl,rfl,rfl,rfl⟩
 ·unfold turn at h;split at h <;> split at h <;> omega
 ·unfold dty wD;simp only;rw [List.getD_eq_getElem?_getD,List.getD_eq_getElem?_getD,zVZ ht hi]
theorem yPW {w:Wk} {t:Nat} (ht:t≤w.N.length):wD (wD w t) (w.N.length-t)=w:=by
 unfold wD;simp only;rw [yBO ht]
section
variable {w x:Wk} {f:Nat→Nat} {ros ros':Nat→Int} {l m t:Nat} {xs:List Int}
theorem Tn.drv (T:Tn w x f) (k:Nat):drQ x k=drQ w k:=by unfold drQ;rw [T.dr]
theorem Tn.legal (T:Tn w x f) (hs:Sane w l m) (hln:w.N.length=l) (hm:w.L.length=m) (h:wC w ros (late w)) (hr:∀ i,i<w.N.length→ros' i=ros (f i)):wC x ros' (late x):=by
 refine Eas.legal (f:=f) ⟨fun i hi=>T.lt i (by rw [← T.len];exact hi),fun i j hi hj=>T.inj i j (by rw [← T.len];exact hi) (by rw [← T.len];exact hj),fun i hi=>T.edty i (by rw [← T.len];exact hi),fun i hi=>by unfold late;rw [T.edty i (by rw [← T.len];exact hi)],fun i hi=>.inl (hr i (by rw [← T.len];exact hi)),by rw [T.dr],fun k r hk g=>by rw [T.drv];exact g,fun k r hk g=>by rw [T.drv] at g;exact g,fun k hk=>by rw [T.drv];exact Int.le_refl _,fun k hk=>⟨by rw [T.drv];exact Int.le_refl _,(hs.dr k (by omega)).2.2.1⟩,fun k hk=>by rw [T.drv];exact Int.le_refl _,⟨by rw [T.rest];exact Int.le_refl _,hs.rest.1⟩,by rw [T.run];exact Int.le_refl _,by rw [T.j];exact Int.le_refl _,fun j hj=>?_,fun j hj=>?_⟩ h
 ·have:=hs.duty j (by omega);show (dty w j).on≤(dty w j).hi;omega
 ·have:=hs.duty j (by omega);omega
theorem Tn.rosk (T:Tn w x f) (h:Ros w ros) (hr:∀ i,i<w.N.length→ros' i=ros (f i)):Ros x ros':=⟨fun i hi=>by
 rw [T.len] at hi;rw [T.dr,hr i hi];exact h.ros _ (T.lt i hi)⟩
theorem Tn.cover (T:Tn w x f) (hr:∀ i,i<w.N.length→ros' i=ros (f i)):wX x ros'=wX w ros:=by
 unfold wX;rw [T.len];have h1:((List.range w.N.length).filter fun i=>decide (ros' i≠-1))=((List.range w.N.length).filter ((fun i=>decide (ros i≠-1)) ∘ f)):=List.filter_congr fun i hi=>by rw [hr i (List.mem_range.1 hi)];rfl
 have h2:=(T.perm.filter fun i=>decide (ros i≠-1)).length_eq;rw [List.filter_map,List.length_map] at h2;rw [h1,h2]
theorem Tn.surj (T:Tn w x f) {j:Nat} (hj:j<w.N.length):∃ i,i<w.N.length∧f i=j:=by
 have:=T.perm.mem_iff.2 (List.mem_range.2 hj);obtain ⟨i,hi,e⟩:=List.mem_map.1 this;exact ⟨i,List.mem_range.1 hi,e⟩
theorem Tn.full (T:Tn w x f) (hr:∀ i,i<w.N.length→ros' i=ros (f i)) (h:yAM w ros):yAM x ros':=fun i hi=>by
 rw [T.len] at hi;rw [hr i hi];exact h _ (T.lt i hi)
theorem Tn.first (T:Tn w x f) (hr:∀ i,i<w.N.length→ros' i=ros (f i)) {k D:Nat}:(xE x ros' k D).isNone=(xE w ros k D).isNone:=by
 cases h1:xE x ros' k D with
 | some i =>
  obtain ⟨g1,g2,g3⟩:=zAS h1;rw [T.len] at g1;obtain ⟨j,hj⟩:=zPO (w:=w) (ros:=ros) (D:=D) (T.lt i g1) (by rw [← hr i g1];exact g2) (by rw [← T.edty i g1];exact g3);rw [hj];rfl
 | none =>
  cases h2:xE w ros k D with
  | none=>rfl
  | some j =>
   obtain ⟨g1,g2,g3⟩:=zAS h2;obtain ⟨i,hi,rfl⟩:=T.surj g1;obtain ⟨j',hj'⟩:=zPO (w:=x) (ros:=ros') (D:=D) (by rw [T.len];exact hi) (by rw [hr i hi];exact g2) (by rw [T.edty i hi];exact g3);rw [h1] at hj';cases hj'
theorem Tn.gr (T:Tn w x f) (hr:∀ i,i<w.N.length→ros' i=ros (f i)):grV x ros'=grV w ros:=by
 unfold grV;rw [T.dr];apply List.map_congr_left;intro k hk;have e:grQ x ros' k=grQ w ros k:=by
  unfold grQ;rw [T.drv];congr 2;apply List.filter_congr;intro d hd;exact T.first hr
 rw [e]
theorem Tn.prove (T:Tn w x f) (hf:yM w=0) (hfx:yM x=0) (hs:Sane w l m) (hln:w.N.length=l) (hm:w.L.length=m) {ys:List Int} (hl:ys.length=xs.length) (hr:∀ i,i<xs.length→zY ys i=zY xs (f i)) (h:zAY w xs 0=true):zAY x ys 0=true:=by
 obtain ⟨⟨g1,g2⟩,g3,g4⟩:=(yCE hf).1 h;have hr':∀ i,i<w.N.length→zY ys i=zY xs (f i):=fun i hi=>hr i (by omega)
 exact (yCE hfx).2 ⟨⟨by rw [T.len,hl];exact g1,T.rosk g2 hr'⟩,T.legal hs hln hm g3 hr',by rw [T.cover hr'];exact g4⟩
theorem yWT (hf:yM w=0) (ht:t≤w.N.length):yM (wD w t)=0:=by
 obtain ⟨f1,f2,f3,f4,f5⟩:=zCP hf;have h3:vL (wD w t)=true:=f3;have h4:∀ y∈(wD w t).N,vV (wD w t) y=true:=fun y hy=>by
  refine f4 y ?_
  rcases List.mem_append.1 hy with hy | hy
  ·exact List.mem_of_mem_drop hy
  ·exact List.mem_of_mem_take hy
 have h5:∀ y∈(wD w t).L,zAB (wD w t) y=true:=f5;have h1:(wD w t).N.length≤12:=by show (w.N.drop t++w.N.take t).length≤12;rw [zOI ht];exact f1
 have h2:(wD w t).L.length≤6:=f2;unfold yM;rw [if_neg (by omega),h3,List.all_eq_true.2 h4,List.all_eq_true.2 h5];rfl
structure Both (w:Wk) (t:Nat):Prop where
 most:∀ rs rt,MostL w rs→MostL (wD w t) rt→wX w (zY rs)=wX (wD w t) (zY rt)
 none:∀ rs gs,BestL w rs gs→∃ ros,Ros (wD w t) ros∧wC (wD w t) ros (late (wD w t))∧yAM (wD w t) ros
 none':∀ rs gs,BestL (wD w t) rs gs→∃ ros,Ros w ros∧wC w ros (late w)∧yAM w ros
 best:∀ rs gs rt gt,BestL w rs gs→BestL (wD w t) rt gt→gs=gt
 prove:∀ xs:List Int,xs.length=w.N.length→zAY (wD w t) (zCH xs t) 0=zAY w xs 0
theorem xSC (hf:yM w=0) (hsh:uX w) (ht:t≤w.N.length):Both w t:=by
 have hfx:=yWT hf ht;have hs:Sane w w.N.length w.L.length:=Sane.of hf hsh rfl rfl;have hsx:Sane (wD w t) (wD w t).N.length (wD w t).L.length:=Sane.of hfx hsh rfl rfl;have hlen:(wD w t).N.length=w.N.length:=zOI ht;have T:=Tn.of (w:=w) ht;have T':=Tn.of (w:=wD w t) (t:=w.N.length-t) (by omega);rw [yPW ht] at T';have c1:∀ {ros:Nat→Int} i,i<w.N.length→(fun i=>ros (turn w.N.length t i)) i=ros (turn w.N.length t i):=fun i _=>rfl
 have c2:∀ {ros:Nat→Int} i,i<(wD w t).N.length→(fun i=>ros (turn (wD w t).N.length (w.N.length-t) i)) i=ros (turn (wD w t).N.length (w.N.length-t) i):=fun i _=>rfl
 refine ⟨fun rs rt B B'=>?_,fun rs gs B=>?_,fun rs gs B=>?_,fun rs gs rt gt B B'=>?_,fun xs hl=>?_⟩
 ·have h1:=B'.most _ (T.rosk B.ros c1) (T.legal hs rfl rfl B.legal c1);have h2:=B.most _ (T'.rosk B'.ros c2) (T'.legal hsx rfl rfl B'.legal c2);rw [T.cover c1] at h1;rw [T'.cover c2] at h2;omega
 ·exact ⟨_,T.rosk B.ros c1,T.legal hs rfl rfl B.legal c1,T.full c1 B.full⟩
 ·exact ⟨_,T'.rosk B.ros c2,T'.legal hsx rfl rfl B.legal c2,T'.full c2 B.full⟩
 ·have h1:=B'.best _ (T.rosk B.ros c1) (T.legal hs rfl rfl B.legal c1) (T.full c1 B.full);have h2:=B.best _ (T'.rosk B'.ros c2) (T'.legal hsx rfl rfl B'.legal c2) (T'.full c2 B'.full);rw [T.gr c1] at h1;rw [T'.gr c2] at h2;have e:=zYA (by simp [grV]) h1 h2;rw [B.gs,B'.gs,e];rfl
 ·have hx:(zCH xs t).length=xs.length:=zOI (by omega);have hr1:∀ i,i<xs.length→zY (zCH xs t) i=zY xs (turn w.N.length t i):=fun i hi=>by rw [yJM (by omega) hi,hl]
  have hr2:∀ i,i<(zCH xs t).length→zY xs i=zY (zCH xs t) (turn (wD w t).N.length (w.N.length-t) i):=fun i hi=>by
   have h0:=yJM (xs:=zCH xs t) (t:=w.N.length-t) (by omega) hi;have h1:zCH (zCH xs t) (w.N.length-t)=xs:=by
    unfold zCH;rw [← hl,yBO (by omega)]
   rw [h1,hx,hl] at h0;rw [hlen];exact h0
  rw [Bool.eq_iff_iff];exact ⟨T'.prove hfx hf hsx rfl rfl hx.symm hr2,T.prove hf hfx hs rfl rfl hx hr1⟩
end
section
variable {σ τ:St}
theorem yIJ {n0 t n c len lo hi:Nat} {e:TypeId} {p:Option Addr} {vs:List Value} {lo' hi':Option Value} (h:Ax τ n0 n p len c (xF vs)) (hvl:vs.length=len) (hel0:∀ v∈vs,zBT Pg e n v) (h0:0<len) (hu:Pg.underlying t=some (.slice e)) (hs:yT Pg e=some n)
  (hlo:wR lo' 0 hi=some lo) (hhi:∀ top,len≤top→wR hi' len top=some hi) (h1:lo≤hi) (h2:hi≤len) :
  ∃ q c',yI Pg τ t (.slice p len c) lo' hi' none=some (.slice q (hi-lo) c')∧SlV Pg τ e n q (hi-lo) ((vs.drop lo).take (hi-lo)):=by
 rcases h with hA | ⟨b,rfl,h3,h4,h5,h6,h7⟩;rotate_left
 ·have ha:zFB τ n (some ⟨b,0,none⟩) len c:=.inr ⟨b,xF vs,_,_,rfl,by omega,by rw [← h3] at *;exact h4,h6.get,h5,h6.lt⟩;obtain ⟨a1,a2,_⟩:=ha.part (P:=Pg) ⟨⟨by rw [h5],h6.rw⟩,hvl,hel0⟩ hu hs hlo (hhi c (by omega)) h1 h2;exact ⟨_,_,a1,a2⟩
 ·cases p with
  | none =>
   generalize xF vs=cs at hA;cases hA;omega
  | some a =>
   have hr:Row τ a (xF vs):=by
    obtain ⟨p',c',e,hs⟩:=hA.sl;cases e;exact hs.2
   have hel:∀ v∈(vs.drop lo).take (hi-lo),zBT Pg e n v:=fun v hv'=>hel0 v (List.mem_of_mem_drop (List.mem_of_mem_take hv'))
   have hln:((vs.drop lo).take (hi-lo)).length=hi-lo:=by simp [hvl];omega
   have hfl:(xF vs).length=len*n:=by rw [zJN hel0,hvl]
   have hle2:lo*n+(hi-lo)*n≤len*n:=by rw [← Nat.add_mul];exact Nat.mul_le_mul_right _ (by omega)
   have key:∀ (ws:List Value) (k:Nat),(∀ v∈ws,zBT Pg e n v)→k≤ws.length→xF (ws.take k)=(xF ws).take (k*n)∧xF (ws.drop k)=(xF ws).drop (k*n):=by
    intro ws k hw hk;have h1:xF ws=xF (ws.take k)++xF (ws.drop k):=by rw [← uM,List.take_append_drop]
    have h2:(xF (ws.take k)).length=k*n:=by
     rw [zJN (fun v hv=>hw v (List.mem_of_mem_take hv)),List.length_take,Nat.min_eq_left hk]
    constructor
    ·rw [h1,← h2,List.take_left]
    ·rw [h1,← h2,List.drop_left]
   have hpart:((xF vs).drop (lo*n)).take ((hi-lo)*n)=xF ((vs.drop lo).take (hi-lo)):=by
    rw [← (key vs lo hel0 (by omega)).2,← (key (vs.drop lo) (hi-lo) (fun v hv'=>hel0 v (List.mem_of_mem_drop hv')) (by simp [hvl];omega)).1]
   have hsl:SlV Pg τ e n (some (zN a (lo*n))) (hi-lo) ((vs.drop lo).take (hi-lo)):=by
    refine ⟨⟨by rw [← hpart,List.length_take,List.length_drop,hfl];omega, ?_⟩,hln,hel⟩
    rw [← hpart];exact hr.part (k:=lo*n) (m:=(hi-lo)*n) (by omega)
   generalize xF vs=cs at hA;cases hA with
   | more g1 g2 g3 g4 g5 g6 g7 =>
    rename_i b s0 nx sp log;subst g2;have hok:zHX τ ⟨b,0,sp⟩ n=true:=by simp [zHX,g1,yB,wM]
    have hL:yN (len+vW)=len:=uP len;have hx:yU (len+vW)=false:=by rw [Bool.eq_false_iff];intro e;have:=(yQ _).1 e;omega
    by_cases hll:lo=len
    ·have e1:Nat.ble len lo=true:=(zW _ _).2 (by omega);have e2:(Nat.beq len lo && Nat.beq hi lo)=true:=by rw [hll,show hi=len by omega];simp
     refine ⟨some (zN ⟨b,0,sp⟩ (lo*n)),vW, ?_,hsl⟩
     simp only [yI,hu,hs,hok,cond_true,vB,hL,hhi len (Nat.le_refl _),hlo,hx,Bool.or_false,Option.isSome_none,cond_false,e1,e2];rw [show hi-lo=0 by omega]
    ·have e1:Nat.ble len lo=false:=by rw [Bool.eq_false_iff];intro e;have:=(zW _ _).1 e;omega
     refine ⟨some (zN ⟨b,0,sp⟩ (lo*n)),len-lo+vW, ?_,hsl⟩
     simp only [yI,hu,hs,hok,cond_true,vB,hL,hhi len (Nat.le_refl _),hlo,hx,Bool.or_false,Option.isSome_none,cond_false,e1]
theorem yZW {t len c:Nat} {p:Option Addr} {lo hi:Option Value} {v v':Value} (h:yI Pg σ t (.slice p len c) lo hi none=some v) (h':yI Pg τ t (.slice p len c) lo hi none=some v'):v=v':=by
 cases p with
 | none =>
  have e:yI Pg σ t (.slice none len c) lo hi none=yI Pg τ t (.slice none len c) lo hi none:=by
   unfold yI;cases Pg.underlying t with
   | none=>rfl
   | some u=>cases u <;> rfl
  rw [e,h'] at h;exact (Option.some.inj h).symm
 | some a =>
  unfold yI at h h';cases hu:Pg.underlying t with
  | none=>rw [hu] at h;cases h
  | some u =>
   rw [hu] at h h';cases u with
   | slice e =>
    simp only at h h';cases hs:yT Pg e with
    | none=>rw [hs] at h;cases h
    | some n =>
     rw [hs] at h h';simp only at h h';cases h1:zHX σ a n with
     | false=>rw [h1] at h;cases h
     | true =>
      cases h2:zHX τ a n with
      | false=>rw [h2] at h';cases h'
      | true =>
       rw [h1,cond_true] at h;rw [h2,cond_true,h] at h';exact Option.some.inj h'
   | _=>cases h
theorem xVM {p:Option Addr} {l c:Nat} {xs:List Int} (h:yF σ p l xs) (hl:l≤1073741824) :
  ∃ p' c' σ',zD Pg 10 [.slice p l c] σ (.slice p' l c') σ'∧New σ σ'∧Ax σ' σ.y 1 p' l c' (xs.map zZ):=by
 have hc:(xF (xs.map zZ)).all cellB=true:=by rw [vC xs .i64];simp [List.all_eq_true];intro a _;rfl
 have N1:New σ.re (σ.re.row [] 1):=New.row _ _ _;obtain ⟨p6,c6,s5,ap1,A6,O6,b6⟩:=Ax.append (P:=Pg) (k:=c) (n0:=σ.re.y) zAU (Ax.lit (len:=0) (zC σ.re [] 1) rfl ((yQ 0).2 wW) (Nat.le_refl _)) (SlV.le h ((le0 σ).trans N1.le)).1 (by omega) hc N1.nx;rw [Nat.zero_add] at ap1 A6;rw [List.nil_append,vC xs .i64] at A6;have N5:New σ.re s5:=N1.of_only O6 (by rintro b ⟨a,e,rfl⟩;cases e;exact Nat.le_refl _);obtain ⟨v,s,k1,k2,p',c',rfl,k3⟩:=zP.new (Q:=fun v s=>∃ p' c',v=.slice p' l c'∧Ax s σ.y 1 p' l c' (xs.map zZ)) (yYD ap1 ⟨N5,p6,c6,rfl,A6⟩) (by
  rintro v s s' ⟨p',c',rfl,g⟩ hle;exact ⟨p',c',rfl,g.le hle⟩) (by
  rintro v s hr ⟨p',c',rfl,g⟩;cases p' with
  | some a=>exact Bool.noConfusion (show false=true from hr)
  | none =>
   rcases g with g | ⟨b,e,_⟩
   ·refine ⟨none,c',rfl, ?_⟩
    have hc:xs.map zZ=[]∧l=0∧c'=0:=by
     generalize xs.map zZ=cs at g ⊢;cases g
     exact ⟨rfl,rfl,rfl⟩
    rw [hc.1,hc.2.1,hc.2.2];exact .inl .nil
   ·cases e)
 exact ⟨p',c',s,k1,k2,k3⟩
theorem yOT:AppT Pg 22 22 35 5:=zLR (by kernel_rfl)
theorem xMA (x:Dty):zBT Pg 35 5 (uO x):=.inr ⟨xTY,zDL,_,rfl,rfl⟩
theorem zZB (xs:List Dty):(xF (xs.map uO)).all cellB=true:=by
 rw [List.all_eq_true];intro a ha;unfold xF at ha;obtain ⟨v,hv,ha⟩:=List.mem_flatMap.1 ha;obtain ⟨x,_,rfl⟩:=List.mem_map.1 hv;have ha:a∈zF x.day x.on x.lo x.hi x.route:=ha;simp [zF] at ha;rcases ha with rfl | rfl | rfl | rfl | rfl <;> rfl
theorem yJL {p:Option Addr} {l c t b:Nat} {xs:List Dty} {s4:St} (hp:zQG σ 35 p l xs) (ag:zFB σ 5 p l c) (ht:t<l) (hl:l≤12) (N:New σ s4) (o:Own s4 b [] 5) :
  ∃ q3 c3 q5 c5 σ4 q6 c6 q8 c8 σ7,
   (∀ {z},Le σ z→yI Pg z 22 (.slice p l c) (some (iV (t:Int))) none none=some (.slice q3 (l-t) c3)) ∧
   (∀ {z},Le σ z→yI Pg z 22 (.slice p l c) none (some (iV (t:Int))) none=some (.slice q6 (t-0) c6)) ∧
   (∀ a,q3=some a→a.block<σ.y)∧(∀ a,q6=some a→a.block<σ.y) ∧
   yD Pg 22 22 (.slice (some ⟨b,0,none⟩) 0 0) (.slice q3 (l-t) c3) s4=some (.slice q5 (0+(l-t)) c5,σ4) ∧
   (σ.y≤b→yD Pg 22 22 (.slice q5 (0+(l-t)) c5) (.slice q6 (t-0) c6) σ4=some (.slice q8 l c8,σ7)) ∧
   Only (AtP (some ⟨b,0,none⟩)) s4 σ4∧(σ.y≤b→Only (AtP q5) σ4 σ7)∧(∀ b',AtP q5 b'→b≤b'∧b' < σ4.y)∧(σ.y≤b→∀ b',AtP q8 b'→b≤b'∧b' < σ7.y)∧(σ.y≤b→zQG σ7 35 q8 l (xs.drop t++xs.take t)):=by
 have hu:Pg.underlying 22=some (.slice 35):=Try.underlying22;have hlx:xs.length=l:=by have:=hp.2.1;simpa using this
 have part1:∀ {z},Le σ z→yI Pg z 22 (.slice p l c) (some (iV (t:Int))) none none=some (.slice (zHT p 5 t c) (l-t) (c-t))∧SlV Pg z 35 5 (zHT p 5 t c) (l-t) (((xs.map uO).drop t).take (l-t))∧(∀ x,zHT p 5 t c=some x→x.block<z.y):=fun {z} hle=>(ag.le hle).part (SlV.le hp hle) hu zDL (lo:=t) (hi:=l) (zBX rfl (by omega)) rfl (by omega) (by omega)
 have part2:∀ {z},Le σ z→yI Pg z 22 (.slice p l c) none (some (iV (t:Int))) none=some (.slice (zHT p 5 0 c) (t-0) (c-0))∧SlV Pg z 35 5 (zHT p 5 0 c) (t-0) (((xs.map uO).drop 0).take (t-0))∧(∀ x,zHT p 5 0 c=some x→x.block<z.y):=fun {z} hle=>(ag.le hle).part (SlV.le hp hle) hu zDL (lo:=0) (hi:=t) rfl (zBX rfl (by
   rcases ag with ⟨_,e,_⟩ | ⟨_,_,_,_,_,e,_⟩ <;> omega)) (by omega) (by omega)
 have e1:((xs.map uO).drop t).take (l-t)=(xs.drop t).map uO:=by rw [← List.map_drop,List.take_of_length_le (by simp;omega)]
 have e2:((xs.map uO).drop 0).take (t-0)=(xs.take t).map uO:=by rw [List.drop_zero,Nat.sub_zero,List.map_take]
 obtain ⟨q5,c5,σ4,ap1,A1,O1,_⟩:=Ax.append (P:=Pg) (k:=c-t) (n0:=b) yOT (Ax.lit (len:=0) o rfl ((yQ 0).2 wW) (Nat.le_refl _)) (part1 N.le).2.1.1 (by omega) (by rw [e1];exact zZB _) (Nat.le_of_lt o.lt);by_cases hb:σ.y≤b;rotate_left
 ·exact ⟨_,_,q5,c5,σ4,_,_,none,0,σ4,fun hle=>(part1 hle).1,fun hle=>(part2 hle).1,(part1 (Le.refl _)).2.2,(part2 (Le.refl _)).2.2,ap1,fun h=>absurd h hb,O1,fun h=>absurd h hb,fun b' h=>A1.bd b' h,fun h=>absurd h hb,fun h=>absurd h hb⟩
 have L4:Le σ σ4:=(N.of_only O1 (by rintro b' ⟨a,e,rfl⟩;cases e;exact hb)).le;have n4:b≤σ4.y:=Nat.le_trans (Nat.le_of_lt o.lt) O1.y;obtain ⟨q8,c8,σ7,ap2,A2,O2,_⟩:=Ax.append (P:=Pg) (k:=c-0) (n0:=b) yOT A1 (part2 L4).2.1.1 (by omega) (by rw [e2];exact zZB _) n4;have el:0+(l-t)+(t-0)=l:=by omega
 rw [el] at ap2 A2;rw [List.nil_append,e1,e2,← uM,← List.map_append] at A2;exact ⟨_,_,q5,c5,σ4,_,_,q8,c8,σ7,fun hle=>(part1 hle).1,fun hle=>(part2 hle).1,(part1 (Le.refl _)).2.2,(part2 (Le.refl _)).2.2,ap1,fun _=>ap2,O1,fun _=>O2,fun b' h=>A1.bd b' h,fun _ b' h=>A2.bd b' h,fun _=>A2.slv (by simp;omega) (fun v hv=>by obtain ⟨x,_,rfl⟩:=List.mem_map.1 hv;exact xMA x)⟩
end
section
variable {w:Wk} {t l m:Nat} {s s':St} {v v':Value}
theorem xMN (B:Both w t) (hf:yM w=0) (hfx:yM (wD w t)=0) (hm6:m≤6) (bv:xOG w l m v s) (bv':xOG (wD w t) l m v' s') (L:Le s s'):∃ q34 l34 c34 q35 l35 c35 q41 l41 c41 q42 l42 c42 n,v=.tuple ⟨[.slice q34 l34 c34,.slice q35 l35 c35,iV n]⟩∧v'=.tuple ⟨[.slice q41 l41 c41,.slice q42 l42 c42,iV n]⟩∧zD Pg 19 [.slice q35 l35 c35,.slice q42 l42 c42] s' (.bool true) s'∧(∀ a,q35=some a→a.block<s'.y)∧(∀ a,q42=some a→a.block<s'.y):=by
 have nil:yF s' none 0 []:=⟨SlP.nil _ _,rfl,fun v hv=>by cases hv⟩;rcases bv with ⟨hf',_⟩ | ⟨_,no,rfl⟩ | ⟨_,rs,gs,pr,cr,pg,cg,rfl,_,ig,b1⟩
 ·exact absurd hf hf'
 ·rcases bv' with ⟨hf',_⟩ | ⟨_,no',rfl⟩ | ⟨_,rt,gt,pr',cr',pg',cg',rfl,_,ig',b2⟩
  ·exact absurd hfx hf'
  ·exact ⟨_,_,_,_,_,_,_,_,_,_,_,_,_,rfl,rfl,xKB nil nil (by omega),fun a e=>(by cases e),fun a e=>by cases e⟩
  ·obtain ⟨ros,g1,g2,g3⟩:=B.none' _ _ b2;exact absurd g3 (no ros g1 g2)
 ·rcases bv' with ⟨hf',_⟩ | ⟨_,no',rfl⟩ | ⟨_,rt,gt,pr',cr',pg',cg',rfl,_,ig',b2⟩
  ·exact absurd hfx hf'
  ·obtain ⟨ros,g1,g2,g3⟩:=B.none _ _ b1;exact absurd g3 (no' ros g1 g2)
  ·have k:=xKB (c:=cg) (d:=cg') (SlV.le ig L) ig' (by omega);rw [B.best _ _ _ _ b1 b2,decide_eq_true rfl] at k;exact ⟨_,_,_,_,_,_,_,_,_,_,_,_,_,rfl,rfl,k,xK (SlV.le ig L),xK ig'⟩
end
section
variable {σ:St} {w:Wk} {p q pw:Option Addr} {l m c d lw cw:Nat} {ws:List Int}
theorem yTG {dt:Int} (h:WkP σ 35 70 w p l q m) (ag:zFB σ 5 p l c) (hw:SlV Pg σ 5 1 pw lw (ws.map yZA)) (hb:∀ x∈ws,0≤x∧x≤255) (hdt:0≤dt∧dt≤255) :
  yIQ Pg 7 5 [.agg ⟨wkc w.M p l c q m d w.rest w.run w.j⟩,.slice pw lw cw,.int .u8 dt] σ fun v _=>v=.bool true:=by
 have hln:=h.len.1;have hm:=h.len.2;obtain ⟨t1,ht1⟩:∃ t1,t1=σ.row (wkc w.M p l c q m d w.rest w.run w.j) 6:=⟨_,rfl⟩;have n1:t1.y=σ.y+1:=by rw [ht1];rfl
 have M1:New σ t1:=by rw [ht1];exact New.row _ _ _
 have L1:Le σ t1:=M1.le;have w1:Row t1 ⟨σ.y,0,none⟩ (wkc w.M p l c q m d w.rest w.run w.j):=by rw [ht1];exact xQ _ _ _
 have k1:=xQQ (c:=c) (d:=d) (h.le L1);cases b0:zYC w with
 | false =>
  rw [b0] at k1;subst ht1;exact xCV k1 rfl
 | true =>
 rw [b0] at k1;obtain ⟨hsh,hf,h8,h4⟩:=yMC b0;by_cases hl0:l=0
 ·subst ht1;exact xCY k1 rfl (by omega)
 obtain ⟨t,ht,et⟩:∃ t:Nat,t<l∧dt.tmod (l:Int)=(t:Int):=by
  have e2:dt.tmod (l:Int)=dt % (l:Int):=Int.tmod_eq_emod_of_nonneg (by omega);have e3:=Int.emod_nonneg dt (show (l:Int)≠0 by omega);have e4:=Int.emod_lt_of_pos dt (show 0<(l:Int) by omega);exact ⟨(dt % (l:Int)).toNat,by omega,by omega⟩
 have rm:uH Pg .rem 3 (.tmp 34) (.tmp 37) (iV dt) (iV ((l:Nat):Int))=some (iV (t:Int)):=by rw [yQR (by omega),et]
 obtain ⟨t2,ht2⟩:∃ t2,t2=t1.row (wkc 0 none 0 0 none 0 0 0 0 0) 6:=⟨_,rfl⟩;have n2:t2.y=σ.y+2:=by rw [ht2];show t1.y+1=_;omega
 have M2:New t1 t2:=by rw [ht2];exact New.row _ _ _
 have o2:Own t2 (σ.y+1) (wkc 0 none 0 0 none 0 0 0 0 0) 6:=by rw [ht2,← n1];exact zC _ _ _
 obtain ⟨t3,ht3⟩:∃ t3,t3=t2.own (σ.y+1) (wkc w.M p l c q m d w.rest w.run w.j) 6:=⟨_,rfl⟩;have n3:t3.y=σ.y+2:=by rw [ht3];exact n2
 have M3:New t1 t3:=by rw [ht3];exact M2.own (by omega)
 have o3:Own t3 (σ.y+1) (wkc w.M p l c q m d w.rest w.run w.j) 6:=by rw [ht3];exact o2.put
 obtain ⟨t4,ht4⟩:∃ t4,t4=t3.row [] 5:=⟨_,rfl⟩;have n4:t4.y=σ.y+3:=by rw [ht4];show t3.y+1=_;omega
 have M4:New t1 t4:=by rw [ht4];exact M3.row'
 have o4:Own t4 (σ.y+1) (wkc w.M p l c q m d w.rest w.run w.j) 6:=by rw [ht4];exact o3.row
 have e4:Own t4 (σ.y+2) [] 5:=by rw [ht4,← n3];exact zC _ _ _
 obtain ⟨q3,c3,q5,c5,t5,q6,c6,q8,c8,t7,S3,S6,B3,B6,ap1,ap2,O1,O2,D5,D8,X8⟩:=yJL h.dty ag ht (by omega) (M1.trans M4) e4;have hge:σ.y≤σ.y+2:=by omega
 have ap2:=ap2 hge;have O2:=O2 hge;have D8:=D8 hge;have X8:=X8 hge;have M5:New t1 t5:=M4.of_only O1 (by rintro b ⟨a,e,rfl⟩;cases e;show t1.y≤σ.y+2;omega);have M7:New t1 t7:=M5.of_only O2 (fun b hb=>by have:=(D5 b hb).1;omega);have o5:=O1.own' o4 (by rintro ⟨a,e,e2⟩;cases e;exact absurd e2 (by show ¬ σ.y+2=σ.y+1;omega));have o7:=O2.own' o5 (fun hb=>by have:=(D5 _ hb).1;omega);have n5:σ.y+3≤t5.y:=by have:=O1.y;omega
 have n7:σ.y+3≤t7.y:=by have:=O2.y;omega
 have st:=o7.store (P:=Pg) (k:=1) (t:=22) (v:=.slice q8 l c8) (vs:=[.slice q8 l c8]) (ds:=wkc w.M q8 l c8 q m d w.rest w.run w.j) rfl xUK rfl (nle rfl) rfl;obtain ⟨z,ez⟩:∃ z,z=t7.own (σ.y+1) (wkc w.M q8 l c8 q m d w.rest w.run w.j) 6:=⟨_,rfl⟩;have Oz:Only (·=σ.y+1) t7 z:=by rw [ez];exact Only.own (.inr rfl)
 have oz:Own z (σ.y+1) (wkc w.M q8 l c8 q m d w.rest w.run w.j) 6:=by rw [ez];exact o7.put
 have Mz:New t1 z:=M7.of_only Oz (by rintro b rfl;omega);have Lz:=Mz.le;have hz:=h.le (L1.trans Lz);obtain ⟨x,ex⟩:∃ x,x=wD w t:=⟨_,rfl⟩;have hx:WkP z 35 70 x q8 l q m:=by
  rw [ex];exact ⟨Oz.slv' X8 (fun a e hb=>by have:=(D8 _ ⟨a,e,rfl⟩).1;have hb:a.block=σ.y+1:=hb;omega),hz.drv⟩
 have rx:Row z ⟨σ.y+1,0,none⟩ (wkc x.M q8 l c8 q m d x.rest x.run x.j):=by rw [ex];exact oz.rw
 have hfx:yM x=0:=by rw [ex];exact yWT hf (by omega)
 have hsx:uX x:=by rw [ex];exact hsh
 have B:Both w t:=xSC hf hsh (by omega);have ldw:∀ s,Le z s→zB Pg s 25 ⟨σ.y,0,none⟩=some (.agg ⟨wkc w.M p l c q m d w.rest w.run w.j⟩):=fun s hs=>(w1.le (Lz.trans hs)).ldN zCR vZ (k:=0) rfl rfl (nle rfl)
 have ldx:∀ s,Le z s→zB Pg s 25 ⟨σ.y+1,0,none⟩=some (.agg ⟨wkc x.M q8 l c8 q m d x.rest x.run x.j⟩):=fun s hs=>(rx.le hs).ldN zCR vZ (k:=0) rfl rfl (nle rfl)
 have ldd:∀ s,Le t1 s→zB Pg s 22 ⟨σ.y,1,none⟩=some (.slice p l c):=fun s hs=>(w1.le hs).ld vI rfl
 have bn:∀ s,Le t1 s→σ.y<s.y:=fun s hs=>by have:=hs.y;omega
 have bx:∀ s,Le z s→σ.y+1<s.y:=fun s hs=>Nat.lt_of_lt_of_le oz.lt hs.y
 have pab:∀ s,Le t1 s→∀ a,p=some a→a.block<s.y:=fun s hs=>xK (h.le (L1.trans hs)).dty
 have qab:∀ s,Le t1 s→∀ a,q=some a→a.block<s.y:=fun s hs=>by obtain ⟨vs,g,_⟩:=(h.le (L1.trans hs)).drv;exact xK g
 have q8b:∀ s,Le z s→∀ a,q8=some a→a.block<s.y:=fun s hs=>xK (hx.le hs).dty
 have lt3:∀ s,Le t1 s→∀ a,q3=some a→a.block<s.y:=fun s hs a e=>by have:=B3 a e;have:=hs.y;omega
 have lt6:∀ s,Le t1 s→∀ a,q6=some a→a.block<s.y:=fun s hs a e=>by have:=B6 a e;have:=hs.y;omega
 have bpn:∀ s,Le t1 s→zG s.y [.slice p l c,iV (t:Int)]:=fun s hs=>zE (yH (pab s hs)) (zE rfl zH)
 have lk3:∀ s,Le t1 s→(zG s.y [.slice p l c,iV (t:Int)]∧zL RD (.slice q3 (l-t) c3)=true)∧yI Pg s 22 (.slice p l c) (some (iV (t:Int))) none none=some (.slice q3 (l-t) c3):=fun s hs=>⟨⟨bpn s hs,rfl⟩,S3 (L1.trans hs)⟩
 have lk6:∀ s,Le t1 s→(zG s.y [.slice p l c,iV (t:Int)]∧zL RD (.slice q6 (t-0) c6)=true)∧yI Pg s 22 (.slice p l c) none (some (iV (t:Int))) none=some (.slice q6 (t-0) c6):=fun s hs=>⟨⟨bpn s hs,rfl⟩,S6 (L1.trans hs)⟩
 have h9:zG t5.y [.pointer (some ⟨σ.y,1,none⟩)]:=zE (zO (bn t5 M5.le)) zH;have h11:zG t5.y [.slice q5 (0+(l-t)) c5,.slice q6 (t-0) c6]:=zE (yH fun a e=>(D5 _ ⟨a,e,rfl⟩).2) (zE (yH (lt6 t5 M5.le)) zH);have h12:zG t7.y [.pointer (some ⟨σ.y+1,1,none⟩),.slice q8 l c8]:=zE (zO (show σ.y+1<t7.y by omega)) (zE (yH fun a e=>(D8 _ ⟨a,e,rfl⟩).2) zH);have h16:((⟨σ.y,1,none⟩:Addr).block<t5.y∧zL RD (.slice p l c)=true)∧zB Pg t5 22 ⟨σ.y,1,none⟩=some (.slice p l c):=⟨⟨bn t5 M5.le,rfl⟩,ldd t5 M5.le⟩;obtain ⟨out,p9,c9,s10,k21,N10,A9,e9,hout⟩:=xSZ (c:=c) (d:=d) (cw:=cw) hz (SlV.le hw (L1.trans Lz)) hb (by omega) (by omega);have L10:Le z s10:=N10.le;have elI:∀ v∈out.map zZ,zBT Pg 3 1 v:=fun v hv=>by obtain ⟨x,_,rfl⟩:=List.mem_map.1 hv;exact uN x
 have A9:Ax s10 (z.y+1) 1 p9 l c9 (xF (out.map zZ)):=by rw [vC _ .i64];exact A9
 have i9:yF s10 p9 l out:=A9.slv (by simp [e9]) elI;have hu29:Pg.underlying 29=some (.slice 3):=Try.underlying29;obtain ⟨q11,c11,k22,pt11⟩:=yIJ (t:=29) (lo:=t) (hi:=l) (lo':=some (iV (t:Int))) (hi':=none) A9 (by simp [e9]) elI (by omega) hu29 wZ (zBX rfl (by omega)) (fun _ _=>rfl) (by omega) (Nat.le_refl _);have i11:yF s10 q11 (l-t) (out.drop t):=by
  rw [← List.map_drop,List.take_of_length_le (by simp;omega)] at pt11;exact pt11
 obtain ⟨q12,c12,s13,k23,N13,A12⟩:=xVM (c:=c11) i11 (by omega);have L13:Le z s13:=L10.trans N13.le;obtain ⟨q14,c14,k24,pt14⟩:=yIJ (t:=29) (lo:=0) (hi:=t) (lo':=none) (hi':=some (iV (t:Int))) (A9.le N13.le) (by simp [e9]) elI (by omega) hu29 wZ rfl (fun top ht=>zBX rfl (by omega)) (by omega) (by omega);have k24':yI Pg s10 29 (.slice p9 l c9) none (some (iV (t:Int))) none=some (.slice q14 (t-0) c14):=by
  obtain ⟨q',c',e1,_⟩:=yIJ (t:=29) (lo:=0) (hi:=t) (lo':=none) (hi':=some (iV (t:Int))) A9 (by simp [e9]) elI (by omega) hu29 wZ rfl (fun top ht=>zBX rfl (by omega)) (by omega) (by omega);rw [yZW k24 e1];exact e1
 have e14:((out.map zZ).drop 0).take (t-0)=(out.take t).map zZ:=by rw [List.drop_zero,Nat.sub_zero,List.map_take]
 have i14:yF s13 q14 (t-0) (out.take t):=by rw [e14] at pt14;exact pt14
 obtain ⟨q16,c16,s15,k25,A16,O16,_⟩:=Ax.append (P:=Pg) (k:=c14) (n0:=s10.y) zAU A12 i14.1 (by omega) (by rw [vC _ .i64,List.all_eq_true];intro a ha;obtain ⟨y,_,rfl⟩:=List.mem_map.1 ha;rfl) N13.nx;have N15:New s10 s15:=N13.of_only O16 (fun b hb=>(A12.bd b hb).1);have L15:Le z s15:=L10.trans N15.le;have i16:yF s15 q16 (l-t+(t-0)) (zCH out t):=by
  refine Ax.slv (vs:=(zCH out t).map zZ) ?_ (by unfold zCH;simp;omega) (fun v hv=>by obtain ⟨x,_,rfl⟩:=List.mem_map.1 hv;exact uN x) (c:=c16) (n0:=s10.y);have e:xF ((zCH out t).map zZ)=(out.drop t).map zZ++xF ((out.take t).map zZ):=by unfold zCH;rw [vC _ .i64,vC _ .i64,List.map_append]
  rw [e];exact A16
 have elt:l-t+(t-0)=l:=by omega
 rw [elt] at k25 i16;have h26:zG s10.y [.slice p9 l c9,iV (t:Int)]:=zE (yH (xK i9)) (zE rfl zH);have h27:zG s10.y [.slice q11 (l-t) c11]:=zE (yH (xK i11)) zH;have h28:zG s13.y [.slice p9 l c9,iV (t:Int)]:=zE (yH (xK (SlV.le i9 N13.le))) (zE rfl zH);have h29:zG s13.y [.slice q12 (l-t) c12,.slice q14 (t-0) c14]:=zE (yH fun a e=>(A12.bd _ ⟨a,e,rfl⟩).2) (zE (yH (xK i14)) zH);obtain ⟨pa,ca,qa,da,s19,k33,N19,wa⟩:=zSG (c:=c) (d:=d) (hz.le L15) (by omega) (by omega) hsh;obtain ⟨v23,s23,k34,N23,bv⟩:=xNY (c:=ca) (d:=da) wa hsh;obtain ⟨hf',_⟩ | ⟨_,rs,pr,cr,rfl,irs,Bw⟩:=bv
 ·exact absurd hf hf'
 have L23:Le z s23:=L15.trans (N19.le.trans N23.le);obtain ⟨pb,cb,qb,db,s26,k36,N26,wb⟩:=zSG (c:=c8) (d:=d) (hx.le L23) (by omega) (by omega) hsx;obtain ⟨v30,s30,k37,N30,bv'⟩:=xNY (c:=cb) (d:=db) wb hsx;obtain ⟨hf',_⟩ | ⟨_,rt,pt,ct,rfl,irt,Bx⟩:=bv'
 ·exact absurd hfx hf'
 have L30:Le z s30:=L23.trans (N26.le.trans N30.le);obtain ⟨pc,cc,qc,dc,s33,k39,N33,wc⟩:=zSG (c:=c) (d:=d) (hz.le L30) (by omega) (by omega) hsh;obtain ⟨v37,s37,k40,N37,bw⟩:=xOE (c:=cc) (d:=dc) wc hsh;have L37:Le z s37:=L30.trans (N33.le.trans N37.le);obtain ⟨pd,cd,qd,dd,s40,k42,N40,wd⟩:=zSG (c:=c8) (d:=d) (hx.le L37) (by omega) (by omega) hsx;obtain ⟨v44,s44,k43,N44,bw'⟩:=xOE (c:=cd) (d:=dd) wd hsx;have L44:Le z s44:=L37.trans (N40.le.trans N44.le);have hmost:wX w (zY rs)=wX x (zY rt):=by rw [ex] at Bx ⊢;exact B.most _ _ Bw Bx
 obtain ⟨q34,l34,c34,q35,l35,c35,q41,l41,c41,q42,l42,c42,n,rfl,rfl,k44,b35,b42⟩:=xMN B hf (by rw [← ex];exact hfx) (by omega) bw (by rw [← ex];exact bw') (N40.le.trans N44.le);obtain ⟨pe,ce,qe,de,s48,k46,N48,we⟩:=zSG (c:=c) (d:=d) (hz.le L44) (by omega) (by omega) hsh;have L48:=L44.trans N48.le;have i9':yF s48 p9 l out:=SlV.le i9 (N15.le.trans (N19.le.trans (N23.le.trans (N26.le.trans (N30.le.trans (N33.le.trans (N37.le.trans (N40.le.trans (N44.le.trans N48.le)))))))));have k47:=zMP (c:=ce) (d:=de) (rc:=c9) (eI:=0) we hsh i9' (by omega);obtain ⟨pf,cf,qf,df,s52,k49,N52,wf⟩:=zSG (c:=c8) (d:=d) (hx.le L48) (by omega) (by omega) hsx;have L52:=L48.trans N52.le;have i16':yF s52 q16 l (zCH out t):=SlV.le i16 (N19.le.trans (N23.le.trans (N26.le.trans (N30.le.trans (N33.le.trans (N37.le.trans (N40.le.trans (N44.le.trans (N48.le.trans N52.le)))))))));have k50:=zMP (c:=cf) (d:=df) (rc:=c16) (eI:=0) wf hsx i16' (by omega);rw [ex,B.prove out (by omega),← ex] at k50;have h51:zG s44.y [.slice q35 l35 c35,.slice q42 l42 c42]:=zE (yH b35) (zE (yH b42) zH);have h52:zG s44.y [.pointer (some ⟨σ.y,0,none⟩)]:=zE (zO (bn s44 (Lz.trans L44))) zH;have h53:zG s44.y [.agg ⟨wkc w.M p l c q m d w.rest w.run w.j⟩]:=zE (zBZ (pab s44 (Lz.trans L44)) (qab s44 (Lz.trans L44))) zH;have h54:zG s48.y [.agg ⟨wkc w.M pe l ce qe m de w.rest w.run w.j⟩,.slice p9 l c9,iV 0]:=zE (zBZ (xK we.dty) (by obtain ⟨vs,g,_⟩:=we.drv;exact xK g)) (zE (yH (xK i9')) (zE rfl zH));have h55:zG s48.y [.pointer (some ⟨σ.y+1,0,none⟩)]:=zE (zO (bx s48 L48)) zH;have h56:zG s48.y [.agg ⟨wkc x.M q8 l c8 q m d x.rest x.run x.j⟩]:=zE (zBZ (q8b s48 L48) (qab s48 (Lz.trans L48))) zH;have h57:zG s52.y [.agg ⟨wkc x.M pf l cf qf m df x.rest x.run x.j⟩,.slice q16 l c16,iV 0]:=zE (zBZ (xK wf.dty) (by obtain ⟨vs,g,_⟩:=wf.drv;exact xK g)) (zE (yH (xK i16')) (zE rfl zH));have h58:∀ s,Le z s→((⟨σ.y+1,0,none⟩:Addr).block<s.y∧zL RD (.agg ⟨wkc x.M q8 l c8 q m d x.rest x.run x.j⟩)=true)∧zB Pg s 25 ⟨σ.y+1,0,none⟩=some (.agg ⟨wkc x.M q8 l c8 q m d x.rest x.run x.j⟩):=fun s hs=>⟨⟨bx s hs,rfl⟩,ldx s hs⟩
 have E13:=ldd t3 M3.le;have E14:=lk3 t3 M3.le;have E15:=lk3 t4 M4.le;have E17:=lk6 t3 M3.le;have E18:=lk6 t4 M4.le;have E20:=ldw z (Le.refl _);have S34:=S3 (L1.trans M4.le);have n0:=M1;cases e:zAY w out 0 with
 | true =>
  rw [e] at k47 k50;subst ez ht4 ht3 ht2 ht1;exact xCX ⟨k1,rm,S34,ap1,(ldd t5 M5.le),(S6 (L1.trans M5.le)),ap2,st,h9,(bpn t5 M5.le),h11,h12,E13,E14,E15,h16,E17,E18,(lk6 t5 M5.le),E20,k21,k22,k23,k24,k25,h26,h27,h28,h29,⟨⟨h26,rfl⟩,k24'⟩,⟨⟨h28,rfl⟩,k24⟩,(ldw s15 L15),k33,k34,(ldx s23 L23),k36,k37,(ldw s30 L30),k39,k40,(ldx s37 L37),k42,k43,k44,(ldw s44 L44),k46⟩ k47 (ldx s48 L48) k49 k50 h51 h52 h53 h54 h55 h56 h57 (h58 s44 L44) (h58 s48 L48) (xK h.dty) B3 rfl (by omega) ⟨by omega,by omega⟩ rfl rfl hmost rfl
 | false =>
  rw [e] at k47 k50;subst ez ht4 ht3 ht2 ht1;exact xCW ⟨k1,rm,S34,ap1,(ldd t5 M5.le),(S6 (L1.trans M5.le)),ap2,st,h9,(bpn t5 M5.le),h11,h12,E13,E14,E15,h16,E17,E18,(lk6 t5 M5.le),E20,k21,k22,k23,k24,k25,h26,h27,h28,h29,⟨⟨h26,rfl⟩,k24'⟩,⟨⟨h28,rfl⟩,k24⟩,(ldw s15 L15),k33,k34,(ldx s23 L23),k36,k37,(ldw s30 L30),k39,k40,(ldx s37 L37),k42,k43,k44,(ldw s44 L44),k46⟩ k47 (ldx s48 L48) k49 k50 h51 h52 h53 h54 h55 h56 h57 (h58 s44 L44) (h58 s48 L48) (xK h.dty) B3 rfl (by omega) ⟨by omega,by omega⟩ rfl rfl hmost rfl
end
section
variable {σ:St}
theorem zBI {n:Nat} {cs:List Value} (h:WT Pg σ (n+1) 3 cs):∃ i,cs=[zZ i]:=by
 unfold WT at h;simp only [Try.underlying3] at h;obtain ⟨i,h,_⟩:=h;exact ⟨i,h⟩
theorem zOB {n:Nat} {t e:TypeId} {cs:List Value} {k:Nat} (hu:Pg.underlying t=some (.slice e)) (hk:Pg.cellsOf e=k) (h:WT Pg σ (n+1) t cs) :
  ∃ p len cap rs,cs=[.slice p len cap]∧len≤maxLen∧SlP σ k p len rs∧rs.length=len*k∧∀ i,i<len→WT Pg σ n e ((rs.drop (i*k)).take k):=by
 unfold WT at h;simp only [hu,hk] at h;rcases h with rfl | ⟨b,len,cap,rs,rfl,h1,h2,h3,h4,h5,h6⟩
 ·exact ⟨none,0,0,[],rfl,by decide,SlP.nil _ _,by simp,fun i hi=>by omega⟩
 ·refine ⟨_,len,cap,rs,rfl,h1,⟨h3, ?_,h5⟩,h3,h6⟩
  simp only [yS,h4,yB,wM,Nat.zero_add,List.drop_zero,List.take_length];show (bif Nat.ble rs.length rs.length then some rs else none)=some rs;rw [show Nat.ble rs.length rs.length=true from by simp];rfl
theorem zWZ {α:Type} {k:Nat} {Q:List Value→Prop} {f:α→List Value} (hq:∀ cs,Q cs→∃ x,cs=f x):∀ (len:Nat) (rs:List Value),rs.length=len*k→(∀ i,i<len→Q ((rs.drop (i*k)).take k))→∃ xs:List α,xs.length=len∧rs=xs.flatMap f
 | 0,rs,hl,_=>⟨[],rfl,by simpa using hl⟩
 | len+1,rs,hl,h=>by
  obtain ⟨x,hx⟩:=hq _ (h 0 (by omega));obtain ⟨xs,h1,h2⟩:=zWZ (k:=k) hq len (rs.drop k) (by simp [hl,Nat.add_mul]) (fun i hi=>by
   have:=h (i+1) (by omega);rwa [Nat.add_mul,Nat.one_mul,Nat.add_comm (i*k),← List.drop_drop] at this)
  refine ⟨x::xs,by simp [h1], ?_⟩
  simp only [List.flatMap_cons,← h2,← hx];simp
theorem yEJ {α:Type} (f:α→List Value) (xs:List α):xF (xs.map fun x=>.agg ⟨f x⟩)=xs.flatMap f:=by
 induction xs with
 | nil=>rfl
 | cons x xs ih=>rw [List.map_cons,List.flatMap_cons,← ih];simp [xF,Value.cells]
theorem xLO (xs:List Int):xF (xs.map zZ)=xs.flatMap fun x=>[zZ x]:=by
 induction xs with
 | nil=>rfl
 | cons x xs ih=>rw [List.map_cons,List.flatMap_cons,← ih];rfl
theorem xTF {n:Nat} {cs:List Value} (h:WT Pg σ (n+1) 5 cs):∃ i:Int,cs=[.int .u8 i]∧0≤i∧i≤255:=by
 unfold WT at h;simp only [Try.underlying5] at h;obtain ⟨i,h,hk⟩:=h;refine ⟨i,h, ?_⟩
 rw [show IntKind.u8.min=0 by decide,show IntKind.u8.max=255 by decide] at hk;exact hk
theorem yPK {n:Nat} {t e:TypeId} {p:Option Addr} {l c k:Nat} (hu:Pg.underlying t=some (.slice e)) (hk:Pg.cellsOf e=k) (h:WT Pg σ (n+1) t [.slice p l c]):zFB σ k p l c:=by
 unfold WT at h;simp only [hu,hk] at h;rcases h with h | ⟨b,len,cap,rs,h1,h2,h3,h4,h5,h6,h7⟩
 ·obtain ⟨rfl,rfl,rfl⟩:p=none∧l=0∧c=0:=by simpa using h
  exact .inl ⟨rfl,rfl,rfl⟩
 ·obtain ⟨rfl,rfl,rfl⟩:p=some ⟨b,0,none⟩∧l=len∧c=cap:=by simpa using h1
  exact .inr ⟨b,rs,1,true,rfl,by rw [← zLM h3.2];exact h3.1,h3.2,h5,h4,h6⟩
theorem yFN {n:Nat} {cs:List Value} (h:WT Pg σ (n+2) 29 cs):∃ p l c xs,cs=[.slice p l c]∧yF σ p l xs∧zFB σ 1 p l c:=by
 obtain ⟨p,l,c,rs,e1,_,s1,l1,w1⟩:=zOB Try.underlying29 (k:=1) (by kernel_rfl) h;subst e1;have ha:=yPK Try.underlying29 (k:=1) (by kernel_rfl) h;obtain ⟨xs,n1,rfl⟩:=zWZ (f:=fun x:Int=>[zZ x]) (fun cs h=>zBI h) l rs l1 w1;refine ⟨p,l,c,xs,rfl,⟨by rw [xLO];exact s1,by simpa using n1,fun v hv=>?_⟩,ha⟩
 obtain ⟨x,_,rfl⟩:=List.mem_map.1 hv;exact uN x
theorem xFR {n:Nat} {cs:List Value} (h:WT Pg σ (n+2) 26 cs):∃ p l c,∃ xs:List Int,cs=[.slice p l c]∧SlV Pg σ 5 1 p l (xs.map fun x=>.int .u8 x)∧∀ x∈xs,0≤x∧x≤255:=by
 obtain ⟨p,l,c,rs,e1,_,s1,l1,w1⟩:=zOB Try.underlying26 (k:=1) (by kernel_rfl) h;obtain ⟨xs,n1,rfl⟩:=zWZ (f:=fun x:{x:Int // 0≤x∧x≤255}=>[Value.int .u8 x.1]) (fun cs h=>by
  obtain ⟨i,e,h⟩:=xTF h;exact ⟨⟨i,h⟩,e⟩) l rs l1 w1
 have hf:xF ((xs.map (·.1)).map fun x=>Value.int .u8 x)=xs.flatMap fun x=>[Value.int .u8 x.1]:=by
  clear n1 s1 l1 w1;induction xs with
  | nil=>rfl
  | cons x xs ih=>rw [List.map_cons,List.map_cons,List.flatMap_cons,← ih];rfl
 refine ⟨p,l,c,xs.map (·.1),e1,⟨by rw [hf];exact s1,by simpa using n1,fun v hv=>?_⟩,fun x hx=>?_⟩
 ·obtain ⟨x,_,rfl⟩:=List.mem_map.1 hv;exact .inl ⟨xST,rfl,rfl⟩
 ·obtain ⟨x,_,rfl⟩:=List.mem_map.1 hx;exact x.2
theorem xUD {n:Nat} {cs:List Value} (h:WT Pg σ (n+3) 35 cs):∃ x:Dty,cs=zF x.day x.on x.lo x.hi x.route:=by
 unfold WT at h;simp only [Try.underlying35] at h;obtain ⟨hl,h⟩:=h;have hl:cs.length=5:=hl.trans (by kernel_rfl);obtain ⟨c1,c2,c3,c4,c5,rfl⟩:∃ c1 c2 c3 c4 c5,cs=[c1,c2,c3,c4,c5]:=by
  match cs,hl with
  | [c1,c2,c3,c4,c5],_=>exact ⟨_,_,_,_,_,rfl⟩
 have k3:Pg.cellsOf 3=1:=by kernel_rfl
 have k90:Pg.cellsOf 33=2:=by kernel_rfl
 simp only [List.mem_cons,List.not_mem_nil,or_false,forall_eq_or_imp,forall_eq,k3,k90] at h;obtain ⟨⟨_,h1⟩,⟨_,h2⟩,⟨_,h3⟩,⟨_,h5⟩⟩:=h;obtain ⟨x1,h1⟩:=zBI h1;obtain ⟨x2,h2⟩:=zBI h2;obtain ⟨x5,h5⟩:=zBI h5;unfold WT at h3;simp only [Try.underlying33] at h3;obtain ⟨_,h3⟩:=h3;simp only [List.mem_cons,List.not_mem_nil,or_false,forall_eq_or_imp,forall_eq,k3] at h3;obtain ⟨⟨_,h3⟩,⟨_,h4⟩⟩:=h3;obtain ⟨x3,h3⟩:=zBI h3;obtain ⟨x4,h4⟩:=zBI h4;obtain rfl:c1=zZ x1:=by simpa using h1
 obtain rfl:c2=zZ x2:=by simpa using h2
 obtain rfl:c3=zZ x3:=by simpa using h3
 obtain rfl:c4=zZ x4:=by simpa using h4
 obtain rfl:c5=zZ x5:=by simpa using h5
 exact ⟨⟨x1,x2,x3,x4,x5⟩,rfl⟩
theorem xOK {n:Nat} {cs:List Value} (h:WT Pg σ (n+4) 22 cs):∃ p l c xs,cs=[.slice p l c]∧zQG σ 35 p l xs∧zFB σ 5 p l c:=by
 obtain ⟨p,l,c,rs,e1,_,s1,l1,w1⟩:=zOB Try.underlying22 (k:=5) (by kernel_rfl) h;subst e1;have ha:=yPK Try.underlying22 (k:=5) (by kernel_rfl) h;obtain ⟨xs,n1,rfl⟩:=zWZ (f:=fun x:Dty=>zF x.day x.on x.lo x.hi x.route) (fun cs h=>xUD h) l rs l1 w1;refine ⟨p,l,c,xs,rfl,⟨?_,by simpa using n1,fun v hv=>?_⟩,ha⟩
 ·rw [yEJ fun x:Dty=>zF x.day x.on x.lo x.hi x.route];exact s1
 ·obtain ⟨x,_,rfl⟩:=List.mem_map.1 hv;exact .inr ⟨xTY,zDL,_,rfl,rfl⟩
def xWP (σ:St) (v:Value) (x:Drv):Prop:=∃ p l c q m d r n e,v=.agg ⟨zM p l c q m d r n e x.off x.row x.used⟩∧(yF σ p l x.J∧zFB σ 1 p l c)∧(yF σ q m x.qa∧zFB σ 1 q m d)∧yF σ r n x.qb
theorem xWP.v {v:Value} {x:Drv} (h:xWP σ v x):zUO σ v x:=by
 obtain ⟨p,l,c,q,m,d,r,n,e,h1,h2,h3,h4⟩:=h;exact ⟨p,l,c,q,m,d,r,n,e,h1,h2.1,h3.1,h4⟩
theorem xUE {n:Nat} {cs:List Value} (h:WT Pg σ (n+3) 70 cs):∃ (x:Drv) (p q r:Option Addr) (l c m d j e:Nat),cs=zM p l c q m d r j e x.off x.row x.used∧(yF σ p l x.J∧zFB σ 1 p l c)∧(yF σ q m x.qa∧zFB σ 1 q m d)∧yF σ r j x.qb:=by
 unfold WT at h;simp only [Try.underlying70] at h;obtain ⟨hl,h⟩:=h;have hl:cs.length=6:=hl.trans (by kernel_rfl);obtain ⟨c1,c2,c3,c4,c5,c6,rfl⟩:∃ c1 c2 c3 c4 c5 c6,cs=[c1,c2,c3,c4,c5,c6]:=by
  match cs,hl with
  | [c1,c2,c3,c4,c5,c6],_=>exact ⟨_,_,_,_,_,_,rfl⟩
 have k3:Pg.cellsOf 3=1:=by kernel_rfl
 have k26:Pg.cellsOf 29=1:=by kernel_rfl
 simp only [List.mem_cons,List.not_mem_nil,or_false,forall_eq_or_imp,forall_eq,k3,k26] at h;obtain ⟨⟨_,h1⟩,⟨_,h2⟩,⟨_,h3⟩,⟨_,h4⟩,⟨_,h5⟩,⟨_,h6⟩⟩:=h;obtain ⟨p1,l1,e1,x1,h1,i1,a1⟩:=yFN h1;obtain ⟨p2,l2,e2,x2,h2,i2,a2⟩:=yFN h2;obtain ⟨p3,l3,e3,x3,h3,i3,_⟩:=yFN h3;obtain ⟨x4,h4⟩:=zBI h4;obtain ⟨x5,h5⟩:=zBI h5;obtain ⟨x6,h6⟩:=zBI h6;obtain rfl:c1=.slice p1 l1 e1:=by simpa using h1
 obtain rfl:c2=.slice p2 l2 e2:=by simpa using h2
 obtain rfl:c3=.slice p3 l3 e3:=by simpa using h3
 obtain rfl:c4=zZ x4:=by simpa using h4
 obtain rfl:c5=zZ x5:=by simpa using h5
 obtain rfl:c6=zZ x6:=by simpa using h6
 exact ⟨⟨x1,x2,x3,x4,x5,x6⟩,p1,p2,p3,l1,e1,l2,e2,l3,e3,rfl,⟨i1,a1⟩,⟨i2,a2⟩,i3⟩
structure DrvsA (σ:St) (p:Option Addr) (l c:Nat) (xs:List Drv):Prop where
 vs:∃ vs:List Value,SlV Pg σ 70 6 p l vs∧xs.length=l∧∀ (i:Nat) (x:Drv),xs[i]?=some x→∃ v,vs[i]?=some v∧xWP σ v x
 arg:zFB σ 6 p l c
theorem DrvsA.p {p:Option Addr} {l c:Nat} {xs:List Drv} (h:DrvsA σ p l c xs):zUK σ 70 p l xs:=by
 obtain ⟨vs,h1,h2,h3⟩:=h.vs;exact ⟨vs,h1,h2,fun i x hx=>by obtain ⟨v,g1,g2⟩:=h3 i x hx;exact ⟨v,g1,g2.v⟩⟩
theorem xOL {n:Nat} {cs:List Value} (h:WT Pg σ (n+4) 23 cs):∃ p l c xs,cs=[.slice p l c]∧DrvsA σ p l c xs:=by
 obtain ⟨p,l,c,rs,e1,_,s1,l1,w1⟩:=zOB Try.underlying23 (k:=6) (by kernel_rfl) h;subst e1;have ha:=yPK Try.underlying23 (k:=6) (by kernel_rfl) h;obtain ⟨xs,n1,rfl⟩:=zWZ (f:=fun x:{x:List Value × Drv // ∃ p q r l c m d j e,x.1=zM p l c q m d r j e x.2.off x.2.row x.2.used∧(yF σ p l x.2.J∧zFB σ 1 p l c)∧(yF σ q m x.2.qa∧zFB σ 1 q m d)∧yF σ r j x.2.qb}=>x.1.1) (fun cs h=>by
  obtain ⟨x,p,q,r,l,c,m,d,j,e,h1,h2⟩:=xUE h;exact ⟨⟨⟨cs,x⟩,p,q,r,l,c,m,d,j,e,h1,h2⟩,rfl⟩) l rs l1 w1
 refine ⟨p,l,c,xs.map fun x=>x.1.2,rfl,⟨⟨xs.map fun x=>.agg ⟨x.1.1⟩,⟨?_,by simpa using n1,fun v hv=>?_⟩,by simpa using n1,fun i x hx=>?_⟩,ha⟩⟩
 ·have:xF (xs.map fun x=>Value.agg ⟨x.1.1⟩)=xs.flatMap fun x=>x.1.1:=yEJ (fun x:{x:List Value × Drv // ∃ p q r l c m d j e,x.1=zM p l c q m d r j e x.2.off x.2.row x.2.used∧(yF σ p l x.2.J∧zFB σ 1 p l c)∧(yF σ q m x.2.qa∧zFB σ 1 q m d)∧yF σ r j x.2.qb}=>x.1.1) xs
  rw [this];exact s1
 ·obtain ⟨x,_,rfl⟩:=List.mem_map.1 hv;obtain ⟨p,q,r,l,c,m,d,j,e,h1,_⟩:=x.2;exact .inr ⟨xNI,zAI,_,rfl,by rw [h1];rfl⟩
 ·rw [List.getElem?_map] at hx;cases hy:xs[i]? with
  | none=>rw [hy] at hx;cases hx
  | some y =>
   rw [hy] at hx;obtain rfl:y.1.2=x:=by simpa using hx
   obtain ⟨p,q,r,l,c,m,d,j,e,h1,h2⟩:=y.2;exact ⟨.agg ⟨y.1.1⟩,by rw [List.getElem?_map,hy];rfl,p,l,c,q,m,d,r,j,e,by rw [h1],h2⟩
theorem xOJ {n:Nat} {cs:List Value} (h:WT Pg σ (n+5) 25 cs):∃ (w:Wk) (p q:Option Addr) (l c m d:Nat),cs=wkc w.M p l c q m d w.rest w.run w.j∧WkP σ 35 70 w p l q m∧zFB σ 5 p l c∧DrvsA σ q m d w.L:=by
 unfold WT at h;simp only [Try.underlying25] at h;obtain ⟨hl,h⟩:=h;have hl:cs.length=6:=hl.trans (by kernel_rfl);obtain ⟨c1,c2,c3,c4,c5,c6,rfl⟩:∃ c1 c2 c3 c4 c5 c6,cs=[c1,c2,c3,c4,c5,c6]:=by
  match cs,hl with
  | [c1,c2,c3,c4,c5,c6],_=>exact ⟨_,_,_,_,_,_,rfl⟩
 have k3:Pg.cellsOf 3=1:=by kernel_rfl
 have k22:Pg.cellsOf 22=1:=by kernel_rfl
 have k23:Pg.cellsOf 23=1:=by kernel_rfl
 simp only [List.mem_cons,List.not_mem_nil,or_false,forall_eq_or_imp,forall_eq,k3,k22,k23] at h;obtain ⟨⟨_,h1⟩,⟨_,h2⟩,⟨_,h3⟩,⟨_,h4⟩,⟨_,h5⟩,⟨_,h6⟩⟩:=h;obtain ⟨x1,h1⟩:=zBI h1;obtain ⟨p,l,c,xs,h2,i2,a2⟩:=xOK h2;obtain ⟨q,m,d,ys,h3,i3⟩:=xOL h3;obtain ⟨x4,h4⟩:=zBI h4;obtain ⟨x5,h5⟩:=zBI h5;obtain ⟨x6,h6⟩:=zBI h6;obtain rfl:c1=zZ x1:=by simpa using h1
 obtain rfl:c2=.slice p l c:=by simpa using h2
 obtain rfl:c3=.slice q m d:=by simpa using h3
 obtain rfl:c4=zZ x4:=by simpa using h4
 obtain rfl:c5=zZ x5:=by simpa using h5
 obtain rfl:c6=zZ x6:=by simpa using h6
 exact ⟨⟨x1,xs,ys,x4,x5,x6⟩,p,q,l,c,m,d,rfl,⟨i2,i3.p⟩,a2,i3⟩
theorem yXY {ι:Inj} {av v:Value} (h:VR ι av v) (hv:∀ cs,v≠.agg cs):∀ cs,av≠.agg cs:=by
 rintro cs rfl;cases h with
 | atom h=>simp [uQ] at h
 | agg _ _=>exact hv _ rfl
theorem xUH {W:World} {t e:TypeId} {v:Value} (hu:Pg.underlying t=some (.slice e)) (h:Value.okWide Pg W .any 0 t v):∀ cs,v≠.agg cs:=by
 rintro cs rfl;unfold Value.okWide at h;rw [hu] at h;simp [Cell.okWide,Cell.ok,hu] at h
theorem xQW {W:World} {t:TypeId} {k:IntKind} {v:Value} (hu:Pg.underlying t=some (.int k)) (h:Value.okWide Pg W .any 0 t v):∀ cs,v≠.agg cs:=by
 rintro cs rfl;unfold Value.okWide at h;rw [hu] at h;simp [Cell.okWide,Cell.ok,hu] at h
theorem yOF {v:Value} {p:Option Addr} {l c:Nat} (h:v.cells.toList=[.slice p l c]) (hn:∀ cs,v≠.agg cs):v=.slice p l c:=by
 cases v with
 | agg cs=>exact absurd rfl (hn cs)
 | _=>first | (simp [Value.cells] at h;done) | simpa [Value.cells] using h
theorem xEL {v:Value} {k:IntKind} {x:Int} (h:v.cells.toList=[.int k x]) (hn:∀ cs,v≠.agg cs):v=.int k x:=by
 cases v with
 | agg cs=>exact absurd rfl (hn cs)
 | _=>first | (simp [Value.cells] at h;done) | simpa [Value.cells] using h
end
end Go.Proofs.Ytgfiniccfpfplaa
