import Derived.Test.YtgfiniccfpfplaaGreatTy
import Derived.Test.YtgfiniccfpfplaaGreatTA
set_option linter.unusedVariables false
set_option maxRecDepth 20000
set_option linter.unusedSimpArgs false
namespace Go.Proofs.YtgfiniccfpfplaaGreat
open Go Go.Lay
open Tryz renaming prog -> Pg
section
variable {ak am au aj n2 n5 n6 n7 n11 n13 n16 n17 n18 n19 n22 n23 n24 n30 n33 n34 n35 n37 n40 n41 n42 n48 n51 n52 n53 n57 n60 n61 n62:Int} {af ae l q3 q4 q9 q10 q14 q15 q20 q21 q26 q28 q31 q32 q38 q39 q44 q46 q49 q50 q54 q58 q59 q63:oAa} {ac ad aa ab l_l l_c l3 c3 l4 c4 l9 c9 l10 c10 l14 c14 l15 c15 l20 c20 l21 c21 l26 c26 l28 c28 l31 c31 l32 c32 l38 c38 l39 c39 l44 c44 l46 c46 l49 c49 l50 c50 l54 c54 l58 c58 l59 c59 l63 c63:Nat} {Z Z8 Z12 Z25 Z27 Z43 Z45 Z55 Z64:St} {Q:vPa}
theorem yWR:let s1:=Z.row (wkc ak af ac ad ae aa ab am au aj) 6;∀ (h1:qm 36 [qf (wkc ak af ac ad ae aa ab am au aj)] s1 (.bool true) s1) (nx:Q (.bool true) s1) (u1:20<(l_l:Int):=by omega),yDI Pg 15 7 [qf (wkc ak af ac ad ae aa ab am au aj),.slice l l_l l_c] Z Q:=
 let s1:=Z.row (wkc ak af ac ad ae aa ab am au aj) 6;fun h1 nx u1=>zOY [.g,.g,.l (qf (wkc ak af ac ad ae aa ab am au aj)),.c (.bool true) s1,.g,.g,.g,.g,.b true,.g,.c (.bool true) s1,.g] (kc (by kernel_rfl) (an4 ((zC _ _ _).rw.ldN zAW vR (k:=0) rfl rfl (nle rfl):lz s1 25 (qe Z.y 0) (qf (wkc ak af ac ad ae aa ab am au aj))) (zD.top (aw:=15) h1) (zR u1) (xJJ:zCR (zVS Pg 15) (.func 15) [] s1 (.bool true) s1) nx))
theorem yWQ:let y0:=wkc ak af ac ad ae aa ab am au aj;let y1:=wkc n13 q14 l14 c14 q15 l15 c15 n16 n17 n18;let y2:=wkc n19 q20 l20 c20 q21 l21 c21 n22 n23 n24;let y3:=iV (l28:Int);let y4:=evL [.slice q28 l28 c28];let y5:=qe Z.y 1;let y6:Value:=.slice q28 l28 c28;let y7:=wkc n2 q3 l3 c3 q4 l4 c4 n5 n6 n7;let y8:=Z.row y0 6;∀ (h1:qm 36 [qf y0] y8 (.bool true) y8) (h2:qm 17 [qf y0] y8 (qf y7) Z8) (h3:qm 25 [qf y7] Z8 (.tuple ⟨[.slice q9 l9 c9,.slice q10 l10 c10,iV n11]⟩) Z12) (h4:lz Z12 25 (qe Z.y 0) (qf y1)) (h5:qm 17 [qf y1] Z12 (qf y2) Z25) (h6:qm 19 [.slice l l_l l_c] Z25 (.slice q26 l26 c26) Z27) (h7:lz Z27 22 y5 y6) (h8:qm 35 [qf y2,.slice q26 l26 c26,iV (l28:Int)] Z27 (.bool false) Z27) (h9:zG Z12.y [pt Z.y 0]) (h10:zG Z12.y [qf y1]) (h11:zG Z25.y [.slice l l_l l_c]) (h12:zG Z27.y [pt Z.y 1]) (h13:zG Z27.y [.slice q28 l28 c28]) (h14:zG Z27.y [qf y2,.slice q26 l26 c26,iV (l28:Int)]) (h15:(zLq Z12 22 y5 y6)) (h16:(zLq Z25 22 y5 y6)) (h17:(zLq Z27 22 y5 y6)) (h18:((zG Z12.y [.slice q28 l28 c28]/\zM RD y3=true)/\Callee.builtin .len=Callee.builtin .len/\yW Pg y4 Z12 (.call { callee:=.builtin .len,args:=⟨xI 1⟩,argTypes:=⟨[22]⟩ })=some y3)) (h19:((zG Z25.y [.slice q28 l28 c28]/\zM RD y3=true)/\Callee.builtin .len=Callee.builtin .len/\yW Pg y4 Z25 (.call { callee:=.builtin .len,args:=⟨xI 1⟩,argTypes:=⟨[22]⟩ })=some y3)) (h20:((zG Z27.y [.slice q28 l28 c28]/\zM RD y3=true)/\Callee.builtin .len=Callee.builtin .len/\yW Pg y4 Z27 (.call { callee:=.builtin .len,args:=⟨xI 1⟩,argTypes:=⟨[22]⟩ })=some y3)) (nx:Q (.bool true) Z27) (u1:¬ 20<(l_l:Int):=by omega) (u2:¬ n11=0:=by omega) (u3:n11=9:=by omega),yDI Pg 15 7 [qf y0,.slice l l_l l_c] Z Q :=
 let s1:=Z.row (wkc ak af ac ad ae aa ab am au aj) 6;let y0:=wkc ak af ac ad ae aa ab am au aj;let y1:=wkc n13 q14 l14 c14 q15 l15 c15 n16 n17 n18;let y2:=wkc n19 q20 l20 c20 q21 l21 c21 n22 n23 n24;let y6:Value:=.slice q28 l28 c28;let y7:=wkc n2 q3 l3 c3 q4 l4 c4 n5 n6 n7;fun h1 h2 h3 h4 h5 h6 h7 h8 h9 h10 h11 h12 h13 h14 h15 h16 h17 h18 h19 h20 nx u1 u2 u3=>zOY [.g,.g,.l (qf y0),.c (.bool true) s1,.g,.g,.g,.g,.b false,.g,.l (qf y0),.c (qf y7) Z8,.c (.tuple ⟨[.slice q9 l9 c9,.slice q10 l10 c10,iV n11]⟩) Z12,.g,.g,.g,.g,.g,.g,.g,.l (qf y1),.c (qf y2) Z25,.g,.c (.slice q26 l26 c26) Z27,.g,.l y6,.g,.c (.bool false) Z27,.g,.g,.b true,.g,.b true,.g,.g,.g,.g,.g,.c (.bool true) Z27,.g,.g] (kc (by kernel_rfl) (an4 ((zC _ _ _).rw.ldN zAW vR (k:=0) rfl rfl (nle rfl):lz s1 25 (qe Z.y 0) (qf y0)) (zD.top (aw:=15) h1) (zT u1) ((zC _ _ _).rw.ldN zAW vR (k:=0) rfl rfl (nle rfl):lz s1 25 (qe Z.y 0) (qf y0)) (an6 (zD.top (aw:=15) h2) (zD.top (aw:=15) h3) h4 (zD.top (aw:=15) h5) (zD.top (aw:=15) h6) h7 (an6 (zD.top (aw:=15) h8) h9 h10 h11 h12 h13 (an6 h14 h15 h16 h16 h17 h18 (an6 h19 h19 h20 (uW u2) (xL u3) (xJJ:zCR (zVS Pg 15) (.func 15) [] Z27 (.bool true) Z27) nx))))))
theorem yWP:let y0:=wkc ak af ac ad ae aa ab am au aj;let y1:=wkc n30 q31 l31 c31 q32 l32 c32 n33 n34 n35;let y2:Value:=.bool true;let y3:=qe Z.y 1;let y4:=wkc n13 q14 l14 c14 q15 l15 c15 n16 n17 n18;let y5:=wkc n19 q20 l20 c20 q21 l21 c21 n22 n23 n24;let y6:=wkc n37 q38 l38 c38 q39 l39 c39 n40 n41 n42;let y7:=wkc n48 q49 l49 c49 q50 l50 c50 n51 n52 n53;let y8:=iV (l28:Int);let y9:=iV (l46:Int);let x0:=evL [.slice q28 l28 c28];let x1:=evL [.slice q46 l46 c46];let x2:=qe Z.y 0;let x3:=wkc n57 q58 l58 c58 q59 l59 c59 n60 n61 n62;let x4:Value:=.slice q28 l28 c28;let x5:Value:=.slice q46 l46 c46;let x6:=wkc n2 q3 l3 c3 q4 l4 c4 n5 n6 n7;let x7:=Z.row y0 6;∀ (h1:qm 36 [qf y0] x7 y2 x7) (h2:qm 17 [qf y0] x7 (qf x6) Z8) (h3:qm 25 [qf x6] Z8 (.tuple ⟨[.slice q9 l9 c9,.slice q10 l10 c10,iV n11]⟩) Z12) (h4:lz Z12 25 x2 (qf y4)) (h5:qm 17 [qf y4] Z12 (qf y5) Z25) (h6:qm 19 [.slice l l_l l_c] Z25 (.slice q26 l26 c26) Z27) (h7:lz Z27 22 y3 x4) (h8:qm 35 [qf y5,.slice q26 l26 c26,iV (l28:Int)] Z27 y2 Z27) (h9:zG Z12.y [pt Z.y 0]) (h10:zG Z12.y [qf y4]) (h11:zG Z25.y [.slice l l_l l_c]) (h12:zG Z27.y [pt Z.y 1]) (h13:zG Z27.y [.slice q28 l28 c28]) (h14:zG Z27.y [qf y5,.slice q26 l26 c26,iV (l28:Int)]) (h15:(zLq Z12 22 y3 x4)) (h16:(zLq Z25 22 y3 x4)) (h17:(zLq Z27 22 y3 x4)) (h18:((zG Z12.y [.slice q28 l28 c28]/\zM RD y8=true)/\Callee.builtin .len=Callee.builtin .len/\yW Pg x0 Z12 (.call { callee:=.builtin .len,args:=⟨xI 1⟩,argTypes:=⟨[22]⟩ })=some y8)) (h19:((zG Z25.y [.slice q28 l28 c28]/\zM RD y8=true)/\Callee.builtin .len=Callee.builtin .len/\yW Pg x0 Z25 (.call { callee:=.builtin .len,args:=⟨xI 1⟩,argTypes:=⟨[22]⟩ })=some y8)) (h20:((zG Z27.y [.slice q28 l28 c28]/\zM RD y8=true)/\Callee.builtin .len=Callee.builtin .len/\yW Pg x0 Z27 (.call { callee:=.builtin .len,args:=⟨xI 1⟩,argTypes:=⟨[22]⟩ })=some y8)) (h21:lz Z27 25 x2 (qf y1)) (h22:qm 21 [qf y1,.slice q9 l9 c9] Z27 y2 Z27) (h23:qm 17 [qf y1] Z27 (qf y6) Z43) (h24:qm 19 [.slice q9 l9 c9] Z43 (.slice q44 l44 c44) Z45) (h25:lz Z45 22 y3 x5) (h26:qm 35 [qf y6,.slice q44 l44 c44,iV (l46:Int)] Z45 y2 Z45) (h27:lz Z45 25 x2 (qf y7)) (h28:qm 28 [qf y7,.slice q9 l9 c9] Z45 (.slice q54 l54 c54) Z55) (h29:qm 30 [.slice q10 l10 c10,.slice q54 l54 c54] Z55 y2 Z55) (h30:zG Z27.y [pt Z.y 0]) (h31:zG Z27.y [qf y1,.slice q9 l9 c9]) (h32:zG Z27.y [qf y1]) (h33:zG Z43.y [.slice q9 l9 c9]) (h34:zG Z45.y [pt Z.y 1]) (h35:zG Z45.y [.slice q46 l46 c46]) (h36:zG Z45.y [qf y6,.slice q44 l44 c44,iV (l46:Int)]) (h37:zG Z45.y [pt Z.y 0]) (h38:zG Z45.y [qf y7,.slice q9 l9 c9]) (h39:zG Z55.y [.slice q10 l10 c10,.slice q54 l54 c54]) (h40:(zLq Z27 22 y3 x5)) (h41:(zLq Z43 22 y3 x5)) (h42:(zLq Z45 22 y3 x5)) (h43:((zG Z27.y [.slice q46 l46 c46]/\zM RD y9=true)/\Callee.builtin .len=Callee.builtin .len/\yW Pg x1 Z27 (.call { callee:=.builtin .len,args:=⟨xI 1⟩,argTypes:=⟨[22]⟩ })=some y9)) (h44:((zG Z43.y [.slice q46 l46 c46]/\zM RD y9=true)/\Callee.builtin .len=Callee.builtin .len/\yW Pg x1 Z43 (.call { callee:=.builtin .len,args:=⟨xI 1⟩,argTypes:=⟨[22]⟩ })=some y9)) (h45:((zG Z45.y [.slice q46 l46 c46]/\zM RD y9=true)/\Callee.builtin .len=Callee.builtin .len/\yW Pg x1 Z45 (.call { callee:=.builtin .len,args:=⟨xI 1⟩,argTypes:=⟨[22]⟩ })=some y9)) (h46:lz Z55 25 x2 (qf x3)) (h47:qm 28 [qf x3,.slice l l_l l_c] Z55 (.slice q63 l63 c63) Z64) (h48:qm 29 [.slice q63 l63 c63,.slice q10 l10 c10] Z64 (.bool false) Z64) (nx:Q y2 Z64) (u1:¬ 20<(l_l:Int):=by omega) (u2:n11=0:=by omega),yDI Pg 15 7 [qf y0,.slice l l_l l_c] Z Q :=
 let s1:=Z.row (wkc ak af ac ad ae aa ab am au aj) 6;let y0:=wkc ak af ac ad ae aa ab am au aj;let y1:=wkc n30 q31 l31 c31 q32 l32 c32 n33 n34 n35;let y2:Value:=.bool true;let y4:=wkc n13 q14 l14 c14 q15 l15 c15 n16 n17 n18;let y5:=wkc n19 q20 l20 c20 q21 l21 c21 n22 n23 n24;let y6:=wkc n37 q38 l38 c38 q39 l39 c39 n40 n41 n42;let y7:=wkc n48 q49 l49 c49 q50 l50 c50 n51 n52 n53;let x2:=qe Z.y 0;let x3:=wkc n57 q58 l58 c58 q59 l59 c59 n60 n61 n62;let x4:Value:=.slice q28 l28 c28;let x5:Value:=.slice q46 l46 c46;let x6:=wkc n2 q3 l3 c3 q4 l4 c4 n5 n6 n7;fun h1 h2 h3 h4 h5 h6 h7 h8 h9 h10 h11 h12 h13 h14 h15 h16 h17 h18 h19 h20 h21 h22 h23 h24 h25 h26 h27 h28 h29 h30 h31 h32 h33 h34 h35 h36 h37 h38 h39 h40 h41 h42 h43 h44 h45 h46 h47 h48 nx u1 u2=>zOY [.g,.g,.l (qf y0),.c y2 s1,.g,.g,.g,.g,.b false,.g,.l (qf y0),.c (qf x6) Z8,.c (.tuple ⟨[.slice q9 l9 c9,.slice q10 l10 c10,iV n11]⟩) Z12,.g,.g,.g,.g,.g,.g,.g,.l (qf y4),.c (qf y5) Z25,.g,.c (.slice q26 l26 c26) Z27,.g,.l x4,.g,.c y2 Z27,.g,.g,.b false,.l (qf y1),.g,.c y2 Z27,.g,.g,.l (qf y1),.c (qf y6) Z43,.g,.c (.slice q44 l44 c44) Z45,.g,.l x5,.g,.c y2 Z45,.g,.g,.g,.g,.l (qf y7),.g,.c (.slice q54 l54 c54) Z55,.c y2 Z55,.g,.g,.g,.g,.g,.l (qf x3),.g,.c (.slice q63 l63 c63) Z64,.g,.c (.bool false) Z64,.g,.g,.g,.c y2 Z64,.g,.g] (kc (by kernel_rfl) (an5 ((zC _ _ _).rw.ldN zAW vR (k:=0) rfl rfl (nle rfl):lz s1 25 x2 (qf y0)) (zD.top (aw:=15) h1) (zT u1) ((zC _ _ _).rw.ldN zAW vR (k:=0) rfl rfl (nle rfl):lz s1 25 x2 (qf y0)) (zD.top (aw:=15) h2) (an6 (zD.top (aw:=15) h3) h4 (zD.top (aw:=15) h5) (zD.top (aw:=15) h6) h7 (zD.top (aw:=15) h8) (an6 h9 h10 h11 h12 h13 h14 (an6 h15 h16 h16 h17 h18 h19 (an6 h19 h20 (uB u2) h21 (zD.top (aw:=15) h22) h21 (an6 (zD.top (aw:=15) h23) (zD.top (aw:=15) h24) h25 (zD.top (aw:=15) h26) h27 (zD.top (aw:=15) h28) (an6 (zD.top (aw:=15) h29) h30 h31 h30 h32 h33 (an6 h34 h35 h36 h37 h38 h39 (an6 h40 h41 h41 h42 h43 h44 (an6 h44 h45 h46 (zD.top (aw:=15) h47) (zD.top (aw:=15) h48) (xJJ:zCR (zVS Pg 15) (.func 15) [] Z64 y2 Z64) nx)))))))))))
theorem yWO:let y0:=wkc ak af ac ad ae aa ab am au aj;let y1:=wkc n30 q31 l31 c31 q32 l32 c32 n33 n34 n35;let y2:=qe Z.y 1;let y3:=wkc n13 q14 l14 c14 q15 l15 c15 n16 n17 n18;let y4:=wkc n19 q20 l20 c20 q21 l21 c21 n22 n23 n24;let y5:=wkc n37 q38 l38 c38 q39 l39 c39 n40 n41 n42;let y6:=wkc n48 q49 l49 c49 q50 l50 c50 n51 n52 n53;let y7:Value:=.bool true;let y8:=iV (l28:Int);let y9:=iV (l46:Int);let x0:=evL [.slice q28 l28 c28];let x1:=evL [.slice q46 l46 c46];let x2:Value:=.slice q28 l28 c28;let x3:Value:=.slice q46 l46 c46;let x4:=qe Z.y 0;let x5:=wkc n2 q3 l3 c3 q4 l4 c4 n5 n6 n7;let x6:=Z.row y0 6;∀ (h1:qm 36 [qf y0] x6 y7 x6) (h2:qm 17 [qf y0] x6 (qf x5) Z8) (h3:qm 25 [qf x5] Z8 (.tuple ⟨[.slice q9 l9 c9,.slice q10 l10 c10,iV n11]⟩) Z12) (h4:lz Z12 25 x4 (qf y3)) (h5:qm 17 [qf y3] Z12 (qf y4) Z25) (h6:qm 19 [.slice l l_l l_c] Z25 (.slice q26 l26 c26) Z27) (h7:lz Z27 22 y2 x2) (h8:qm 35 [qf y4,.slice q26 l26 c26,iV (l28:Int)] Z27 (.bool false) Z27) (h9:zG Z12.y [pt Z.y 0]) (h10:zG Z12.y [qf y3]) (h11:zG Z25.y [.slice l l_l l_c]) (h12:zG Z27.y [pt Z.y 1]) (h13:zG Z27.y [.slice q28 l28 c28]) (h14:zG Z27.y [qf y4,.slice q26 l26 c26,iV (l28:Int)]) (h15:(zLq Z12 22 y2 x2)) (h16:(zLq Z25 22 y2 x2)) (h17:(zLq Z27 22 y2 x2)) (h18:((zG Z12.y [.slice q28 l28 c28]/\zM RD y8=true)/\Callee.builtin .len=Callee.builtin .len/\yW Pg x0 Z12 (.call { callee:=.builtin .len,args:=⟨xI 1⟩,argTypes:=⟨[22]⟩ })=some y8)) (h19:((zG Z25.y [.slice q28 l28 c28]/\zM RD y8=true)/\Callee.builtin .len=Callee.builtin .len/\yW Pg x0 Z25 (.call { callee:=.builtin .len,args:=⟨xI 1⟩,argTypes:=⟨[22]⟩ })=some y8)) (h20:((zG Z27.y [.slice q28 l28 c28]/\zM RD y8=true)/\Callee.builtin .len=Callee.builtin .len/\yW Pg x0 Z27 (.call { callee:=.builtin .len,args:=⟨xI 1⟩,argTypes:=⟨[22]⟩ })=some y8)) (h21:lz Z27 25 x4 (qf y1)) (h22:qm 21 [qf y1,.slice q9 l9 c9] Z27 y7 Z27) (h23:qm 17 [qf y1] Z27 (qf y5) Z43) (h24:qm 19 [.slice q9 l9 c9] Z43 (.slice q44 l44 c44) Z45) (h25:lz Z45 22 y2 x3) (h26:qm 35 [qf y5,.slice q44 l44 c44,iV (l46:Int)] Z45 y7 Z45) (h27:lz Z45 25 x4 (qf y6)) (h28:qm 28 [qf y6,.slice q9 l9 c9] Z45 (.slice q54 l54 c54) Z55) (h29:qm 30 [.slice q10 l10 c10,.slice q54 l54 c54] Z55 y7 Z55) (h30:zG Z27.y [pt Z.y 0]) (h31:zG Z27.y [qf y1,.slice q9 l9 c9]) (h32:zG Z27.y [qf y1]) (h33:zG Z43.y [.slice q9 l9 c9]) (h34:zG Z45.y [pt Z.y 1]) (h35:zG Z45.y [.slice q46 l46 c46]) (h36:zG Z45.y [qf y5,.slice q44 l44 c44,iV (l46:Int)]) (h37:zG Z45.y [pt Z.y 0]) (h38:zG Z45.y [qf y6,.slice q9 l9 c9]) (h39:zG Z55.y [.slice q10 l10 c10,.slice q54 l54 c54]) (h40:(zLq Z27 22 y2 x3)) (h41:(zLq Z43 22 y2 x3)) (h42:(zLq Z45 22 y2 x3)) (h43:((zG Z27.y [.slice q46 l46 c46]/\zM RD y9=true)/\Callee.builtin .len=Callee.builtin .len/\yW Pg x1 Z27 (.call { callee:=.builtin .len,args:=⟨xI 1⟩,argTypes:=⟨[22]⟩ })=some y9)) (h44:((zG Z43.y [.slice q46 l46 c46]/\zM RD y9=true)/\Callee.builtin .len=Callee.builtin .len/\yW Pg x1 Z43 (.call { callee:=.builtin .len,args:=⟨xI 1⟩,argTypes:=⟨[22]⟩ })=some y9)) (h45:((zG Z45.y [.slice q46 l46 c46]/\zM RD y9=true)/\Callee.builtin .len=Callee.builtin .len/\yW Pg x1 Z45 (.call { callee:=.builtin .len,args:=⟨xI 1⟩,argTypes:=⟨[22]⟩ })=some y9)) (nx:Q y7 Z55) (u1:¬ 20<(l_l:Int):=by omega) (u2:n11=0:=by omega),yDI Pg 15 7 [qf y0,.slice l l_l l_c] Z Q :=
 let s1:=Z.row (wkc ak af ac ad ae aa ab am au aj) 6;let y0:=wkc ak af ac ad ae aa ab am au aj;let y1:=wkc n30 q31 l31 c31 q32 l32 c32 n33 n34 n35;let y3:=wkc n13 q14 l14 c14 q15 l15 c15 n16 n17 n18;let y4:=wkc n19 q20 l20 c20 q21 l21 c21 n22 n23 n24;let y5:=wkc n37 q38 l38 c38 q39 l39 c39 n40 n41 n42;let y6:=wkc n48 q49 l49 c49 q50 l50 c50 n51 n52 n53;let y7:Value:=.bool true;let x2:Value:=.slice q28 l28 c28;let x3:Value:=.slice q46 l46 c46;let x4:=qe Z.y 0;let x5:=wkc n2 q3 l3 c3 q4 l4 c4 n5 n6 n7;fun h1 h2 h3 h4 h5 h6 h7 h8 h9 h10 h11 h12 h13 h14 h15 h16 h17 h18 h19 h20 h21 h22 h23 h24 h25 h26 h27 h28 h29 h30 h31 h32 h33 h34 h35 h36 h37 h38 h39 h40 h41 h42 h43 h44 h45 nx u1 u2=>zOY [.g,.g,.l (qf y0),.c y7 s1,.g,.g,.g,.g,.b false,.g,.l (qf y0),.c (qf x5) Z8,.c (.tuple ⟨[.slice q9 l9 c9,.slice q10 l10 c10,iV n11]⟩) Z12,.g,.g,.g,.g,.g,.g,.g,.l (qf y3),.c (qf y4) Z25,.g,.c (.slice q26 l26 c26) Z27,.g,.l x2,.g,.c (.bool false) Z27,.g,.g,.b false,.l (qf y1),.g,.c y7 Z27,.g,.g,.l (qf y1),.c (qf y5) Z43,.g,.c (.slice q44 l44 c44) Z45,.g,.l x3,.g,.c y7 Z45,.g,.g,.g,.g,.l (qf y6),.g,.c (.slice q54 l54 c54) Z55,.c y7 Z55,.g,.g,.g,.g,.g,.g,.g,.c y7 Z55,.g,.g] (kc (by kernel_rfl) (an2 ((zC _ _ _).rw.ldN zAW vR (k:=0) rfl rfl (nle rfl):lz s1 25 x4 (qf y0)) (zD.top (aw:=15) h1) (an6 (zT u1) ((zC _ _ _).rw.ldN zAW vR (k:=0) rfl rfl (nle rfl):lz s1 25 x4 (qf y0)) (zD.top (aw:=15) h2) (zD.top (aw:=15) h3) h4 (zD.top (aw:=15) h5) (an6 (zD.top (aw:=15) h6) h7 (zD.top (aw:=15) h8) h9 h10 h11 (an6 h12 h13 h14 h15 h16 h16 (an6 h17 h18 h19 h19 h20 (uB u2) (an6 h21 (zD.top (aw:=15) h22) h21 (zD.top (aw:=15) h23) (zD.top (aw:=15) h24) h25 (an6 (zD.top (aw:=15) h26) h27 (zD.top (aw:=15) h28) (zD.top (aw:=15) h29) h30 h31 (an6 h30 h32 h33 h34 h35 h36 (an6 h37 h38 h39 h40 h41 h41 (an6 h42 h43 h44 h44 h45 (xJJ:zCR (zVS Pg 15) (.func 15) [] Z55 y7 Z55) nx)))))))))))
theorem yWN:let s1:=Z.row (wkc ak af ac ad ae aa ab am au aj) 6;∀ (h1:qm 36 [qf (wkc ak af ac ad ae aa ab am au aj)] s1 (.bool false) s1) (nx:Q (.bool true) s1),yDI Pg 15 7 [qf (wkc ak af ac ad ae aa ab am au aj),.slice l l_l l_c] Z Q:=
 let s1:=Z.row (wkc ak af ac ad ae aa ab am au aj) 6;fun h1 nx=>zOY [.g,.g,.l (qf (wkc ak af ac ad ae aa ab am au aj)),.c (.bool false) s1,.g,.g,.g,.c (.bool true) s1,.g] (kc (by kernel_rfl) (an3 ((zC _ _ _).rw.ldN zAW vR (k:=0) rfl rfl (nle rfl):lz s1 25 (qe Z.y 0) (qf (wkc ak af ac ad ae aa ab am au aj))) (zD.top (aw:=15) h1) (xJJ:zCR (zVS Pg 15) (.func 15) [] s1 (.bool true) s1) nx))
end
section
variable {Z z:St} {w:Wk} {p q r:Option Addr} {l m c d rl rc:Nat} {xs:List Int}
theorem xCL {rs:List Int} (hl:rs.length=w.duties.length) (hr:Ros w (zY rs)):0<=zFH w (zY rs)/\zFH w (zY rs)<=(w.duties.length:Int):=by
 have h1:=(zWE hl).1 hr;have e:((yQT rs:Nat):Int)=zFH w (zY rs):=yKK hl fun y hy=>(h1 y hy).1
 have hle:yQT rs<=rs.length:=List.length_filter_le _ _;omega
theorem yPH (h:WkP Z 92 76 w p l q m) (hr:yD Z r rl xs):yDI Tryz.prog 15 7 [.agg ⟨wkc w.days p l c q m d w.rest w.run w.hours⟩,.slice r rl rc] Z fun v _=>v=.bool true:=by
 have hln:=h.len.1;have hm:=h.len.2;obtain ⟨t1,ht1⟩:∃ t1,t1=Z.row (wkc w.days p l c q m d w.rest w.run w.hours) 6:=⟨_,rfl⟩;have L1:Le Z t1:=by rw [ht1];exact Le.row _ _ _
 have w1:Row t1 ⟨Z.y,0,none⟩ (wkc w.days p l c q m d w.rest w.run w.hours):=by rw [ht1];exact xM _ _ _
 have hnx:Z.y<t1.y:=w1.lt;have k1:=xUD (c:=c) (d:=d) (h.le L1);cases b0:zZV w with
 | false =>
  rw [b0] at k1;subst ht1;exact yWN k1 rfl
 | true =>
 rw [b0] at k1;obtain ⟨hsh,hf,h8,h4⟩:=yPF b0;by_cases h20:20<rl
 ·subst ht1;exact yWR k1 rfl (by omega)
 have hs:=Sane.of hf hsh hln hm;obtain ⟨n,hn,hn1,hn7,hv⟩:=yKH hf;have hw:=yDN hf hn;have ldw:∀ s,Le t1 s->zB Tryz.prog s 25 ⟨Z.y,0,none⟩=some (.agg ⟨wkc w.days p l c q m d w.rest w.run w.hours⟩):=fun s hs=>(w1.le hs).ldN zAW vR (k:=0) rfl rfl (nle rfl)
 have ldd:∀ s,Le t1 s->zB Tryz.prog s 22 ⟨Z.y,1,none⟩=some (.slice p l c):=fun s hs=>(w1.le hs).ld zCK rfl
 have bn:∀ s,Le t1 s->Z.y<s.y:=fun s hs=>by have:=hs.y;omega
 have pab:∀ s,Le t1 s->∀ a,p=some a->a.block<s.y:=fun s hs=>xN ((h.le L1).le hs).dty
 have qab:∀ s,Le t1 s->∀ a,q=some a->a.block<s.y:=fun s hs=>by obtain ⟨vs,g,_⟩:=((h.le L1).le hs).drv;exact xN g
 have b0':∀ s,Le t1 s->zG s.y [.pointer (some ⟨Z.y,0,none⟩)]:=fun s hs=>(zE (zP (bn s hs)) zI)
 have b1':∀ s,Le t1 s->zG s.y [.pointer (some ⟨Z.y,1,none⟩)]:=fun s hs=>(zE (zP (bn s hs)) zI)
 have bw':∀ s,Le t1 s->zG s.y [.agg ⟨wkc w.days p l c q m d w.rest w.run w.hours⟩]:=fun s hs=>(zE (zAN (pab s hs) (qab s hs)) zI)
 have bd':∀ s,Le t1 s->zG s.y [.slice p l c]:=fun s hs=>(zE (yK (pab s hs)) zI)
 have lk':∀ s,Le t1 s->((⟨Z.y,1,none⟩:Addr).block<s.y/\zM RD (.slice p l c)=true)/\zB Tryz.prog s 22 ⟨Z.y,1,none⟩=some (.slice p l c):=fun s hs=>⟨⟨bn s hs,rfl⟩,ldd s hs⟩
 have ln':∀ s,Le t1 s->(zG s.y [.slice p l c]/\zM RD (iV ((l:Nat):Int))=true)/\Callee.builtin .len=Callee.builtin .len/\yW Tryz.prog (evL [.slice p l c]) s (.call { callee:=.builtin .len,args:=⟨xI 1⟩,argTypes:=⟨[22]⟩ })=some (iV ((l:Nat):Int)):=fun s hs=>⟨⟨bd' s hs,rfl⟩,rfl,rfl⟩
 obtain ⟨p8,c8,q8,d8,s8,k2,N2,w2⟩:=yZZ (c:=c) (d:=d) (h.le L1) (by omega) (by omega) hsh;obtain ⟨v,s12,k3,N3,bv⟩:=xZT (c:=c8) (d:=d8) w2 hsh;have L12:Le t1 s12:=N2.le.trans N3.le;obtain ⟨p25,c25,q25,d25,s25,k5,N5,w5⟩:=yZZ (c:=c) (d:=d) ((h.le L1).le L12) (by omega) (by omega) hsh;have L25:Le t1 s25:=L12.trans N5.le;obtain ⟨p27,c27,s27,k6,N6,i27,_⟩:=zZU (c:=rc) (SlV.le hr (L1.trans L25)) (by omega);have L27:Le t1 s27:=L25.trans N6.le;have k8:=zNB (c:=c25) (d:=d25) (rc:=c27) (eH:=(l:Int)) (w5.le N6.le) hsh i27 (by omega);have w27:=w5.le N6.le;have rab:∀ s,Le t1 s->∀ a,r=some a->a.block<s.y:=fun s hs=>xN (SlV.le hr (L1.trans hs))
 have b14:zG s27.y [.agg ⟨wkc w.days p25 l c25 q25 m d25 w.rest w.run w.hours⟩,.slice p27 rl c27,iV ((l:Nat):Int)]:=(zE (zAN (xN w27.dty) (by obtain ⟨vs,g,_⟩:=w27.drv;exact xN g)) (zE (yK (xN i27)) (zE rfl zI)));have b11:zG s25.y [.slice r rl rc]:=(zE (yK (rab s25 L25)) zI);rcases bv with ⟨hf',_⟩ | ⟨_,hno,rfl⟩ | ⟨_,rs,gs,pr,cr,pg,cg,rfl,irs,igs,B⟩
 ·exact absurd hf hf'
 ·have e8:zCO w xs (l:Int)=false:=by
   rw [<- Bool.not_eq_true,zRO hf];rintro ⟨⟨g1,g2⟩,g3,g4⟩;have:=xCL g1 g2;exact hno _ g2 g3 ((yAR g1 g2).2 (by omega))
  rw [e8] at k8;subst ht1;exact yWQ k1 k2 k3 (ldw _ L12) k5 k6 (ldd _ L27) k8 (b0' _ L12) (bw' _ L12) b11 (b1' _ L27) (bd' _ L27) b14 (lk' _ L12) (lk' _ L25) (lk' _ L27) (ln' _ L12) (ln' _ L25) (ln' _ L27) rfl (by omega) (by decide) rfl
 ·have erl:=irs.len;have hrl:rs.length=w.duties.length:=by omega
  have N527:=N5.trans N6;have i27r:yD s27 pr l rs:=SlV.le irs N527.le;have h27:=(h.le L1).le L27;have k22:=yNH (c:=c) (d:=d) (rc:=cr) h27 i27r (by omega) (by omega);have hisr:zEA w rs=true:=zSA.2 ⟨hrl,fun i hi=>B.ros.ros i (by omega)⟩;rw [hisr] at k22;obtain ⟨p43,c43,q43,d43,s43,k23,N23,w23⟩:=yZZ (c:=c) (d:=d) h27 (by omega) (by omega) hsh;have L43:Le t1 s43:=L27.trans N23.le;have i43r:yD s43 pr l rs:=SlV.le i27r N23.le;obtain ⟨p45,c45,s45,k24,N24,i45,_⟩:=zZU (c:=cr) i43r (by omega);have L45:Le t1 s45:=L43.trans N24.le;have w45:=w23.le N24.le;have k26:=zNB (c:=c43) (d:=d43) (rc:=c45) (eH:=(l:Int)) w45 hsh i45 (by omega);have e26:zCO w rs (l:Int)=true:=(zRO hf).2 ⟨⟨hrl,B.ros⟩,B.legal,by rw [(yAR hrl B.ros).1 B.full];omega⟩;rw [e26] at k26;have i45r:yD s45 pr l rs:=SlV.le i43r N24.le;have h45:=(h.le L1).le L45;obtain ⟨p54,c54,s55,k28,N28,i55,_⟩:=yEE (c:=c) (d:=d) (rc:=cr) h45 hs hw i45r;have L55:Le t1 s55:=L45.trans N28.le;have i55g:yD s55 pg m gs:=SlV.le igs (N527.le.trans (N23.le.trans (N24.le.trans N28.le)));have hgs:gs=wZ w (zY rs) m:=by
   rw [B.gs,yXM hm hs.m6,hm,List.take_append_of_le_length (by rw [zES];exact Nat.le_refl _),List.take_of_length_le (by rw [zES];exact Nat.le_refl _)]
  have k29:=xYM (c:=cg) (d:=c54) i55g i55 (by have:=hs.m6;omega);rw [decide_eq_true hgs] at k29;have prs:∀ s,Le s12 s->∀ a,pr=some a->a.block<s.y:=fun s hh=>xN (SlV.le irs hh)
  have b31:zG s27.y [.agg ⟨wkc w.days p l c q m d w.rest w.run w.hours⟩,.slice pr l cr]:=(zE (zAN (pab s27 L27) (qab s27 L27)) (zE (yK (xN i27r)) zI));have b33:zG s43.y [.slice pr l cr]:=(zE (yK (xN i43r)) zI);have b36:zG s45.y [.agg ⟨wkc w.days p43 l c43 q43 m d43 w.rest w.run w.hours⟩,.slice p45 l c45,iV ((l:Nat):Int)]:=(zE (zAN (xN w45.dty) (by obtain ⟨vs,g,_⟩:=w45.drv;exact xN g)) (zE (yK (xN i45)) (zE rfl zI)));have b38:zG s45.y [.agg ⟨wkc w.days p l c q m d w.rest w.run w.hours⟩,.slice pr l cr]:=(zE (zAN (pab s45 L45) (qab s45 L45)) (zE (yK (xN i45r)) zI));have b39:zG s55.y [.slice pg m cg,.slice p54 m c54]:=(zE (yK (xN i55g)) (zE (yK (xN i55)) zI));cases e8:zCO w xs (l:Int) with
  | false =>
   rw [e8] at k8;subst ht1;exact yWO k1 k2 k3 (ldw _ L12) k5 k6 (ldd _ L27) k8 (b0' _ L12) (bw' _ L12) b11 (b1' _ L27) (bd' _ L27) b14 (lk' _ L12) (lk' _ L25) (lk' _ L27) (ln' _ L12) (ln' _ L25) (ln' _ L27) (ldw _ L27) k22 k23 k24 (ldd _ L45) k26 (ldw _ L45) k28 k29 (b0' _ L27) b31 (bw' _ L27) b33 (b1' _ L45) (bd' _ L45) b36 (b0' _ L45) b38 b39 (lk' _ L27) (lk' _ L43) (lk' _ L45) (ln' _ L27) (ln' _ L43) (ln' _ L45) rfl (by omega) rfl
  | true =>
   rw [e8] at k8;obtain ⟨⟨g1,g2⟩,g3,g4⟩:=(zRO hf).1 e8;have hxl:rl=l:=by have:=hr.len;omega
   subst hxl;have ix55:yD s55 r rl xs:=SlV.le hr (L1.trans L55);obtain ⟨p63,c63,s64,k47,N47,i64,_⟩:=yEE (c:=c) (d:=d) (rc:=rc) ((h.le L1).le L55) hs hw ix55;have k48:=xSS (c:=c63) (d:=cg) i64 (SlV.le i55g N47.le) (by have:=hs.m6;omega);have hmo:xS (wZ w (zY xs) m) gs=false:=by
    rw [hgs,<- xTX hm hs.m6];have:=xCL g1 g2;exact B.best _ g2 g3 ((yAR g1 g2).2 (by omega))
   rw [hmo] at k48;subst ht1;exact yWP k1 k2 k3 (ldw _ L12) k5 k6 (ldd _ L27) k8 (b0' _ L12) (bw' _ L12) b11 (b1' _ L27) (bd' _ L27) b14 (lk' _ L12) (lk' _ L25) (lk' _ L27) (ln' _ L12) (ln' _ L25) (ln' _ L27) (ldw _ L27) k22 k23 k24 (ldd _ L45) k26 (ldw _ L45) k28 k29 (b0' _ L27) b31 (bw' _ L27) b33 (b1' _ L45) (bd' _ L45) b36 (b0' _ L45) b38 b39 (lk' _ L27) (lk' _ L43) (lk' _ L45) (ln' _ L27) (ln' _ L43) (ln' _ L45) (ldw _ L55) k47 k48 rfl (by omega) rfl
end
section
variable {Z:St}
theorem zBD {n:Nat} {cs:List Value} (h:WT Pg Z (n+1) 3 cs):∃ i,cs=[yA i]:=by
 unfold WT at h;simp only [Tryz.underlying3] at h;obtain ⟨i,h,_⟩:=h;exact ⟨i,h⟩
theorem zXC {n:Nat} {t e:TypeId} {cs:List Value} {k:Nat} (hu:Pg.underlying t=some (.slice e)) (hk:Pg.cellsOf e=k) (h:WT Pg Z (n+1) t cs) :
  ∃ p len cap rs,cs=[.slice p len cap]/\len<=maxLen/\SlP Z k p len rs/\rs.length=len*k/\∀ i,i<len->WT Pg Z n e ((rs.drop (i*k)).take k):=by
 unfold WT at h;simp only [hu,hk] at h;rcases h with rfl | ⟨b,len,cap,rs,rfl,h1,h2,h3,h4,h5,h6⟩
 ·exact ⟨none,0,0,[],rfl,by decide,SlP.nil _ _,by simp,fun i hi=>by omega⟩
 ·refine ⟨_,len,cap,rs,rfl,h1,⟨h3, ?_,h5⟩,h3,h6⟩
  simp only [yP,h4,yC,wW,Nat.zero_add,List.drop_zero,List.take_length];show (bif Nat.ble rs.length rs.length then some rs else none)=some rs;rw [show Nat.ble rs.length rs.length=true from by simp];rfl
theorem yJC {α:Type} {k:Nat} {Q:List Value->Prop} {f:α->List Value} (hq:∀ cs,Q cs->∃ x,cs=f x):∀ (len:Nat) (rs:List Value),rs.length=len*k->(∀ i,i<len->Q ((rs.drop (i*k)).take k))->∃ xs:List α,xs.length=len/\rs=xs.flatMap f
 | 0,rs,hl,_=>⟨[],rfl,by simpa using hl⟩
 | len+1,rs,hl,h=>by
  obtain ⟨x,hx⟩:=hq _ (h 0 (by omega));obtain ⟨xs,h1,h2⟩:=yJC (k:=k) hq len (rs.drop k) (by simp [hl,Nat.add_mul]) (fun i hi=>by
   have:=h (i+1) (by omega);rwa [Nat.add_mul,Nat.one_mul,Nat.add_comm (i*k),<- List.drop_drop] at this)
  refine ⟨x::xs,by simp [h1], ?_⟩
  simp only [List.flatMap_cons,<- h2,<- hx];simp
theorem yGR {α:Type} (f:α->List Value) (xs:List α):wV (xs.map fun x=>.agg ⟨f x⟩)=xs.flatMap f:=by
 induction xs with
 | nil=>rfl
 | cons x xs ih=>rw [List.map_cons,List.flatMap_cons,<- ih];simp [wV,Value.cells]
theorem xOZ (xs:List Int):wV (xs.map yA)=xs.flatMap fun x=>[yA x]:=by
 induction xs with
 | nil=>rfl
 | cons x xs ih=>rw [List.map_cons,List.flatMap_cons,<- ih];rfl
theorem ySL {n:Nat} {t e:TypeId} {p:Option Addr} {l c k:Nat} (hu:Pg.underlying t=some (.slice e)) (hk:Pg.cellsOf e=k) (h:WT Pg Z (n+1) t [.slice p l c]):zTN Z k p l c:=by
 unfold WT at h;simp only [hu,hk] at h;rcases h with h | ⟨b,len,cap,rs,h1,h2,h3,h4,h5,h6,h7⟩
 ·obtain ⟨rfl,rfl,rfl⟩:p=none/\l=0/\c=0:=by simpa using h
  exact .inl ⟨rfl,rfl,rfl⟩
 ·obtain ⟨rfl,rfl,rfl⟩:p=some ⟨b,0,none⟩/\l=len/\c=cap:=by simpa using h1
  exact .inr ⟨b,rs,1,true,rfl,by rw [<- zSZ h3.2];exact h3.1,h3.2,h5,h4,h6⟩
theorem zWB {n:Nat} {cs:List Value} (h:WT Pg Z (n+2) 26 cs):∃ p l c xs,cs=[.slice p l c]/\yD Z p l xs/\zTN Z 1 p l c:=by
 obtain ⟨p,l,c,rs,e1,_,s1,l1,w1⟩:=zXC Tryz.underlying26 (k:=1) (by kernel_rfl) h;subst e1;have ha:=ySL Tryz.underlying26 (k:=1) (by kernel_rfl) h;obtain ⟨xs,n1,rfl⟩:=yJC (f:=fun x:Int=>[yA x]) (fun cs h=>zBD h) l rs l1 w1;refine ⟨p,l,c,xs,rfl,⟨by rw [xOZ];exact s1,by simpa using n1,fun v hv=>?_⟩,ha⟩
 obtain ⟨x,_,rfl⟩:=List.mem_map.1 hv;exact uS x
theorem xXE {n:Nat} {cs:List Value} (h:WT Pg Z (n+3) 92 cs):∃ x:Dty,cs=zF x.day x.on x.lo x.hi x.route:=by
 unfold WT at h;simp only [Tryz.underlying92] at h;obtain ⟨hl,h⟩:=h;have hl:cs.length=5:=hl.trans (by kernel_rfl);obtain ⟨c1,c2,c3,c4,c5,rfl⟩:∃ c1 c2 c3 c4 c5,cs=[c1,c2,c3,c4,c5]:=by
  match cs,hl with
  | [c1,c2,c3,c4,c5],_=>exact ⟨_,_,_,_,_,rfl⟩
 have k3:Pg.cellsOf 3=1:=by kernel_rfl
 have k90:Pg.cellsOf 90=2:=by kernel_rfl
 simp only [List.mem_cons,List.not_mem_nil,or_false,forall_eq_or_imp,forall_eq,k3,k90] at h;obtain ⟨⟨_,h1⟩,⟨_,h2⟩,⟨_,h3⟩,⟨_,h5⟩⟩:=h;obtain ⟨x1,h1⟩:=zBD h1;obtain ⟨x2,h2⟩:=zBD h2;obtain ⟨x5,h5⟩:=zBD h5;unfold WT at h3;simp only [Tryz.underlying90] at h3;obtain ⟨_,h3⟩:=h3;simp only [List.mem_cons,List.not_mem_nil,or_false,forall_eq_or_imp,forall_eq,k3] at h3;obtain ⟨⟨_,h3⟩,⟨_,h4⟩⟩:=h3;obtain ⟨x3,h3⟩:=zBD h3;obtain ⟨x4,h4⟩:=zBD h4;obtain rfl:c1=yA x1:=by simpa using h1
 obtain rfl:c2=yA x2:=by simpa using h2
 obtain rfl:c3=yA x3:=by simpa using h3
 obtain rfl:c4=yA x4:=by simpa using h4
 obtain rfl:c5=yA x5:=by simpa using h5
 exact ⟨⟨x1,x2,x3,x4,x5⟩,rfl⟩
theorem xRS {n:Nat} {cs:List Value} (h:WT Pg Z (n+4) 22 cs):∃ p l c xs,cs=[.slice p l c]/\yCD Z 92 p l xs/\zTN Z 5 p l c:=by
 obtain ⟨p,l,c,rs,e1,_,s1,l1,w1⟩:=zXC Tryz.underlying22 (k:=5) (by kernel_rfl) h;subst e1;have ha:=ySL Tryz.underlying22 (k:=5) (by kernel_rfl) h;obtain ⟨xs,n1,rfl⟩:=yJC (f:=fun x:Dty=>zF x.day x.on x.lo x.hi x.route) (fun cs h=>xXE h) l rs l1 w1;refine ⟨p,l,c,xs,rfl,⟨?_,by simpa using n1,fun v hv=>?_⟩,ha⟩
 ·rw [yGR fun x:Dty=>zF x.day x.on x.lo x.hi x.route];exact s1
 ·obtain ⟨x,_,rfl⟩:=List.mem_map.1 hv;exact .inr ⟨wBA,zIV,_,rfl,rfl⟩
def xZR (Z:St) (v:Value) (x:Drv):Prop:=∃ p l c q m d r n e,v=.agg ⟨zN p l c q m d r n e x.off x.row x.used⟩/\(yD Z p l x.knows/\zTN Z 1 p l c)/\(yD Z q m x.leave/\zTN Z 1 q m d)/\yD Z r n x.wish
theorem xZR.v {v:Value} {x:Drv} (h:xZR Z v x):zVZ Z v x:=by
 obtain ⟨p,l,c,q,m,d,r,n,e,h1,h2,h3,h4⟩:=h;exact ⟨p,l,c,q,m,d,r,n,e,h1,h2.1,h3.1,h4⟩
theorem xXF {n:Nat} {cs:List Value} (h:WT Pg Z (n+3) 76 cs):∃ (x:Drv) (p q r:Option Addr) (l c m d j e:Nat),cs=zN p l c q m d r j e x.off x.row x.used/\(yD Z p l x.knows/\zTN Z 1 p l c)/\(yD Z q m x.leave/\zTN Z 1 q m d)/\yD Z r j x.wish:=by
 unfold WT at h;simp only [Tryz.underlying76] at h;obtain ⟨hl,h⟩:=h;have hl:cs.length=6:=hl.trans (by kernel_rfl);obtain ⟨c1,c2,c3,c4,c5,c6,rfl⟩:∃ c1 c2 c3 c4 c5 c6,cs=[c1,c2,c3,c4,c5,c6]:=by
  match cs,hl with
  | [c1,c2,c3,c4,c5,c6],_=>exact ⟨_,_,_,_,_,_,rfl⟩
 have k3:Pg.cellsOf 3=1:=by kernel_rfl
 have k26:Pg.cellsOf 26=1:=by kernel_rfl
 simp only [List.mem_cons,List.not_mem_nil,or_false,forall_eq_or_imp,forall_eq,k3,k26] at h;obtain ⟨⟨_,h1⟩,⟨_,h2⟩,⟨_,h3⟩,⟨_,h4⟩,⟨_,h5⟩,⟨_,h6⟩⟩:=h;obtain ⟨p1,l1,e1,x1,h1,i1,a1⟩:=zWB h1;obtain ⟨p2,l2,e2,x2,h2,i2,a2⟩:=zWB h2;obtain ⟨p3,l3,e3,x3,h3,i3,_⟩:=zWB h3;obtain ⟨x4,h4⟩:=zBD h4;obtain ⟨x5,h5⟩:=zBD h5;obtain ⟨x6,h6⟩:=zBD h6;obtain rfl:c1=.slice p1 l1 e1:=by simpa using h1
 obtain rfl:c2=.slice p2 l2 e2:=by simpa using h2
 obtain rfl:c3=.slice p3 l3 e3:=by simpa using h3
 obtain rfl:c4=yA x4:=by simpa using h4
 obtain rfl:c5=yA x5:=by simpa using h5
 obtain rfl:c6=yA x6:=by simpa using h6
 exact ⟨⟨x1,x2,x3,x4,x5,x6⟩,p1,p2,p3,l1,e1,l2,e2,l3,e3,rfl,⟨i1,a1⟩,⟨i2,a2⟩,i3⟩
structure DrvsA (Z:St) (p:Option Addr) (l c:Nat) (xs:List Drv):Prop where
 vs:∃ vs:List Value,SlV Pg Z 76 6 p l vs/\xs.length=l/\∀ (i:Nat) (x:Drv),xs[i]?=some x->∃ v,vs[i]?=some v/\xZR Z v x
 arg:zTN Z 6 p l c
theorem DrvsA.p {p:Option Addr} {l c:Nat} {xs:List Drv} (h:DrvsA Z p l c xs):zVP Z 76 p l xs:=by
 obtain ⟨vs,h1,h2,h3⟩:=h.vs;exact ⟨vs,h1,h2,fun i x hx=>by obtain ⟨v,g1,g2⟩:=h3 i x hx;exact ⟨v,g1,g2.v⟩⟩
theorem xRT {n:Nat} {cs:List Value} (h:WT Pg Z (n+4) 23 cs):∃ p l c xs,cs=[.slice p l c]/\DrvsA Z p l c xs:=by
 obtain ⟨p,l,c,rs,e1,_,s1,l1,w1⟩:=zXC Tryz.underlying23 (k:=6) (by kernel_rfl) h;subst e1;have ha:=ySL Tryz.underlying23 (k:=6) (by kernel_rfl) h;obtain ⟨xs,n1,rfl⟩:=yJC (f:=fun x:{x:List Value × Drv // ∃ p q r l c m d j e,x.1=zN p l c q m d r j e x.2.off x.2.row x.2.used/\(yD Z p l x.2.knows/\zTN Z 1 p l c)/\(yD Z q m x.2.leave/\zTN Z 1 q m d)/\yD Z r j x.2.wish}=>x.1.1) (fun cs h=>by
  obtain ⟨x,p,q,r,l,c,m,d,j,e,h1,h2⟩:=xXF h;exact ⟨⟨⟨cs,x⟩,p,q,r,l,c,m,d,j,e,h1,h2⟩,rfl⟩) l rs l1 w1
 refine ⟨p,l,c,xs.map fun x=>x.1.2,rfl,⟨⟨xs.map fun x=>.agg ⟨x.1.1⟩,⟨?_,by simpa using n1,fun v hv=>?_⟩,by simpa using n1,fun i x hx=>?_⟩,ha⟩⟩
 ·have:wV (xs.map fun x=>Value.agg ⟨x.1.1⟩)=xs.flatMap fun x=>x.1.1:=yGR (fun x:{x:List Value × Drv // ∃ p q r l c m d j e,x.1=zN p l c q m d r j e x.2.off x.2.row x.2.used/\(yD Z p l x.2.knows/\zTN Z 1 p l c)/\(yD Z q m x.2.leave/\zTN Z 1 q m d)/\yD Z r j x.2.wish}=>x.1.1) xs
  rw [this];exact s1
 ·obtain ⟨x,_,rfl⟩:=List.mem_map.1 hv;obtain ⟨p,q,r,l,c,m,d,j,e,h1,_⟩:=x.2;exact .inr ⟨xQU,uZ,_,rfl,by rw [h1];rfl⟩
 ·rw [List.getElem?_map] at hx;cases hy:xs[i]? with
  | none=>rw [hy] at hx;cases hx
  | some y =>
   rw [hy] at hx;obtain rfl:y.1.2=x:=by simpa using hx
   obtain ⟨p,q,r,l,c,m,d,j,e,h1,h2⟩:=y.2;exact ⟨.agg ⟨y.1.1⟩,by rw [List.getElem?_map,hy];rfl,p,l,c,q,m,d,r,j,e,by rw [h1],h2⟩
theorem xRR {n:Nat} {cs:List Value} (h:WT Pg Z (n+5) 25 cs):∃ (w:Wk) (p q:Option Addr) (l c m d:Nat),cs=wkc w.days p l c q m d w.rest w.run w.hours/\WkP Z 92 76 w p l q m/\zTN Z 5 p l c/\DrvsA Z q m d w.drivers:=by
 unfold WT at h;simp only [Tryz.underlying25] at h;obtain ⟨hl,h⟩:=h;have hl:cs.length=6:=hl.trans (by kernel_rfl);obtain ⟨c1,c2,c3,c4,c5,c6,rfl⟩:∃ c1 c2 c3 c4 c5 c6,cs=[c1,c2,c3,c4,c5,c6]:=by
  match cs,hl with
  | [c1,c2,c3,c4,c5,c6],_=>exact ⟨_,_,_,_,_,_,rfl⟩
 have k3:Pg.cellsOf 3=1:=by kernel_rfl
 have k22:Pg.cellsOf 22=1:=by kernel_rfl
 have k23:Pg.cellsOf 23=1:=by kernel_rfl
 simp only [List.mem_cons,List.not_mem_nil,or_false,forall_eq_or_imp,forall_eq,k3,k22,k23] at h;obtain ⟨⟨_,h1⟩,⟨_,h2⟩,⟨_,h3⟩,⟨_,h4⟩,⟨_,h5⟩,⟨_,h6⟩⟩:=h;obtain ⟨x1,h1⟩:=zBD h1;obtain ⟨p,l,c,xs,h2,i2,a2⟩:=xRS h2;obtain ⟨q,m,d,ys,h3,i3⟩:=xRT h3;obtain ⟨x4,h4⟩:=zBD h4;obtain ⟨x5,h5⟩:=zBD h5;obtain ⟨x6,h6⟩:=zBD h6;obtain rfl:c1=yA x1:=by simpa using h1
 obtain rfl:c2=.slice p l c:=by simpa using h2
 obtain rfl:c3=.slice q m d:=by simpa using h3
 obtain rfl:c4=yA x4:=by simpa using h4
 obtain rfl:c5=yA x5:=by simpa using h5
 obtain rfl:c6=yA x6:=by simpa using h6
 exact ⟨⟨x1,xs,ys,x4,x5,x6⟩,p,q,l,c,m,d,rfl,⟨i2,i3.p⟩,a2,i3⟩
theorem xTU {U:Inj} {av v:Value} (h:VR U av v) (hv:∀ cs,v≠.agg cs):∀ cs,av≠.agg cs:=by
 rintro cs rfl;cases h with
 | atom h=>simp [uG] at h
 | agg _ _=>exact hv _ rfl
theorem xXI {W:World} {t e:TypeId} {v:Value} (hu:Pg.underlying t=some (.slice e)) (h:Value.okWide Pg W .any 0 t v):∀ cs,v≠.agg cs:=by
 rintro cs rfl;unfold Value.okWide at h;rw [hu] at h;simp [Cell.okWide,Cell.ok,hu] at h
theorem yRK {v:Value} {p:Option Addr} {l c:Nat} (h:v.cells.toList=[.slice p l c]) (hn:∀ cs,v≠.agg cs):v=.slice p l c:=by
 cases v with
 | agg cs=>exact absurd rfl (hn cs)
 | _=>first | (simp [Value.cells] at h;done) | simpa [Value.cells] using h
end
end Go.Proofs.YtgfiniccfpfplaaGreat
