import Derived.Test.YtgfiniccfpfplaaGreatSP
import Derived.Test.YtgfiniccfpfplaaGreatSO
import Derived.Test.YtgfiniccfpfplaaGreatRP
import Derived.Test.YtgfiniccfpfplaaGreatTy
import Derived.Test.YtgfiniccfpfplaaGreatUA
import Derived.Test.YtgfiniccfpfplaaGreatSK
import Derived.Test.YtgfiniccfpfplaaGreatRB
import Derived.Test.YtgfiniccfpfplaaGreatSB
import Derived.Test.YtgfiniccfpfplaaGreatRZ

namespace Go.Proofs.YtgfiniccfpfplaaGreat
open Go Go.Lay
set_option linter.unusedVariables false
set_option linter.unusedSimpArgs false
set_option maxRecDepth 20000
section
variable {Z:St} {w:Wk} {p q:Option Addr} {l m c d:Nat}
theorem late_eq:zZ (zBE w)=late w:=by
 funext i;unfold zZ zBE late dty;rw [List.getD_eq_getElem?_getD,List.getD_eq_getElem?_getD,List.getElem?_map];cases w.duties[i]? <;> rfl
theorem map_rosF (rs:List Int):(List.range rs.length).map (zZ rs)=rs:=by
 apply List.ext_getElem (by simp);intro i h1 h2;simp [zZ,h2]
theorem yIK {rs:List Int} (hl:rs.length=w.duties.length) (h:∀ y∈rs, -1<=y):(((rs.filter fun x=>decide (0<=x)).length:Nat):Int)=xS w (zZ rs):=by
 have e:(rs.filter fun x=>decide (0<=x))=rs.filter fun x=>decide (x≠-1):=by
  apply List.filter_congr;intro x hx;have:=h x hx;by_cases g:x=-1
  ·subst g;rfl
  ·rw [decide_eq_true (by omega),decide_eq_true g]
 rw [e];unfold xS;rw [<- hl];conv=>lhs;rw [<- map_rosF rs,List.filter_map,List.length_map]
 rfl
def yBM (x:List Int):Nat:=(x.filter fun y=>decide (0<=y)).length
theorem cov_full {x:List Int} (hl:x.length=l) (hw:w.duties.length=l) (h:∀ y∈x, -1<=y/\y<(m:Int)):¬ ((yBM x:Nat):Int)<(l:Int)↔yBU w (zZ x):=by
 have hle:yBM x<=x.length:=List.length_filter_le _ _;unfold yBU;rw [hw];constructor
 ·intro hc i hi;have he:yBM x=x.length:=by omega
  have:=List.length_filter_eq_length_iff.1 he x[i] (List.getElem_mem (by omega));have:=of_decide_eq_true this;unfold zZ;rw [List.getD_eq_getElem?_getD,List.getElem?_eq_getElem (by omega:i<x.length)];show x[i]≠-1;omega
 ·intro hf;have:yBM x=x.length:=List.length_filter_eq_length_iff.2 fun y hy=>by
   obtain ⟨i,hi,rfl⟩:=List.getElem_of_mem hy;have h1:=hf i (by omega);unfold zZ at h1;rw [List.getD_eq_getElem?_getD,List.getElem?_eq_getElem hi] at h1;have h1:x[i]≠-1:=h1;have:=h x[i] hy;exact decide_eq_true (by omega)
  omega
theorem zVM {x:List Int} (hl:x.length=w.duties.length):Ros w (zZ x)↔∀ y∈x, -1<=y/\y<(w.drivers.length:Int):=by
 constructor
 ·intro h y hy;obtain ⟨i,hi,rfl⟩:=List.getElem_of_mem hy;have:=h.ros i (by omega);unfold zZ at this;rw [List.getD_eq_getElem?_getD,List.getElem?_eq_getElem hi] at this;exact this
 ·intro h;refine ⟨fun i hi=>?_⟩
  unfold zZ;rw [List.getD_eq_getElem?_getD,List.getElem?_eq_getElem (by omega:i<x.length)];exact h _ (List.getElem_mem _)
end
end Go.Proofs.YtgfiniccfpfplaaGreat

namespace Go.Proofs.YtgfiniccfpfplaaGreat
open Go Go.Lay
open Tryz renaming prog -> Pg
set_option linter.unusedVariables false
set_option maxRecDepth 20000
variable {ak am au aj n2 n5 n6 n7 n10 n11 n13 n16 n17 n18 n19 n22 n23 n24 n28 n30 n33 n34 n35 n37 n38 n41 n42 n43 n49 n52 n53 n54 n55 n58 n59 n60:Int} {af ae l q3 q4 q9 q14 q15 q20 q21 q26 q27 q31 q32 q39 q40 q45 q48 q50 q51 q56 q57 q62:oAa} {ac ad aa ab l_l l_c l3 c3 l4 c4 l9 c9 l14 c14 l15 c15 l20 c20 l21 c21 l26 c26 l27 c27 l31 c31 l32 c32 l39 c39 l40 c40 l45 c45 l48 c48 l50 c50 l51 c51 l56 c56 l57 c57 l62 c62:Nat} {Z Z8 Z12 Z25 Z29 Z44 Z46 Z61 Z63:St} {Q:vPa}
theorem lMost_ra:let s1:=Z.row (wkc ak af ac ad ae aa ab am au aj) 6;∀ (h1:zD Pg 36 [qf (wkc ak af ac ad ae aa ab am au aj)] s1 (.bool true) s1) (nx:Q (.bool true) s1) (u1:20<(l_l:Int):=by omega),yJG Pg 15 10 [qf (wkc ak af ac ad ae aa ab am au aj),.slice l l_l l_c] Z Q:=
 let s1:=Z.row (wkc ak af ac ad ae aa ab am au aj) 6;fun h1 nx u1=>zVJ [.g,.g,.l (qf (wkc ak af ac ad ae aa ab am au aj)),.c (.bool true) s1,.g,.g,.g,.g,.b true,.g,.c (.bool true) s1,.g] (kc (by kernel_rfl) (an4 ((zC _ _ _).rw.ldN zCT uN (k:=0) rfl rfl (nle rfl):lz s1 25 (qe Z.next 0) (qf (wkc ak af ac ad ae aa ab am au aj))) (zD.top (aw:=15) h1) (zR u1) (topE:zEZ (zWN Pg 15) (.func 15) [] s1 (.bool true) s1) nx))
theorem lMost_re (h1:zD Pg 36 [qf (wkc ak af ac ad ae aa ab am au aj)] (Z.row (wkc ak af ac ad ae aa ab am au aj) 6) (.bool true) (Z.row (wkc ak af ac ad ae aa ab am au aj) 6)) (h2:zD Pg 17 [qf (wkc ak af ac ad ae aa ab am au aj)] (Z.row (wkc ak af ac ad ae aa ab am au aj) 6) (qf (wkc n2 q3 l3 c3 q4 l4 c4 n5 n6 n7)) Z8) (h3:zD Pg 37 [qf (wkc n2 q3 l3 c3 q4 l4 c4 n5 n6 n7)] Z8 (.tuple ⟨[.slice q9 l9 c9,iV n10,iV n11]⟩) Z12) (h4:lz Z12 25 (qe Z.next 0) (qf (wkc n13 q14 l14 c14 q15 l15 c15 n16 n17 n18))) (h5:zD Pg 17 [qf (wkc n13 q14 l14 c14 q15 l15 c15 n16 n17 n18)] Z12 (qf (wkc n19 q20 l20 c20 q21 l21 c21 n22 n23 n24)) Z25) (h6:zD Pg 25 [qf (wkc n19 q20 l20 c20 q21 l21 c21 n22 n23 n24)] Z25 (.tuple ⟨[.slice q26 l26 c26,.slice q27 l27 c27,iV n28]⟩) Z29) (h7:lz Z29 25 (qe Z.next 0) (qf (wkc n30 q31 l31 c31 q32 l32 c32 n33 n34 n35))) (h8:zD Pg 21 [qf (wkc n30 q31 l31 c31 q32 l32 c32 n33 n34 n35),.slice q9 l9 c9] Z29 (.bool true) Z29) (h9:zD Pg 27 [.slice q9 l9 c9] Z29 (iV n37) Z29) (h10:zD Pg 17 [qf (wkc n30 q31 l31 c31 q32 l32 c32 n33 n34 n35)] Z29 (qf (wkc n38 q39 l39 c39 q40 l40 c40 n41 n42 n43)) Z44) (h11:zD Pg 19 [.slice q9 l9 c9] Z44 (.slice q45 l45 c45) Z46) (h12:zD Pg 35 [qf (wkc n38 q39 l39 c39 q40 l40 c40 n41 n42 n43),.slice q45 l45 c45,iV n10] Z46 (.bool true) Z46) (h13:lz Z46 22 (qe Z.next 1) (.slice q48 l48 c48)) (h14:lz Z46 25 (qe Z.next 0) (qf (wkc n49 q50 l50 c50 q51 l51 c51 n52 n53 n54))) (h15:zD Pg 17 [qf (wkc n49 q50 l50 c50 q51 l51 c51 n52 n53 n54)] Z46 (qf (wkc n55 q56 l56 c56 q57 l57 c57 n58 n59 n60)) Z61) (h16:zD Pg 19 [.slice l l_l l_c] Z61 (.slice q62 l62 c62) Z63) (h17:zD Pg 35 [qf (wkc n55 q56 l56 c56 q57 l57 c57 n58 n59 n60),.slice q62 l62 c62,iV (n10+1)] Z63 (.bool false) Z63) (nx:Q (.bool true) Z63) (u1:¬ 20<(l_l:Int):=by omega) (u2:n11=0:=by omega) (u3:n37=n10:=by omega) (u4:n28=0:=by omega) (u5:n10=(l48:Int):=by omega) (u6:I6 (n10+1):=by omega):yJG Pg 15 10 [qf (wkc ak af ac ad ae aa ab am au aj),.slice l l_l l_c] Z Q :=
 let s1:=Z.row (wkc ak af ac ad ae aa ab am au aj) 6;zVJ [.g,.g,.l (qf (wkc ak af ac ad ae aa ab am au aj)),.c (.bool true) s1,.g,.g,.g,.g,.b false,.g,.l (qf (wkc ak af ac ad ae aa ab am au aj)),.c (qf (wkc n2 q3 l3 c3 q4 l4 c4 n5 n6 n7)) Z8,.c (.tuple ⟨[.slice q9 l9 c9,iV n10,iV n11]⟩) Z12,.g,.g,.g,.g,.g,.g,.g,.l (qf (wkc n13 q14 l14 c14 q15 l15 c15 n16 n17 n18)),.c (qf (wkc n19 q20 l20 c20 q21 l21 c21 n22 n23 n24)) Z25,.c (.tuple ⟨[.slice q26 l26 c26,.slice q27 l27 c27,iV n28]⟩) Z29,.g,.g,.g,.g,.g,.g,.g,.g,.b false,.g,.l (qf (wkc n30 q31 l31 c31 q32 l32 c32 n33 n34 n35)),.g,.c (.bool true) Z29,.g,.g,.g,.g,.c (iV n37) Z29,.g,.b false,.g,.g,.l (qf (wkc n30 q31 l31 c31 q32 l32 c32 n33 n34 n35)),.c (qf (wkc n38 q39 l39 c39 q40 l40 c40 n41 n42 n43)) Z44,.g,.c (.slice q45 l45 c45) Z46,.g,.c (.bool true) Z46,.g,.g,.g,.b true,.g,.g,.l (.slice q48 l48 c48),.g,.b true,.g,.g,.l (qf (wkc n49 q50 l50 c50 q51 l51 c51 n52 n53 n54)),.c (qf (wkc n55 q56 l56 c56 q57 l57 c57 n58 n59 n60)) Z61,.g,.c (.slice q62 l62 c62) Z63,.g,.n (n10+1),.c (.bool false) Z63,.g,.g,.g,.c (.bool true) Z63,.g,.g] (kc (by kernel_rfl) (an3 ((zC _ _ _).rw.ldN zCT uN (k:=0) rfl rfl (nle rfl):lz s1 25 (qe Z.next 0) (qf (wkc ak af ac ad ae aa ab am au aj))) (zD.top (aw:=15) h1) (zT u1) (an6 ((zC _ _ _).rw.ldN zCT uN (k:=0) rfl rfl (nle rfl):lz s1 25 (qe Z.next 0) (qf (wkc ak af ac ad ae aa ab am au aj))) (zD.top (aw:=15) h2) (zD.top (aw:=15) h3) h4 (zD.top (aw:=15) h5) (zD.top (aw:=15) h6) (an6 (uA u2) h7 (zD.top (aw:=15) h8) (zD.top (aw:=15) h9) (uA u3) h7 (an6 (zD.top (aw:=15) h10) (zD.top (aw:=15) h11) (zD.top (aw:=15) h12) (xI u4) h13 (xI u5) (an6 h14 (zD.top (aw:=15) h15) (zD.top (aw:=15) h16) (w64 u6) (zD.top (aw:=15) h17) (topE:zEZ (zWN Pg 15) (.func 15) [] Z63 (.bool true) Z63) nx))))))
theorem lMost_ri (h1:zD Pg 36 [qf (wkc ak af ac ad ae aa ab am au aj)] (Z.row (wkc ak af ac ad ae aa ab am au aj) 6) (.bool true) (Z.row (wkc ak af ac ad ae aa ab am au aj) 6)) (h2:zD Pg 17 [qf (wkc ak af ac ad ae aa ab am au aj)] (Z.row (wkc ak af ac ad ae aa ab am au aj) 6) (qf (wkc n2 q3 l3 c3 q4 l4 c4 n5 n6 n7)) Z8) (h3:zD Pg 37 [qf (wkc n2 q3 l3 c3 q4 l4 c4 n5 n6 n7)] Z8 (.tuple ⟨[.slice q9 l9 c9,iV n10,iV n11]⟩) Z12) (h4:lz Z12 25 (qe Z.next 0) (qf (wkc n13 q14 l14 c14 q15 l15 c15 n16 n17 n18))) (h5:zD Pg 17 [qf (wkc n13 q14 l14 c14 q15 l15 c15 n16 n17 n18)] Z12 (qf (wkc n19 q20 l20 c20 q21 l21 c21 n22 n23 n24)) Z25) (h6:zD Pg 25 [qf (wkc n19 q20 l20 c20 q21 l21 c21 n22 n23 n24)] Z25 (.tuple ⟨[.slice q26 l26 c26,.slice q27 l27 c27,iV n28]⟩) Z29) (h7:lz Z29 25 (qe Z.next 0) (qf (wkc n30 q31 l31 c31 q32 l32 c32 n33 n34 n35))) (h8:zD Pg 21 [qf (wkc n30 q31 l31 c31 q32 l32 c32 n33 n34 n35),.slice q9 l9 c9] Z29 (.bool true) Z29) (h9:zD Pg 27 [.slice q9 l9 c9] Z29 (iV n37) Z29) (h10:zD Pg 17 [qf (wkc n30 q31 l31 c31 q32 l32 c32 n33 n34 n35)] Z29 (qf (wkc n38 q39 l39 c39 q40 l40 c40 n41 n42 n43)) Z44) (h11:zD Pg 19 [.slice q9 l9 c9] Z44 (.slice q45 l45 c45) Z46) (h12:zD Pg 35 [qf (wkc n38 q39 l39 c39 q40 l40 c40 n41 n42 n43),.slice q45 l45 c45,iV n10] Z46 (.bool true) Z46) (h13:lz Z46 22 (qe Z.next 1) (.slice q48 l48 c48)) (h14:lz Z46 25 (qe Z.next 0) (qf (wkc n49 q50 l50 c50 q51 l51 c51 n52 n53 n54))) (h15:zD Pg 17 [qf (wkc n49 q50 l50 c50 q51 l51 c51 n52 n53 n54)] Z46 (qf (wkc n55 q56 l56 c56 q57 l57 c57 n58 n59 n60)) Z61) (h16:zD Pg 19 [.slice l l_l l_c] Z61 (.slice q62 l62 c62) Z63) (h17:zD Pg 35 [qf (wkc n55 q56 l56 c56 q57 l57 c57 n58 n59 n60),.slice q62 l62 c62,iV (n10+1)] Z63 (.bool false) Z63) (nx:Q (.bool true) Z63) (u1:¬ 20<(l_l:Int):=by omega) (u2:n11=0:=by omega) (u3:n37=n10:=by omega) (u4:¬ n28=0:=by omega) (u5:¬ n10=(l48:Int):=by omega) (u6:I6 (n10+1):=by omega):yJG Pg 15 10 [qf (wkc ak af ac ad ae aa ab am au aj),.slice l l_l l_c] Z Q :=
 let s1:=Z.row (wkc ak af ac ad ae aa ab am au aj) 6;zVJ [.g,.g,.l (qf (wkc ak af ac ad ae aa ab am au aj)),.c (.bool true) s1,.g,.g,.g,.g,.b false,.g,.l (qf (wkc ak af ac ad ae aa ab am au aj)),.c (qf (wkc n2 q3 l3 c3 q4 l4 c4 n5 n6 n7)) Z8,.c (.tuple ⟨[.slice q9 l9 c9,iV n10,iV n11]⟩) Z12,.g,.g,.g,.g,.g,.g,.g,.l (qf (wkc n13 q14 l14 c14 q15 l15 c15 n16 n17 n18)),.c (qf (wkc n19 q20 l20 c20 q21 l21 c21 n22 n23 n24)) Z25,.c (.tuple ⟨[.slice q26 l26 c26,.slice q27 l27 c27,iV n28]⟩) Z29,.g,.g,.g,.g,.g,.g,.g,.g,.b false,.g,.l (qf (wkc n30 q31 l31 c31 q32 l32 c32 n33 n34 n35)),.g,.c (.bool true) Z29,.g,.g,.g,.g,.c (iV n37) Z29,.g,.b false,.g,.g,.l (qf (wkc n30 q31 l31 c31 q32 l32 c32 n33 n34 n35)),.c (qf (wkc n38 q39 l39 c39 q40 l40 c40 n41 n42 n43)) Z44,.g,.c (.slice q45 l45 c45) Z46,.g,.c (.bool true) Z46,.g,.g,.g,.b false,.g,.g,.l (.slice q48 l48 c48),.g,.b false,.g,.g,.l (qf (wkc n49 q50 l50 c50 q51 l51 c51 n52 n53 n54)),.c (qf (wkc n55 q56 l56 c56 q57 l57 c57 n58 n59 n60)) Z61,.g,.c (.slice q62 l62 c62) Z63,.g,.n (n10+1),.c (.bool false) Z63,.g,.g,.g,.c (.bool true) Z63,.g,.g] (kc (by kernel_rfl) (an3 ((zC _ _ _).rw.ldN zCT uN (k:=0) rfl rfl (nle rfl):lz s1 25 (qe Z.next 0) (qf (wkc ak af ac ad ae aa ab am au aj))) (zD.top (aw:=15) h1) (zT u1) (an6 ((zC _ _ _).rw.ldN zCT uN (k:=0) rfl rfl (nle rfl):lz s1 25 (qe Z.next 0) (qf (wkc ak af ac ad ae aa ab am au aj))) (zD.top (aw:=15) h2) (zD.top (aw:=15) h3) h4 (zD.top (aw:=15) h5) (zD.top (aw:=15) h6) (an6 (uA u2) h7 (zD.top (aw:=15) h8) (zD.top (aw:=15) h9) (uA u3) h7 (an6 (zD.top (aw:=15) h10) (zD.top (aw:=15) h11) (zD.top (aw:=15) h12) (xG u4) h13 (xG u5) (an6 h14 (zD.top (aw:=15) h15) (zD.top (aw:=15) h16) (w64 u6) (zD.top (aw:=15) h17) (topE:zEZ (zWN Pg 15) (.func 15) [] Z63 (.bool true) Z63) nx))))))
theorem lMost_rl:let s1:=Z.row (wkc ak af ac ad ae aa ab am au aj) 6;∀ (h1:zD Pg 36 [qf (wkc ak af ac ad ae aa ab am au aj)] s1 (.bool false) s1) (nx:Q (.bool true) s1),yJG Pg 15 10 [qf (wkc ak af ac ad ae aa ab am au aj),.slice l l_l l_c] Z Q:=
 let s1:=Z.row (wkc ak af ac ad ae aa ab am au aj) 6;fun h1 nx=>zVJ [.g,.g,.l (qf (wkc ak af ac ad ae aa ab am au aj)),.c (.bool false) s1,.g,.g,.g,.c (.bool true) s1,.g] (kc (by kernel_rfl) (an3 ((zC _ _ _).rw.ldN zCT uN (k:=0) rfl rfl (nle rfl):lz s1 25 (qe Z.next 0) (qf (wkc ak af ac ad ae aa ab am au aj))) (zD.top (aw:=15) h1) (topE:zEZ (zWN Pg 15) (.func 15) [] s1 (.bool true) s1) nx))
end Go.Proofs.YtgfiniccfpfplaaGreat

namespace Go.Proofs.YtgfiniccfpfplaaGreat
open Go Go.Lay
set_option linter.unusedVariables false
set_option linter.unusedSimpArgs false
set_option maxRecDepth 20000
section
variable {Z z:St} {w:Wk} {p q r:Option Addr} {l m c d rl rc:Nat} {xs:List Int}
def zXH (w:Wk):Bool:=zJY w && decide (yY w=0)
def zYL (w:Wk):Bool:=zXH w && (decide (w.duties.length<=8) && decide (w.drivers.length<=4))
theorem ready_c (h:WkP z 92 76 w p l q m):zD Tryz.prog 64 [.agg ⟨wkc w.days p l c q m d w.rest w.run w.hours⟩] z (.bool (zXH w)) z:=by
 have L1:=(le0 z).trans (Le.row z.re (wkc w.days p l c q m d w.rest w.run w.hours) 6);have k1:=Thin_c (c:=c) (d:=d) (h.le L1);unfold zXH;cases b0:zJY w with
 | false =>
  rw [b0] at k1;exact (ready_rc k1 ⟨rfl,Nat.le_refl _⟩).pure
 | true =>
 rw [b0] at k1;have k2:=rFault_c (c:=c) (d:=d) (h.le L1) (zWP b0).1;by_cases hf:yY w=0
 ·exact (ready_ra k1 k2 ⟨by rw [decide_eq_true hf];rfl,Nat.le_refl _⟩ hf).pure
 ·exact (ready_rb k1 k2 ⟨by rw [decide_eq_false hf];rfl,Nat.le_refl _⟩ hf).pure
theorem light_c (h:WkP z 92 76 w p l q m):zD Tryz.prog 36 [.agg ⟨wkc w.days p l c q m d w.rest w.run w.hours⟩] z (.bool (zYL w)) z:=by
 have hln:=h.len.1;have hm:=h.len.2;have L1:=(le0 z).trans (Le.row z.re (wkc w.days p l c q m d w.rest w.run w.hours) 6);have k1:=ready_c (c:=c) (d:=d) (h.le L1);unfold zYL;cases b0:zXH w with
 | false =>
  rw [b0] at k1;exact (light_rd k1 ⟨rfl,Nat.le_refl _⟩).pure
 | true =>
 rw [b0] at k1;by_cases g5:l<=8
 ·by_cases g3:m<=4
  ·exact (light_ra k1 ⟨by simp [hln,hm,g5,g3],Nat.le_refl _⟩ (by omega) (by omega)).pure
  ·exact (light_rb k1 ⟨by simp [hln,hm,g3],Nat.le_refl _⟩ (by omega) (by omega)).pure
 ·exact (light_rc k1 ⟨by simp [hln,hm,g5],Nat.le_refl _⟩ (by omega)).pure
theorem yMV (h:zYL w=true):zAQ w/\yY w=0/\w.duties.length<=8/\w.drivers.length<=4:=by
 unfold zYL zXH at h;rw [Bool.and_eq_true,Bool.and_eq_true,Bool.and_eq_true,decide_eq_true_iff,decide_eq_true_iff,decide_eq_true_iff] at h;exact ⟨(zWP h.1.1).1,h.1.2,h.2.1,h.2.2⟩
theorem yCU {least:Int} (hf:yY w=0):zEG w xs least=true↔(xs.length=w.duties.length/\Ros w (zZ xs))/\uP w (zZ xs) (late w)/\least<=xS w (zZ xs):=by
 unfold zEG;rw [Bool.and_eq_true,Bool.and_eq_true,Bool.and_eq_true,decide_eq_true_iff,decide_eq_true_iff,decide_eq_true_iff,zSD,late_eq,legal_ref];constructor
 ·rintro ⟨_,⟨h1,h2⟩,h3,h4⟩;have hr:Ros w (zZ xs):=⟨fun i hi=>h2 i (by omega)⟩;refine ⟨⟨h1,hr⟩,h3, ?_⟩
  have e:((zZL xs:Nat):Int)=xS w (zZ xs):=yIK h1 fun y hy=>((zVM h1).1 hr y hy).1
  omega
 ·rintro ⟨⟨h1,h2⟩,h3,h4⟩;refine ⟨hf,⟨h1,fun i hi=>h2.ros i (by omega)⟩,h3, ?_⟩
  have e:((zZL xs:Nat):Int)=xS w (zZ xs):=yIK h1 fun y hy=>((zVM h1).1 h2 y hy).1
  omega
theorem yNX {rs:List Int} (hl:rs.length=w.duties.length) (hr:Ros w (zZ rs)):yBU w (zZ rs)↔xS w (zZ rs)=(w.duties.length:Int):=by
 have h1:=(zVM hl).1 hr;have e:((yBM rs:Nat):Int)=xS w (zZ rs):=yIK hl fun y hy=>(h1 y hy).1
 have hle:yBM rs<=rs.length:=List.length_filter_le _ _;rw [<- cov_full hl rfl h1];omega
theorem lMost_top (h:WkP Z 92 76 w p l q m) (hr:yG Z r rl xs):yJG Tryz.prog 15 10 [.agg ⟨wkc w.days p l c q m d w.rest w.run w.hours⟩,.slice r rl rc] Z fun v _=>v=.bool true:=by
 have hln:=h.len.1;have hm:=h.len.2;obtain ⟨t1,ht1⟩:∃ t1,t1=Z.row (wkc w.days p l c q m d w.rest w.run w.hours) 6:=⟨_,rfl⟩;have L1:Le Z t1:=by rw [ht1];exact Le.row _ _ _
 have w1:Row t1 ⟨Z.next,0,none⟩ (wkc w.days p l c q m d w.rest w.run w.hours):=by rw [ht1];exact xP _ _ _
 have k1:=light_c (c:=c) (d:=d) (h.le L1);cases b0:zYL w with
 | false =>
  rw [b0] at k1;subst ht1;exact lMost_rl k1 rfl
 | true =>
 rw [b0] at k1;obtain ⟨hsh,hf,h8,h4⟩:=yMV b0;by_cases h20:20<rl
 ·subst ht1;exact lMost_ra k1 rfl (by omega)
 have ldw:∀ s,Le t1 s->zB Tryz.prog s 25 ⟨Z.next,0,none⟩=some (.agg ⟨wkc w.days p l c q m d w.rest w.run w.hours⟩):=fun s hs=>(w1.le hs).ldN zCT uN (k:=0) rfl rfl (nle rfl)
 obtain ⟨p8,c8,q8,d8,s8,k2,N2,w2⟩:=yJE (c:=c) (d:=d) (h.le L1) (by omega) (by omega) hsh;obtain ⟨v,s12,k3,N3,bv⟩:=Most_c (c:=c8) (d:=d8) w2 hsh;obtain ⟨hf',_⟩ | ⟨_,rs,pr,cr,rfl,irs,B⟩:=bv
 ·exact absurd hf hf'
 have L12:Le t1 s12:=N2.le.trans N3.le;obtain ⟨p25,c25,q25,d25,s25,k5,N5,w5⟩:=yJE (c:=c) (d:=d) ((h.le L1).le L12) (by omega) (by omega) hsh;obtain ⟨v2,s29,k6,N6,bv2⟩:=Best_c (c:=c25) (d:=d25) w5 hsh;have L29:Le t1 s29:=L12.trans (N5.le.trans N6.le);have h29:=(h.le L1).le L29;have i29:yG s29 pr l rs:=SlV.le irs (N5.le.trans N6.le);have k8:=yLD (c:=c) (d:=d) (rc:=cr) h29 i29 (by omega) (by omega);have erl:=irs.len;have hrl:rs.length=w.duties.length:=by omega
 have hisr:zEN w rs=true:=zSD.2 ⟨hrl,fun i hi=>B.ros.ros i (by omega)⟩;rw [hisr] at k8;have k9:=rCovers_c (c:=cr) i29 (by omega);have hcr:(((rs.filter fun x=>decide (0<=x)).length:Nat):Int)=xS w (zZ rs):=yIK hrl fun y hy=>((zVM hrl).1 B.ros y hy).1
 obtain ⟨p44,c44,q44,d44,s44,k10,N10,w10⟩:=yJE (c:=c) (d:=d) h29 (by omega) (by omega) hsh;obtain ⟨p46,c46,s46,k11,N11,i46,_⟩:=zYK (c:=cr) (SlV.le i29 N10.le) (by omega);have k12:=zOV (c:=c44) (d:=d44) (rc:=c46) (least:=xS w (zZ rs)) (w10.le N11.le) hsh i46 (by omega);have e12:zEG w rs (xS w (zZ rs))=true:=(yCU hf).2 ⟨⟨hrl,B.ros⟩,B.legal,by omega⟩;rw [e12] at k12;have L46:Le t1 s46:=L29.trans (N10.le.trans N11.le);have k13:zB Tryz.prog s46 22 ⟨Z.next,1,none⟩=some (.slice p l c):=(w1.le L46).ld zCU rfl;obtain ⟨p61,c61,q61,d61,s61,k15,N15,w15⟩:=yJE (c:=c) (d:=d) ((h.le L1).le L46) (by omega) (by omega) hsh;obtain ⟨p63,c63,s63,k16,N16,i63,_⟩:=zYK (c:=rc) (SlV.le hr (L1.trans (L46.trans N15.le))) (by omega);have k17:=zOV (c:=c61) (d:=d61) (rc:=c63) (least:=xS w (zZ rs)+1) (w15.le N16.le) hsh i63 (by omega);have e17:zEG w xs (xS w (zZ rs)+1)=false:=by
  rw [<- Bool.not_eq_true,yCU hf];rintro ⟨⟨g1,g2⟩,g3,g4⟩;have:=B.most _ g2 g3;omega
 rw [e17] at k17;have hcn:0<=xS w (zZ rs)/\xS w (zZ rs)<=20:=by
  have hle:yBM rs<=rs.length:=List.length_filter_le _ _;have:((yBM rs:Nat):Int)=xS w (zZ rs):=hcr;omega
 have fi:=yNX hrl B.ros;rcases bv2 with ⟨hf',_⟩ | ⟨_,hno,rfl⟩ | ⟨_,rs',gs,pr',cr',pg,cg,rfl,irs',igs,B'⟩
 ·exact absurd hf hf'
 ·have hne:¬ xS w (zZ rs)=(l:Int):=fun e=>hno _ B.ros B.legal (fi.2 (by rw [e,hln]))
  subst ht1;exact lMost_ri k1 k2 k3 (ldw _ L12) k5 k6 (ldw _ L29) k8 k9 k10 k11 k12 k13 (ldw _ L46) k15 k16 k17 rfl (by omega) rfl hcr (by decide) hne ⟨by omega,by omega⟩
 ·have hrl':rs'.length=w.duties.length:=by have:=irs'.len;omega
  have h5:=(yNX hrl' B'.ros).1 B'.full;have h6:=B.most _ B'.ros B'.legal;have heq:xS w (zZ rs)=(l:Int):=by
   have hle:yBM rs<=rs.length:=List.length_filter_le _ _;have:((yBM rs:Nat):Int)=xS w (zZ rs):=hcr;omega
  subst ht1;exact lMost_re k1 k2 k3 (ldw _ L12) k5 k6 (ldw _ L29) k8 k9 k10 k11 k12 k13 (ldw _ L46) k15 k16 k17 rfl (by omega) rfl hcr rfl heq ⟨by omega,by omega⟩
end
end Go.Proofs.YtgfiniccfpfplaaGreat
