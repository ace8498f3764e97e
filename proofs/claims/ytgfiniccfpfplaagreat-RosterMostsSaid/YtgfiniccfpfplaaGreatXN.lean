
import Derived.Test.YtgfiniccfpfplaaGreatTy
namespace Go.Proofs.YtgfiniccfpfplaaGreat
open Go Go.Lay
open Tryz renaming prog → Pg
set_option linter.unusedVariables false
set_option maxRecDepth 20000
variable {BA BB l1 c1 l2 c2 bJ bQ bM bV aH aK lA cD d9 eg lI cH lB cA lN cL s_l s_c l3 c3 l5 c5 l6 c6:Nat} {o g_0 cs1838 cs1840:List Value} {aA nF nD n3 aJ nB aX x y aL dw n n1 n2:Int} {σK σ σD σV σ4:St} {Q:Value→St→Prop} {q1 q2 s1 s2 slices qD dY qG qA qL s q3 q5 q6:Option Addr} {Qr Pr:Int→St→Prop} {eL eK dq:Addr} {Q2 P2:(Option Addr)→Nat→Nat→St→Prop}
noncomputable def yIL:Code:=(Code.part [1,0,1,0,0] (zX Pg 102))
def zLG (BA BB:Nat) (o:List Value) (aA:Int):List (Nat × Value):=[(2,.pointer (some ⟨BA,0,none⟩)),(4,.pointer (some ⟨BB,0,none⟩)),(7,.agg ⟨o⟩),(8,iV aA)]
def zHU (BA BB:Nat) (o:List Value) (Q:Int→St→Prop):Alt:=⟨Int,.normal,fun t=>zLG BA BB o t,fun t=>[],fun t σ=>Q t σ⟩
def zWD (BA BB:Nat) (o:List Value):List (Nat × Value):=[(2,.pointer (some ⟨BA,0,none⟩)),(4,.pointer (some ⟨BB,0,none⟩))]
def zAQ (BA BB:Nat) (o:List Value) (Q:St→Prop):Alt:=⟨Unit,(.exit 0),fun t=>zWD BA BB o,fun t=>[],fun t σ=>Q σ⟩
def zWF (BA BB:Nat) (o:List Value) (aA:Int) (σ:St) (Nx:Int→St→Prop) (Q0:St→Prop):Prop:=xT Pg (zZ Pg) none yIL 20 (zLG BA BB o aA) [] [zHU BA BB o Nx,zAQ BA BB o Q0] σ
def yIM (BA BB:Nat) (o:List Value) (aA:Int) (σ:St) (Q0:St→Prop):Prop:=wC Pg (zZ Pg) none yIL 20 (zLG BA BB o aA) [] [zAQ BA BB o Q0] σ
theorem yIK {Inv:Nat→Int→St→Prop} {Q0:St→Prop} (hb:∀ k aA σ,Inv k aA σ→zWF BA BB o aA σ (fun i8_1' σ'=>∃ k',k' < k∧Inv k' i8_1' σ') Q0):∀ k aA σ,Inv k aA σ→yIM BA BB o aA σ Q0 :=
 fun k aA σ h=>yH (alts:=[zAQ BA BB o Q0]) (T:=Int) (lf:=fun t=>zLG BA BB o t) (mf:=fun t=>[]) (Inv:=fun k t σ=>Inv k t σ) (ai (zAM 0) trivial) (fun k t σ h=>hb k t σ h) k aA σ h
theorem yTN {Nx:Int→St→Prop} {Q0:St→Prop} (h1:zRI Pg 98 (.agg ⟨o⟩) (iV aA)=some (iV nF)) (h2:zB Pg σ 3 ⟨BA,0+Int.toNat aA*1,none⟩=some (iV nD)) (h3:zS Pg (evL [.pointer (some ⟨BA,0+Int.toNat aA*1,none⟩),iV (nD+nF)]) σ (.store 3 (.tmp 0) (.tmp 1))=some (undef,σK)) (nx:Nx (aA+1) σK) (u1:aA<6:=by omega) (u2:Ix aA 6:=by omega) (u3:I6 (nD+nF):=by omega) (u4:I6 (aA+1):=by omega):zWF BA BB o aA σ Nx Q0 :=
 zO [.b true,.g,.v (iV nF),.g,.g,.g,.i,.l (iV nD),.g,.n (nD+nF),.i,.e undef σK,.n (aA+1),.g,.fin (zHU BA BB o Nx) (aA+1)] (fun g=>kc (by kernel_rfl) (an2 (zW u1) h1 (an6 u2 h2 (w64 u3) u2 h3 (w64 u4) (fin (alts:=[zHU BA BB o Nx,zAQ BA BB o Q0]) (zHU BA BB o Nx) (aA+1) nx in0))))
theorem yTM {Nx:Int→St→Prop} {Q0:St→Prop} (nx:Q0 σ) (u1:¬ aA<6:=by omega):zWF BA BB o aA σ Nx Q0 :=
 zO [.b false,.fin (zAQ BA BB o Q0) ()] (fun g=>kc (by kernel_rfl) (ai (zY u1) (fin (alts:=[zHU BA BB o Nx,zAQ BA BB o Q0]) (zAQ BA BB o Q0) () nx (inS in0))))
def zWE (BA BB:Nat) (o:List Value) (σ:St) (Q:Value→St→Prop):Prop:=∀ g:Nat→Value,∃ an,Hid (kAt Pg (zZ Pg) none (zX Pg 102) [1,0,1,0] (kFn Pg 102 Q) (.exit 0) ⟨Fm 20 (ov (zWD BA BB o) g),[]⟩ σ an)
theorem yYB {P0:St→Prop} (h1:zB Pg (((σ.row g_0 1).row o 1).row (zL 0 0 0 0 0 0) 1) 98 ⟨(σ.next+1),0,none⟩=some (.agg ⟨o⟩)) (hL:yIM σ.next (σ.next+2) o 0 (((σ.row g_0 1).row o 1).row (zL 0 0 0 0 0 0) 1) P0) (k0:∀ σ',P0 σ'→zWE σ.next (σ.next+2) o σ' Q):zQ Pg 102 [.agg ⟨g_0⟩,.agg ⟨o⟩] σ Q :=
 let s1:=zLG σ.next (σ.next+2) o 0;zM [.g,.g,.g,.l (.agg ⟨o⟩),.g,.lf 20 s1 [zAQ σ.next (σ.next+2) o P0]] (kc (by kernel_rfl) (ai h1 (ai (ai tt (ai (arf s1) hL)) (ai (fun (t:Unit) (g':Nat→Value) (σ':St) (q:P0 σ')=>k0 σ' q g') trivial))))
theorem yIJ (h1:zB Pg σ 98 ⟨BA,0,none⟩=some (.agg ⟨cs1838⟩)) (h2:zS Pg (evL [.pointer (some ⟨BB,0,none⟩),.agg ⟨cs1838⟩]) σ (.store 98 (.tmp 0) (.tmp 1))=some (undef,σD)) (h3:zB Pg σD 98 ⟨BB,0,none⟩=some (.agg ⟨cs1840⟩)) (nx:Q (.agg ⟨cs1840⟩) σD):zWE BA BB o σ Q :=
 fun g=>⟨[.l (.agg ⟨cs1838⟩),.e undef σD,.l (.agg ⟨cs1840⟩)],kc (by kernel_rfl) (an3 h1 h2 h3 nx)⟩
theorem yYE (h1:zB Pg ((σ.row g_0 1).row o 1) 98 ⟨σ.next,0,none⟩=some (.agg ⟨g_0⟩)) (h2:zB Pg ((σ.row g_0 1).row o 1) 98 ⟨(σ.next+1),0,none⟩=some (.agg ⟨o⟩)) (h3:yEC Pg .neq 98 (.tmp 5) (.tmp 6) (.agg ⟨g_0⟩) (.agg ⟨o⟩)=some (.bool true)) (h4:zBN Pg ((σ.row g_0 1).row o 1) 98 (.pointer (some ⟨σ.next,0,none⟩)) none none none=some (.slice q1 l1 c1)) (h5:zBN Pg ((σ.row g_0 1).row o 1) 98 (.pointer (some ⟨(σ.next+1),0,none⟩)) none none none=some (.slice q2 l2 c2)) (h6:zE Pg 119 [.slice q1 l1 c1,.slice q2 l2 c2] ((σ.row g_0 1).row o 1) (iV n3) ((σ.row g_0 1).row o 1)) (nx:Q (.bool true) ((σ.row g_0 1).row o 1)) (u1:0<n3:=by omega):zQ Pg 103 [.agg ⟨g_0⟩,.agg ⟨o⟩] σ Q :=
 zM [.g,.g,.g,.l (.agg ⟨g_0⟩),.l (.agg ⟨o⟩),.v (.bool true),.g,.v (.slice q1 l1 c1),.v (.slice q2 l2 c2),.c (iV n3) ((σ.row g_0 1).row o 1),.b true,.g,.g] (kc (by kernel_rfl) (ai h1 (an6 h2 h3 h4 h5 h6 (zW u1) nx)))
theorem yYD (h1:zB Pg ((σ.row g_0 1).row o 1) 98 ⟨σ.next,0,none⟩=some (.agg ⟨g_0⟩)) (h2:zB Pg ((σ.row g_0 1).row o 1) 98 ⟨(σ.next+1),0,none⟩=some (.agg ⟨o⟩)) (h3:yEC Pg .neq 98 (.tmp 5) (.tmp 6) (.agg ⟨g_0⟩) (.agg ⟨o⟩)=some (.bool true)) (h4:zBN Pg ((σ.row g_0 1).row o 1) 98 (.pointer (some ⟨σ.next,0,none⟩)) none none none=some (.slice q1 l1 c1)) (h5:zBN Pg ((σ.row g_0 1).row o 1) 98 (.pointer (some ⟨(σ.next+1),0,none⟩)) none none none=some (.slice q2 l2 c2)) (h6:zE Pg 119 [.slice q1 l1 c1,.slice q2 l2 c2] ((σ.row g_0 1).row o 1) (iV n3) ((σ.row g_0 1).row o 1)) (nx:Q (.bool false) ((σ.row g_0 1).row o 1)) (u1:¬ 0<n3:=by omega):zQ Pg 103 [.agg ⟨g_0⟩,.agg ⟨o⟩] σ Q :=
 zM [.g,.g,.g,.l (.agg ⟨g_0⟩),.l (.agg ⟨o⟩),.v (.bool true),.g,.v (.slice q1 l1 c1),.v (.slice q2 l2 c2),.c (iV n3) ((σ.row g_0 1).row o 1),.b false,.g,.g] (kc (by kernel_rfl) (ai h1 (an6 h2 h3 h4 h5 h6 (zY u1) nx)))
theorem yYC (h1:zB Pg ((σ.row g_0 1).row o 1) 98 ⟨σ.next,0,none⟩=some (.agg ⟨g_0⟩)) (h2:zB Pg ((σ.row g_0 1).row o 1) 98 ⟨(σ.next+1),0,none⟩=some (.agg ⟨o⟩)) (h3:yEC Pg .neq 98 (.tmp 5) (.tmp 6) (.agg ⟨g_0⟩) (.agg ⟨o⟩)=some (.bool false)) (nx:Q (.bool false) ((σ.row g_0 1).row o 1)):zQ Pg 103 [.agg ⟨g_0⟩,.agg ⟨o⟩] σ Q :=
 zM [.g,.g,.g,.l (.agg ⟨g_0⟩),.l (.agg ⟨o⟩),.v (.bool false),.g,.g,.g] (kc (by kernel_rfl) (an3 h1 h2 h3 nx))
noncomputable def zWS:Code:=(Code.part [1,0,1,0,0] (zX Pg 119))
def zDR (s1:Option Addr) (bJ bQ:Nat) (s2:Option Addr) (bM bV:Nat) (aJ:Int):List (Nat × Value):=[(0,.slice s1 bJ bQ),(1,.slice s2 bM bV),(9,.slice s1 bJ bQ),(10,iV ((bJ:Nat):Int)),(11,iV aJ)]
def zCH (s1:Option Addr) (bJ bQ:Nat) (s2:Option Addr) (bM bV:Nat) (Q:Int→St→Prop):Alt:=⟨Int,.normal,fun t=>zDR s1 bJ bQ s2 bM bV t,fun t=>[],fun t σ=>Q t σ⟩
def zQF (s1:Option Addr) (bJ bQ:Nat) (s2:Option Addr) (bM bV:Nat) (aX:Int):List (Nat × Value):=[(4,iV aX)]
def vA (s1:Option Addr) (bJ bQ:Nat) (s2:Option Addr) (bM bV:Nat) (Q:Int→St→Prop):Alt:=⟨Int,.ret,fun t=>zQF s1 bJ bQ s2 bM bV t,fun t=>[],fun t σ=>Q t σ⟩
def zQG (s1:Option Addr) (bJ bQ:Nat) (s2:Option Addr) (bM bV:Nat):List (Nat × Value):=[(0,.slice s1 bJ bQ),(1,.slice s2 bM bV)]
def vB (s1:Option Addr) (bJ bQ:Nat) (s2:Option Addr) (bM bV:Nat) (Q:St→Prop):Alt:=⟨Unit,(.exit 0),fun t=>zQG s1 bJ bQ s2 bM bV,fun t=>[],fun t σ=>Q σ⟩
def zJN (s1:Option Addr) (bJ bQ:Nat) (s2:Option Addr) (bM bV:Nat) (aJ:Int) (σ:St) (Nx:Int→St→Prop) (Qr:Int→St→Prop) (Q0:St→Prop):Prop:=xT Pg (zZ Pg) none zWS 36 (zDR s1 bJ bQ s2 bM bV aJ) [] [zCH s1 bJ bQ s2 bM bV Nx,vA s1 bJ bQ s2 bM bV Qr,vB s1 bJ bQ s2 bM bV Q0] σ
def zWT (s1:Option Addr) (bJ bQ:Nat) (s2:Option Addr) (bM bV:Nat) (aJ:Int) (σ:St) (Qr:Int→St→Prop) (Q0:St→Prop):Prop:=wC Pg (zZ Pg) none zWS 36 (zDR s1 bJ bQ s2 bM bV aJ) [] [vA s1 bJ bQ s2 bM bV Qr,vB s1 bJ bQ s2 bM bV Q0] σ
theorem zYN {Inv:Nat→Int→St→Prop} {Q0:St→Prop} (hb:∀ k aJ σ,Inv k aJ σ→zJN s1 bJ bQ s2 bM bV aJ σ (fun i11_1' σ'=>∃ k',k' < k∧Inv k' i11_1' σ') Qr Q0):∀ k aJ σ,Inv k aJ σ→zWT s1 bJ bQ s2 bM bV aJ σ Qr Q0 :=
 fun k aJ σ h=>yH (alts:=[vA s1 bJ bQ s2 bM bV Qr,vB s1 bJ bQ s2 bM bV Q0]) (T:=Int) (lf:=fun t=>zDR s1 bJ bQ s2 bM bV t) (mf:=fun t=>[]) (Inv:=fun k t σ=>Inv k t σ) (ai zFR (ai (zAM 0) trivial)) (fun k t σ h=>hb k t σ h) k aJ σ h
theorem zTC {Nx:Int→St→Prop} {Q0:St→Prop} (h1:zB Pg σ 3 (zP eL (Int.toNat aJ*1))=some (iV nF)) (h2:zB Pg σ 3 (zP eK (Int.toNat aJ*1))=some (iV nD)) (h3:zE Pg 129 [iV nF,iV nD] σ (iV nB) σ) (nx:Qr nB σ) (u1:aJ<((bJ:Nat):Int):=by omega) (u2:Ix aJ bJ:=by omega) (u3:¬ ((bM:Nat):Int)≤aJ:=by omega) (u4:Ix aJ bM:=by omega) (u5:¬ nB=0:=by omega):zJN (some eL) bJ bQ (some eK) bM bV aJ σ Nx Qr Q0 :=
 zO [.b true,.g,.i,.l (iV nF),.g,.g,.g,.g,.g,.b false,.g,.g,.i,.l (iV nD),.g,.g,.g,.c (iV nB) σ,.g,.g,.b true,.g,.g,.fin (vA (some eL) bJ bQ (some eK) bM bV Qr) nB] (fun g=>kc (by kernel_rfl) (an2 (zW u1) u2 (an6 h1 (xQ u3) u4 h2 h3 (zER u5) (fin (alts:=[zCH (some eL) bJ bQ (some eK) bM bV Nx,vA (some eL) bJ bQ (some eK) bM bV Qr,vB (some eL) bJ bQ (some eK) bM bV Q0]) (vA (some eL) bJ bQ (some eK) bM bV Qr) nB nx (inS in0)))))
theorem yJK {Nx:Int→St→Prop} {Q0:St→Prop} (h1:zB Pg σ 3 (zP eL (Int.toNat aJ*1))=some (iV nF)) (h2:zB Pg σ 3 (zP eK (Int.toNat aJ*1))=some (iV nD)) (h3:zE Pg 129 [iV nF,iV nD] σ (iV nB) σ) (nx:Nx (aJ+1) σ) (u1:aJ<((bJ:Nat):Int):=by omega) (u2:Ix aJ bJ:=by omega) (u3:¬ ((bM:Nat):Int)≤aJ:=by omega) (u4:Ix aJ bM:=by omega) (u5:nB=0:=by omega) (u6:I6 (aJ+1):=by omega):zJN (some eL) bJ bQ (some eK) bM bV aJ σ Nx Qr Q0 :=
 let s1:=aJ+1;zO [.b true,.g,.i,.l (iV nF),.g,.g,.g,.g,.g,.b false,.g,.g,.i,.l (iV nD),.g,.g,.g,.c (iV nB) σ,.g,.g,.b false,.n s1,.g,.fin (zCH (some eL) bJ bQ (some eK) bM bV Nx) s1] (fun g=>kc (by kernel_rfl) (an3 (zW u1) u2 h1 (an6 (xQ u3) u4 h2 h3 (zAB u5) (w64 u6) (fin (alts:=[zCH (some eL) bJ bQ (some eK) bM bV Nx,vA (some eL) bJ bQ (some eK) bM bV Qr,vB (some eL) bJ bQ (some eK) bM bV Q0]) (zCH (some eL) bJ bQ (some eK) bM bV Nx) s1 nx in0))))
theorem yJJ {Nx:Int→St→Prop} {Q0:St→Prop} (nx:Q0 σ) (u1:¬ aJ<((bJ:Nat):Int):=by omega):zJN s1 bJ bQ s2 bM bV aJ σ Nx Qr Q0 :=
 zO [.b false,.fin (vB s1 bJ bQ s2 bM bV Q0) ()] (fun g=>kc (by kernel_rfl) (ai (zY u1) (fin (alts:=[zCH s1 bJ bQ s2 bM bV Nx,vA s1 bJ bQ s2 bM bV Qr,vB s1 bJ bQ s2 bM bV Q0]) (vB s1 bJ bQ s2 bM bV Q0) () nx (inS (inS in0)))))
def zQH (s1:Option Addr) (bJ bQ:Nat) (s2:Option Addr) (bM bV:Nat) (aX:Int) (σ:St) (Q:Value→St→Prop):Prop:=∀ g:Nat→Value,∃ an,Hid (kAt Pg (zZ Pg) none (zX Pg 119) [1,0,1,0] (kFn Pg 119 Q) .ret ⟨Fm 36 (ov (zQF s1 bJ bQ s2 bM bV aX) g),[]⟩ σ an)
def zQI (s1:Option Addr) (bJ bQ:Nat) (s2:Option Addr) (bM bV:Nat) (σ:St) (Q:Value→St→Prop):Prop:=∀ g:Nat→Value,∃ an,Hid (kAt Pg (zZ Pg) none (zX Pg 119) [1,0,1,0] (kFn Pg 119 Q) (.exit 0) ⟨Fm 36 (ov (zQG s1 bJ bQ s2 bM bV) g),[]⟩ σ an)
theorem yOH {P0:St→Prop} (hL:zWT s1 bJ bQ s2 bM bV 0 σ Pr P0) (kr:∀ i4_1' σ',Pr i4_1' σ'→zQH s1 bJ bQ s2 bM bV i4_1' σ' Q) (k0:∀ σ',P0 σ'→zQI s1 bJ bQ s2 bM bV σ' Q):zQ Pg 119 [.slice s1 bJ bQ,.slice s2 bM bV] σ Q :=
 zM [.g,.g,.g,.g,.lf 36 (zDR s1 bJ bQ s2 bM bV 0) [vA s1 bJ bQ s2 bM bV Pr,vB s1 bJ bQ s2 bM bV P0]] (kc (by kernel_rfl) (ai (ai tt (ai (arf (zDR s1 bJ bQ s2 bM bV 0)) hL)) (ai (fun (t:Int) (g':Nat→Value) (σ':St) (q:Pr t σ')=>kr t σ' q g') (ai (fun (t:Unit) (g':Nat→Value) (σ':St) (q:P0 σ')=>k0 σ' q g') trivial))))
theorem zYL (nx:Q (iV aX) σ):zQH s1 bJ bQ s2 bM bV aX σ Q :=
 fun g=>⟨[],kc (by kernel_rfl) nx⟩
theorem zYM (nx:Q (iV 0) σ) (u1:¬ ((bJ:Nat):Int)<((bM:Nat):Int):=by omega):zQI s1 bJ bQ s2 bM bV σ Q :=
 fun g=>⟨[.g,.g,.g,.g,.b false,.g],kc (by kernel_rfl) (ai (zY u1) nx)⟩
theorem cmpI_rd (h1:zE Pg 132 [iV x] σ (.bool false) σ) (h2:zE Pg 132 [iV y] σ (.bool false) σ) (nx:Q (iV (-1)) σ) (u1:x<y:=by omega):zQ Pg 129 [iV x,iV y] σ Q :=
 zM [.g,.g,.c (.bool false) σ,.g,.g,.c (.bool false) σ,.g,.g,.g,.g,.g,.b true,.g] (kc (by kernel_rfl) (an3 h1 h2 (zW u1) nx))
theorem cmpI_re (h1:zE Pg 132 [iV x] σ (.bool false) σ) (h2:zE Pg 132 [iV y] σ (.bool false) σ) (nx:Q (iV 1) σ) (u1:¬ x<y:=by omega) (u2:y<x:=by omega):zQ Pg 129 [iV x,iV y] σ Q :=
 zM [.g,.g,.c (.bool false) σ,.g,.g,.c (.bool false) σ,.g,.g,.g,.g,.g,.b false,.g,.g,.b true,.g] (kc (by kernel_rfl) (an4 h1 h2 (zY u1) (zW u2) nx))
theorem cmpI_rf (h1:zE Pg 132 [iV x] σ (.bool false) σ) (h2:zE Pg 132 [iV y] σ (.bool false) σ) (nx:Q (iV 0) σ) (u1:¬ x<y:=by omega) (u2:¬ y<x:=by omega):zQ Pg 129 [iV x,iV y] σ Q :=
 zM [.g,.g,.c (.bool false) σ,.g,.g,.c (.bool false) σ,.g,.g,.g,.g,.g,.b false,.g,.g,.b false,.g] (kc (by kernel_rfl) (an4 h1 h2 (zY u1) (zY u2) nx))
theorem yXK (nx:Q (.bool false) σ) (u1:x=x:=by omega):zQ Pg 132 [iV x] σ Q :=
 zM [.g,.g,.g,.b false,.g] (kc (by kernel_rfl) (ai (zAB u1) nx))
noncomputable def yJG:Code:=(Code.part [1,1,0,1,0,0] (zX Pg 104))
def zHX (slices:Option Addr) (aH aK:Nat) (aL aJ:Int):List (Nat × Value):=[(0,.slice slices aH aK),(3,iV aL),(9,.slice slices aH aK),(10,iV ((aH:Nat):Int)),(11,iV aJ)]
def zHZ (slices:Option Addr) (aH aK:Nat) (Q:Int→Int→St→Prop):Alt:=⟨Int × Int,.normal,fun t=>zHX slices aH aK t.1 t.2,fun t=>[],fun t σ=>Q t.1 t.2 σ⟩
def zWN (slices:Option Addr) (aH aK:Nat) (aL:Int):List (Nat × Value):=[(0,.slice slices aH aK),(3,iV aL)]
def zAT (slices:Option Addr) (aH aK:Nat) (Q:Int→St→Prop):Alt:=⟨Int,(.exit 0),fun t=>zWN slices aH aK t,fun t=>[],fun t σ=>Q t σ⟩
def zWR (slices:Option Addr) (aH aK:Nat) (aL aJ:Int) (σ:St) (Nx:Int→Int→St→Prop) (Q0:Int→St→Prop):Prop:=xT Pg (zZ Pg) none yJG 36 (zHX slices aH aK aL aJ) [] [zHZ slices aH aK Nx,zAT slices aH aK Q0] σ
def yJI (slices:Option Addr) (aH aK:Nat) (aL aJ:Int) (σ:St) (Q0:Int→St→Prop):Prop:=wC Pg (zZ Pg) none yJG 36 (zHX slices aH aK aL aJ) [] [zAT slices aH aK Q0] σ
theorem yJE {Inv:Nat→Int→Int→St→Prop} {Q0:Int→St→Prop} (hb:∀ k aL aJ σ,Inv k aL aJ σ→zWR slices aH aK aL aJ σ (fun i3_1' i11_1' σ'=>∃ k',k' < k∧Inv k' i3_1' i11_1' σ') Q0):∀ k aL aJ σ,Inv k aL aJ σ→yJI slices aH aK aL aJ σ Q0 :=
 fun k aL aJ σ h=>yH (alts:=[zAT slices aH aK Q0]) (T:=Int × Int) (lf:=fun t=>zHX slices aH aK t.1 t.2) (mf:=fun t=>[]) (Inv:=fun k t σ=>Inv k t.1 t.2 σ) (ai (zAM 0) trivial) (fun k t σ h=>hb k t.1 t.2 σ h) k (aL,aJ) σ h
theorem yUD {Nx:Int→Int→St→Prop} {Q0:Int→St→Prop} (h1:zB Pg σ 26 (zP dq (Int.toNat aJ*1))=some (.slice qD lA cD)) (nx:Nx (aL+((lA:Nat):Int)) (aJ+1) σ) (u1:aJ<((aH:Nat):Int):=by omega) (u2:Ix aJ aH:=by omega) (u3:I6 (aL+((lA:Nat):Int)):=by omega) (u4:¬ (aL+((lA:Nat):Int))<0:=by omega) (u5:I6 (aJ+1):=by omega):zWR (some dq) aH aK aL aJ σ Nx Q0 :=
 zO [.b true,.i,.l (.slice qD lA cD),.g,.g,.g,.g,.n (aL+((lA:Nat):Int)),.g,.g,.b false,.n (aJ+1),.g,.fin (zHZ (some dq) aH aK Nx) ((aL+((lA:Nat):Int)),aJ+1)] (fun g=>kc (by kernel_rfl) (an6 (zW u1) u2 h1 (w64 u3) (zY u4) (w64 u5) (fin (alts:=[zHZ (some dq) aH aK Nx,zAT (some dq) aH aK Q0]) (zHZ (some dq) aH aK Nx) ((aL+((lA:Nat):Int)),aJ+1) nx in0)))
theorem yUC {Nx:Int→Int→St→Prop} {Q0:Int→St→Prop} (nx:Q0 aL σ) (u1:¬ aJ<((aH:Nat):Int):=by omega):zWR slices aH aK aL aJ σ Nx Q0 :=
 zO [.b false,.fin (zAT slices aH aK Q0) aL] (fun g=>kc (by kernel_rfl) (ai (zY u1) (fin (alts:=[zHZ slices aH aK Nx,zAT slices aH aK Q0]) (zAT slices aH aK Q0) aL nx (inS in0))))
def zWP (slices:Option Addr) (aH aK:Nat) (aL:Int) (σ:St) (Q:Value→St→Prop):Prop:=∀ g:Nat→Value,∃ an,Hid (kAt Pg (zZ Pg) none (zX Pg 104) [1,1,0,1,0] (kFn Pg 104 Q) (.exit 0) ⟨Fm 36 (ov (zWN slices aH aK aL) g),[]⟩ σ an)
theorem yYX {P0:Int→St→Prop} (hL:yJI slices aH aK 0 0 σ P0) (k0:∀ i3_1' σ',P0 i3_1' σ'→zWP slices aH aK i3_1' σ' Q):zQ Pg 104 [.slice slices aH aK] σ Q :=
 zM [.g,.g,.g,.g,.g,.lf 36 (zHX slices aH aK 0 0) [zAT slices aH aK P0]] (kc (by kernel_rfl) (ai (ai tt (ai (arf (zHX slices aH aK 0 0)) hL)) (ai (fun (t:Int) (g':Nat→Value) (σ':St) (q:P0 t σ')=>k0 t σ' q g') trivial)))
noncomputable def yJF:Code:=(Code.part [1,1,1,1,0,1,0,0] (zX Pg 104))
def zHW (slices:Option Addr) (aH aK:Nat) (dY:Option Addr) (d9 eg:Nat) (dw:Int):List (Nat × Value):=[(6,.slice dY d9 eg),(25,.slice slices aH aK),(26,iV ((aH:Nat):Int)),(27,iV dw)]
def zHY (slices:Option Addr) (aH aK:Nat) (Q:(Option Addr)→Nat→Nat→Int→St→Prop):Alt:=⟨(Option Addr) × Nat × Nat × Int,.normal,fun t=>zHW slices aH aK t.1 t.2.1 t.2.2.1 t.2.2.2,fun t=>[],fun t σ=>Q t.1 t.2.1 t.2.2.1 t.2.2.2 σ⟩
def zWM (slices:Option Addr) (aH aK:Nat) (dY:Option Addr) (d9 eg:Nat):List (Nat × Value):=[(6,.slice dY d9 eg)]
def zAS (slices:Option Addr) (aH aK:Nat) (Q:(Option Addr)→Nat→Nat→St→Prop):Alt:=⟨(Option Addr) × Nat × Nat,(.exit 2),fun t=>zWM slices aH aK t.1 t.2.1 t.2.2,fun t=>[],fun t σ=>Q t.1 t.2.1 t.2.2 σ⟩
def zWQ (slices:Option Addr) (aH aK:Nat) (dY:Option Addr) (d9 eg:Nat) (dw:Int) (σ:St) (Nx:(Option Addr)→Nat→Nat→Int→St→Prop) (Q2:(Option Addr)→Nat→Nat→St→Prop):Prop:=xT Pg (zZ Pg) none yJF 36 (zHW slices aH aK dY d9 eg dw) [] [zHY slices aH aK Nx,zAS slices aH aK Q2] σ
def yJH (slices:Option Addr) (aH aK:Nat) (dY:Option Addr) (d9 eg:Nat) (dw:Int) (σ:St) (Q2:(Option Addr)→Nat→Nat→St→Prop):Prop:=wC Pg (zZ Pg) none yJF 36 (zHW slices aH aK dY d9 eg dw) [] [zAS slices aH aK Q2] σ
theorem yJD {Inv:Nat→(Option Addr)→Nat→Nat→Int→St→Prop} (hb:∀ k dY d9 eg dw σ,Inv k dY d9 eg dw σ→zWQ slices aH aK dY d9 eg dw σ (fun p6_2' l6_2' c6_2' i27_2' σ'=>∃ k',k' < k∧Inv k' p6_2' l6_2' c6_2' i27_2' σ') Q2):∀ k dY d9 eg dw σ,Inv k dY d9 eg dw σ→yJH slices aH aK dY d9 eg dw σ Q2 :=
 fun k dY d9 eg dw σ h=>yH (alts:=[zAS slices aH aK Q2]) (T:=(Option Addr) × Nat × Nat × Int) (lf:=fun t=>zHW slices aH aK t.1 t.2.1 t.2.2.1 t.2.2.2) (mf:=fun t=>[]) (Inv:=fun k t σ=>Inv k t.1 t.2.1 t.2.2.1 t.2.2.2 σ) (ai (zAM 2) trivial) (fun k t σ h=>hb k t.1 t.2.1 t.2.2.1 t.2.2.2 σ h) k (dY,d9,eg,dw) σ h
theorem yUB {Nx:(Option Addr)→Nat→Nat→Int→St→Prop} (h1:zB Pg σ 26 (zP dq (Int.toNat dw*1))=some (.slice qG lI cH)) (h2:yJ Pg 26 26 (.slice dY d9 eg) (.slice qG lI cH) σ=some (.slice qA lB cA,σV)) (nx:Nx qA lB cA (dw+1) σV) (u1:dw<((aH:Nat):Int):=by omega) (u2:Ix dw aH:=by omega) (u3:I6 (dw+1):=by omega):zWQ (some dq) aH aK dY d9 eg dw σ Nx Q2 :=
 zO [.b true,.i,.l (.slice qG lI cH),.g,.g,.g,.e (.slice qA lB cA) σV,.g,.n (dw+1),.g,.fin (zHY (some dq) aH aK Nx) (qA,lB,cA,dw+1)] (fun g=>kc (by kernel_rfl) (an5 (zW u1) u2 h1 h2 (w64 u3) (fin (alts:=[zHY (some dq) aH aK Nx,zAS (some dq) aH aK Q2]) (zHY (some dq) aH aK Nx) (qA,lB,cA,dw+1) nx in0)))
theorem yUA {Nx:(Option Addr)→Nat→Nat→Int→St→Prop} (nx:Q2 dY d9 eg σ) (u1:¬ dw<((aH:Nat):Int):=by omega):zWQ slices aH aK dY d9 eg dw σ Nx Q2 :=
 zO [.b false,.fin (zAS slices aH aK Q2) (dY,d9,eg)] (fun g=>kc (by kernel_rfl) (ai (zY u1) (fin (alts:=[zHY slices aH aK Nx,zAS slices aH aK Q2]) (zAS slices aH aK Q2) (dY,d9,eg) nx (inS in0))))
def zWO (slices:Option Addr) (aH aK:Nat) (dY:Option Addr) (d9 eg:Nat) (σ:St) (Q:Value→St→Prop):Prop:=∀ g:Nat→Value,∃ an,Hid (kAt Pg (zZ Pg) none (zX Pg 104) [1,1,1,1,0,1,0] (kFn Pg 104 Q) (.exit 2) ⟨Fm 36 (ov (zWM slices aH aK dY d9 eg) g),[]⟩ σ an)
theorem yJC (h1:zE Pg 120 [.slice none 0 0,iV aL] σ (.slice qL lN cL) σD) (hL:yJH slices aH aK qL lN cL 0 σD P2) (k2:∀ p6_2' l6_2' c6_2' σ',P2 p6_2' l6_2' c6_2' σ'→zWO slices aH aK p6_2' l6_2' c6_2' σ' Q):zWP slices aH aK aL σ Q :=
 fun g=>⟨[.g,.c (.slice qL lN cL) σD,.g,.g,.g,.g,.lf 36 (zHW slices aH aK qL lN cL 0) [zAS slices aH aK P2]],kc (by kernel_rfl) (ai h1 (ai (ai tt (ai (arf (zHW slices aH aK qL lN cL 0)) hL)) (ai (fun (t:(Option Addr) × Nat × Nat) (g':Nat→Value) (σ':St) (q:P2 t.1 t.2.1 t.2.2 σ')=>k2 t.1 t.2.1 t.2.2 σ' q g') trivial)))⟩
theorem yJB (nx:Q (.slice dY d9 eg) σ):zWO slices aH aK dY d9 eg σ Q :=
 fun g=>⟨[.g,.g],kc (by kernel_rfl) nx⟩
theorem yYA (h1:xN Pg (evL [.slice s s_l s_c]) σ (.call { callee:=.builtin .cap,args:=⟨vL 1⟩,argTypes:=⟨[26]⟩ })=some (iV n1)) (h2:xN Pg (evL [.slice s s_l s_c]) σ (.call { callee:=.builtin .cap,args:=⟨vL 1⟩,argTypes:=⟨[26]⟩ })=some (iV n2)) (h3:zBN Pg σ 26 (.slice s s_l s_c) none (some (iV n2)) none=some (.slice q3 l3 c3)) (h4:yJ Pg 26 3 (.slice q3 l3 c3) (iV (n-(n1-((s_l:Nat):Int)))) σ=some (.slice q5 l5 c5,σ4)) (h5:zBN Pg σ4 26 (.slice q5 l5 c5) none (some (iV ((s_l:Nat):Int))) none=some (.slice q6 l6 c6)) (nx:Q (.slice q6 l6 c6) σ4) (u1:¬ n<0:=by omega) (u2:I6 (n1-((s_l:Nat):Int)):=by omega) (u3:I6 (n-(n1-((s_l:Nat):Int))):=by omega) (u4:0<(n-(n1-((s_l:Nat):Int))):=by omega):zQ Pg 120 [.slice s s_l s_c,iV n] σ Q :=
 zM [.g,.g,.b false,.g,.g,.v (iV n1),.g,.g,.n (n1-((s_l:Nat):Int)),.n (n-(n1-((s_l:Nat):Int))),.g,.g,.b true,.g,.g,.v (iV n2),.v (.slice q3 l3 c3),.g,.e (.slice q5 l5 c5) σ4,.g,.g,.v (.slice q6 l6 c6),.g,.g,.g] (kc (by kernel_rfl) (an3 (zY u1) h1 (w64 u2) (an6 (w64 u3) (zW u4) h2 h3 h4 h5 nx)))
theorem yXZ (h1:xN Pg (evL [.slice s s_l s_c]) σ (.call { callee:=.builtin .cap,args:=⟨vL 1⟩,argTypes:=⟨[26]⟩ })=some (iV n1)) (nx:Q (.slice s s_l s_c) σ) (u1:¬ n<0:=by omega) (u2:I6 (n1-((s_l:Nat):Int)):=by omega) (u3:I6 (n-(n1-((s_l:Nat):Int))):=by omega) (u4:¬ 0<(n-(n1-((s_l:Nat):Int))):=by omega):zQ Pg 120 [.slice s s_l s_c,iV n] σ Q :=
 zM [.g,.g,.b false,.g,.g,.v (iV n1),.g,.g,.n (n1-((s_l:Nat):Int)),.n (n-(n1-((s_l:Nat):Int))),.g,.g,.b false,.g,.g] (kc (by kernel_rfl) (an5 (zY u1) h1 (w64 u2) (w64 u3) (zY u4) nx))
end Go.Proofs.YtgfiniccfpfplaaGreat
