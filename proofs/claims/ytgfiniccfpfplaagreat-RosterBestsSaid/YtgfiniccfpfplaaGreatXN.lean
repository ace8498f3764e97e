
import Derived.Test.YtgfiniccfpfplaaGreatTy
namespace Go.Proofs.YtgfiniccfpfplaaGreat
open Go Go.Lay
open Tryz renaming prog → Pg
set_option linter.unusedVariables false
set_option maxRecDepth 20000
variable {BA BB l1 c1 l2 c2 bU cj bY cx aH aJ lA cA eF eH lI cG lG cE lQ cP s_l s_c l3 c3 l5 c5 l6 c6:Nat} {o g_0 cs1838 cs1840:List Value} {aA nF nC n3 aB nE aZ x y aK dK n n1 n2:Int} {σM σ σD σZ σ4:St} {Q:Value→St→Prop} {q1 q2 s1 s2 slices qA eC qG qE qO s q3 q5 q6:Option Addr} {Qr Pr:Int→St→Prop} {eW eV dJ:Addr} {Q2 P2:(Option Addr)→Nat→Nat→St→Prop}
noncomputable def yKL:Code:=(Code.part [1,0,1,0,0] (zX Pg 102))
def zLY (BA BB:Nat) (o:List Value) (aA:Int):List (Nat × Value):=[(2,.pointer (some ⟨BA,0,none⟩)),(4,.pointer (some ⟨BB,0,none⟩)),(7,.agg ⟨o⟩),(8,iV aA)]
def zIO (BA BB:Nat) (o:List Value) (Q:Int→St→Prop):Alt:=⟨Int,.normal,fun t=>zLY BA BB o t,fun t=>[],fun t σ=>Q t σ⟩
def zXG (BA BB:Nat) (o:List Value):List (Nat × Value):=[(2,.pointer (some ⟨BA,0,none⟩)),(4,.pointer (some ⟨BB,0,none⟩))]
def zBB (BA BB:Nat) (o:List Value) (Q:St→Prop):Alt:=⟨Unit,(.exit 0),fun t=>zXG BA BB o,fun t=>[],fun t σ=>Q σ⟩
def zXI (BA BB:Nat) (o:List Value) (aA:Int) (σ:St) (Nx:Int→St→Prop) (Q0:St→Prop):Prop:=xQ Pg (zZ Pg) none yKL 20 (zLY BA BB o aA) [] [zIO BA BB o Nx,zBB BA BB o Q0] σ
def yKM (BA BB:Nat) (o:List Value) (aA:Int) (σ:St) (Q0:St→Prop):Prop:=xX Pg (zZ Pg) none yKL 20 (zLY BA BB o aA) [] [zBB BA BB o Q0] σ
theorem yKK {Inv:Nat→Int→St→Prop} {Q0:St→Prop} (hb:∀ k aA σ,Inv k aA σ→zXI BA BB o aA σ (fun i8_1' σ'=>∃ k',k' < k∧Inv k' i8_1' σ') Q0):∀ k aA σ,Inv k aA σ→yKM BA BB o aA σ Q0 :=
 fun k aA σ h=>yF (alts:=[zBB BA BB o Q0]) (T:=Int) (lf:=fun t=>zLY BA BB o t) (mf:=fun t=>[]) (Inv:=fun k t σ=>Inv k t σ) (ai (zAB 0) trivial) (fun k t σ h=>hb k t σ h) k aA σ h
theorem yVY {Nx:Int→St→Prop} {Q0:St→Prop} (h1:zSC Pg 98 (.agg ⟨o⟩) (iV aA)=some (iV nF)) (h2:zB Pg σ 3 ⟨BA,0+Int.toNat aA*1,none⟩=some (iV nC)) (h3:zS Pg (evL [.pointer (some ⟨BA,0+Int.toNat aA*1,none⟩),iV (nC+nF)]) σ (.store 3 (.tmp 0) (.tmp 1))=some (undef,σM)) (nx:Nx (aA+1) σM) (u1:aA<6:=by omega) (u2:Ix aA 6:=by omega) (u3:I6 (nC+nF):=by omega) (u4:I6 (aA+1):=by omega):zXI BA BB o aA σ Nx Q0 :=
 zO [.b true,.g,.v (iV nF),.g,.g,.g,.i,.l (iV nC),.g,.n (nC+nF),.i,.e undef σM,.n (aA+1),.g,.fin (zIO BA BB o Nx) (aA+1)] (fun g=>kc (by kernel_rfl) (an2 (zU u1) h1 (an6 u2 h2 (w64 u3) u2 h3 (w64 u4) (fin (alts:=[zIO BA BB o Nx,zBB BA BB o Q0]) (zIO BA BB o Nx) (aA+1) nx in0))))
theorem yVX {Nx:Int→St→Prop} {Q0:St→Prop} (nx:Q0 σ) (u1:¬ aA<6:=by omega):zXI BA BB o aA σ Nx Q0 :=
 zO [.b false,.fin (zBB BA BB o Q0) ()] (fun g=>kc (by kernel_rfl) (ai (zY u1) (fin (alts:=[zIO BA BB o Nx,zBB BA BB o Q0]) (zBB BA BB o Q0) () nx (inS in0))))
def zXH (BA BB:Nat) (o:List Value) (σ:St) (Q:Value→St→Prop):Prop:=∀ g:Nat→Value,∃ an,Hid (kAt Pg (zZ Pg) none (zX Pg 102) [1,0,1,0] (kFn Pg 102 Q) (.exit 0) ⟨Fm 20 (ov (zXG BA BB o) g),[]⟩ σ an)
theorem gplus_ra {P0:St→Prop} (h1:zB Pg (((σ.row g_0 1).row o 1).row (zL 0 0 0 0 0 0) 1) 98 ⟨(σ.next+1),0,none⟩=some (.agg ⟨o⟩)) (hL:yKM σ.next (σ.next+2) o 0 (((σ.row g_0 1).row o 1).row (zL 0 0 0 0 0 0) 1) P0) (k0:∀ σ',P0 σ'→zXH σ.next (σ.next+2) o σ' Q):zQ Pg 102 [.agg ⟨g_0⟩,.agg ⟨o⟩] σ Q :=
 let s1:=zLY σ.next (σ.next+2) o 0;zM [.g,.g,.g,.l (.agg ⟨o⟩),.g,.lf 20 s1 [zBB σ.next (σ.next+2) o P0]] (kc (by kernel_rfl) (ai h1 (ai (ai tt (ai (arf s1) hL)) (ai (fun (t:Unit) (g':Nat→Value) (σ':St) (q:P0 σ')=>k0 σ' q g') trivial))))
theorem yKJ (h1:zB Pg σ 98 ⟨BA,0,none⟩=some (.agg ⟨cs1838⟩)) (h2:zS Pg (evL [.pointer (some ⟨BB,0,none⟩),.agg ⟨cs1838⟩]) σ (.store 98 (.tmp 0) (.tmp 1))=some (undef,σD)) (h3:zB Pg σD 98 ⟨BB,0,none⟩=some (.agg ⟨cs1840⟩)) (nx:Q (.agg ⟨cs1840⟩) σD):zXH BA BB o σ Q :=
 fun g=>⟨[.l (.agg ⟨cs1838⟩),.e undef σD,.l (.agg ⟨cs1840⟩)],kc (by kernel_rfl) (an3 h1 h2 h3 nx)⟩
theorem gmore_ra (h1:zB Pg ((σ.row g_0 1).row o 1) 98 ⟨σ.next,0,none⟩=some (.agg ⟨g_0⟩)) (h2:zB Pg ((σ.row g_0 1).row o 1) 98 ⟨(σ.next+1),0,none⟩=some (.agg ⟨o⟩)) (h3:zYD Pg .neq 98 (.tmp 5) (.tmp 6) (.agg ⟨g_0⟩) (.agg ⟨o⟩)=some (.bool true)) (h4:zAK Pg ((σ.row g_0 1).row o 1) 98 (.pointer (some ⟨σ.next,0,none⟩)) none none none=some (.slice q1 l1 c1)) (h5:zAK Pg ((σ.row g_0 1).row o 1) 98 (.pointer (some ⟨(σ.next+1),0,none⟩)) none none none=some (.slice q2 l2 c2)) (h6:zE Pg 119 [.slice q1 l1 c1,.slice q2 l2 c2] ((σ.row g_0 1).row o 1) (iV n3) ((σ.row g_0 1).row o 1)) (nx:Q (.bool true) ((σ.row g_0 1).row o 1)) (u1:0<n3:=by omega):zQ Pg 103 [.agg ⟨g_0⟩,.agg ⟨o⟩] σ Q :=
 zM [.g,.g,.g,.l (.agg ⟨g_0⟩),.l (.agg ⟨o⟩),.v (.bool true),.g,.v (.slice q1 l1 c1),.v (.slice q2 l2 c2),.c (iV n3) ((σ.row g_0 1).row o 1),.b true,.g,.g] (kc (by kernel_rfl) (ai h1 (an6 h2 h3 h4 h5 h6 (zU u1) nx)))
theorem gmore_rb (h1:zB Pg ((σ.row g_0 1).row o 1) 98 ⟨σ.next,0,none⟩=some (.agg ⟨g_0⟩)) (h2:zB Pg ((σ.row g_0 1).row o 1) 98 ⟨(σ.next+1),0,none⟩=some (.agg ⟨o⟩)) (h3:zYD Pg .neq 98 (.tmp 5) (.tmp 6) (.agg ⟨g_0⟩) (.agg ⟨o⟩)=some (.bool true)) (h4:zAK Pg ((σ.row g_0 1).row o 1) 98 (.pointer (some ⟨σ.next,0,none⟩)) none none none=some (.slice q1 l1 c1)) (h5:zAK Pg ((σ.row g_0 1).row o 1) 98 (.pointer (some ⟨(σ.next+1),0,none⟩)) none none none=some (.slice q2 l2 c2)) (h6:zE Pg 119 [.slice q1 l1 c1,.slice q2 l2 c2] ((σ.row g_0 1).row o 1) (iV n3) ((σ.row g_0 1).row o 1)) (nx:Q (.bool false) ((σ.row g_0 1).row o 1)) (u1:¬ 0<n3:=by omega):zQ Pg 103 [.agg ⟨g_0⟩,.agg ⟨o⟩] σ Q :=
 zM [.g,.g,.g,.l (.agg ⟨g_0⟩),.l (.agg ⟨o⟩),.v (.bool true),.g,.v (.slice q1 l1 c1),.v (.slice q2 l2 c2),.c (iV n3) ((σ.row g_0 1).row o 1),.b false,.g,.g] (kc (by kernel_rfl) (ai h1 (an6 h2 h3 h4 h5 h6 (zY u1) nx)))
theorem gmore_rc (h1:zB Pg ((σ.row g_0 1).row o 1) 98 ⟨σ.next,0,none⟩=some (.agg ⟨g_0⟩)) (h2:zB Pg ((σ.row g_0 1).row o 1) 98 ⟨(σ.next+1),0,none⟩=some (.agg ⟨o⟩)) (h3:zYD Pg .neq 98 (.tmp 5) (.tmp 6) (.agg ⟨g_0⟩) (.agg ⟨o⟩)=some (.bool false)) (nx:Q (.bool false) ((σ.row g_0 1).row o 1)):zQ Pg 103 [.agg ⟨g_0⟩,.agg ⟨o⟩] σ Q :=
 zM [.g,.g,.g,.l (.agg ⟨g_0⟩),.l (.agg ⟨o⟩),.v (.bool false),.g,.g,.g] (kc (by kernel_rfl) (an3 h1 h2 h3 nx))
noncomputable def zXX:Code:=(Code.part [1,0,1,0,0] (zX Pg 119))
def zEN (s1:Option Addr) (bU cj:Nat) (s2:Option Addr) (bY cx:Nat) (aB:Int):List (Nat × Value):=[(0,.slice s1 bU cj),(1,.slice s2 bY cx),(9,.slice s1 bU cj),(10,iV ((bU:Nat):Int)),(11,iV aB)]
def zCV (s1:Option Addr) (bU cj:Nat) (s2:Option Addr) (bY cx:Nat) (Q:Int→St→Prop):Alt:=⟨Int,.normal,fun t=>zEN s1 bU cj s2 bY cx t,fun t=>[],fun t σ=>Q t σ⟩
def zRC (s1:Option Addr) (bU cj:Nat) (s2:Option Addr) (bY cx:Nat) (aZ:Int):List (Nat × Value):=[(4,iV aZ)]
def vJ (s1:Option Addr) (bU cj:Nat) (s2:Option Addr) (bY cx:Nat) (Q:Int→St→Prop):Alt:=⟨Int,.ret,fun t=>zRC s1 bU cj s2 bY cx t,fun t=>[],fun t σ=>Q t σ⟩
def zRD (s1:Option Addr) (bU cj:Nat) (s2:Option Addr) (bY cx:Nat):List (Nat × Value):=[(0,.slice s1 bU cj),(1,.slice s2 bY cx)]
def vK (s1:Option Addr) (bU cj:Nat) (s2:Option Addr) (bY cx:Nat) (Q:St→Prop):Alt:=⟨Unit,(.exit 0),fun t=>zRD s1 bU cj s2 bY cx,fun t=>[],fun t σ=>Q σ⟩
def zKD (s1:Option Addr) (bU cj:Nat) (s2:Option Addr) (bY cx:Nat) (aB:Int) (σ:St) (Nx:Int→St→Prop) (Qr:Int→St→Prop) (Q0:St→Prop):Prop:=xQ Pg (zZ Pg) none zXX 36 (zEN s1 bU cj s2 bY cx aB) [] [zCV s1 bU cj s2 bY cx Nx,vJ s1 bU cj s2 bY cx Qr,vK s1 bU cj s2 bY cx Q0] σ
def zXY (s1:Option Addr) (bU cj:Nat) (s2:Option Addr) (bY cx:Nat) (aB:Int) (σ:St) (Qr:Int→St→Prop) (Q0:St→Prop):Prop:=xX Pg (zZ Pg) none zXX 36 (zEN s1 bU cj s2 bY cx aB) [] [vJ s1 bU cj s2 bY cx Qr,vK s1 bU cj s2 bY cx Q0] σ
theorem zZW {Inv:Nat→Int→St→Prop} {Q0:St→Prop} (hb:∀ k aB σ,Inv k aB σ→zKD s1 bU cj s2 bY cx aB σ (fun i11_1' σ'=>∃ k',k' < k∧Inv k' i11_1' σ') Qr Q0):∀ k aB σ,Inv k aB σ→zXY s1 bU cj s2 bY cx aB σ Qr Q0 :=
 fun k aB σ h=>yF (alts:=[vJ s1 bU cj s2 bY cx Qr,vK s1 bU cj s2 bY cx Q0]) (T:=Int) (lf:=fun t=>zEN s1 bU cj s2 bY cx t) (mf:=fun t=>[]) (Inv:=fun k t σ=>Inv k t σ) (ai zEW (ai (zAB 0) trivial)) (fun k t σ h=>hb k t σ h) k aB σ h
theorem zTX {Nx:Int→St→Prop} {Q0:St→Prop} (h1:zB Pg σ 3 (zP eW (Int.toNat aB*1))=some (iV nF)) (h2:zB Pg σ 3 (zP eV (Int.toNat aB*1))=some (iV nC)) (h3:zE Pg 129 [iV nF,iV nC] σ (iV nE) σ) (nx:Qr nE σ) (u1:aB<((bU:Nat):Int):=by omega) (u2:Ix aB bU:=by omega) (u3:¬ ((bY:Nat):Int)≤aB:=by omega) (u4:Ix aB bY:=by omega) (u5:¬ nE=0:=by omega):zKD (some eW) bU cj (some eV) bY cx aB σ Nx Qr Q0 :=
 zO [.b true,.g,.i,.l (iV nF),.g,.g,.g,.g,.g,.b false,.g,.g,.i,.l (iV nC),.g,.g,.g,.c (iV nE) σ,.g,.g,.b true,.g,.g,.fin (vJ (some eW) bU cj (some eV) bY cx Qr) nE] (fun g=>kc (by kernel_rfl) (an2 (zU u1) u2 (an6 h1 (xU u3) u4 h2 h3 (zBO u5) (fin (alts:=[zCV (some eW) bU cj (some eV) bY cx Nx,vJ (some eW) bU cj (some eV) bY cx Qr,vK (some eW) bU cj (some eV) bY cx Q0]) (vJ (some eW) bU cj (some eV) bY cx Qr) nE nx (inS in0)))))
theorem yLM {Nx:Int→St→Prop} {Q0:St→Prop} (h1:zB Pg σ 3 (zP eW (Int.toNat aB*1))=some (iV nF)) (h2:zB Pg σ 3 (zP eV (Int.toNat aB*1))=some (iV nC)) (h3:zE Pg 129 [iV nF,iV nC] σ (iV nE) σ) (nx:Nx (aB+1) σ) (u1:aB<((bU:Nat):Int):=by omega) (u2:Ix aB bU:=by omega) (u3:¬ ((bY:Nat):Int)≤aB:=by omega) (u4:Ix aB bY:=by omega) (u5:nE=0:=by omega) (u6:I6 (aB+1):=by omega):zKD (some eW) bU cj (some eV) bY cx aB σ Nx Qr Q0 :=
 let s1:=aB+1;zO [.b true,.g,.i,.l (iV nF),.g,.g,.g,.g,.g,.b false,.g,.g,.i,.l (iV nC),.g,.g,.g,.c (iV nE) σ,.g,.g,.b false,.n s1,.g,.fin (zCV (some eW) bU cj (some eV) bY cx Nx) s1] (fun g=>kc (by kernel_rfl) (an3 (zU u1) u2 h1 (an6 (xU u3) u4 h2 h3 (uB u5) (w64 u6) (fin (alts:=[zCV (some eW) bU cj (some eV) bY cx Nx,vJ (some eW) bU cj (some eV) bY cx Qr,vK (some eW) bU cj (some eV) bY cx Q0]) (zCV (some eW) bU cj (some eV) bY cx Nx) s1 nx in0))))
theorem yLL {Nx:Int→St→Prop} {Q0:St→Prop} (nx:Q0 σ) (u1:¬ aB<((bU:Nat):Int):=by omega):zKD s1 bU cj s2 bY cx aB σ Nx Qr Q0 :=
 zO [.b false,.fin (vK s1 bU cj s2 bY cx Q0) ()] (fun g=>kc (by kernel_rfl) (ai (zY u1) (fin (alts:=[zCV s1 bU cj s2 bY cx Nx,vJ s1 bU cj s2 bY cx Qr,vK s1 bU cj s2 bY cx Q0]) (vK s1 bU cj s2 bY cx Q0) () nx (inS (inS in0)))))
def zRE (s1:Option Addr) (bU cj:Nat) (s2:Option Addr) (bY cx:Nat) (aZ:Int) (σ:St) (Q:Value→St→Prop):Prop:=∀ g:Nat→Value,∃ an,Hid (kAt Pg (zZ Pg) none (zX Pg 119) [1,0,1,0] (kFn Pg 119 Q) .ret ⟨Fm 36 (ov (zRC s1 bU cj s2 bY cx aZ) g),[]⟩ σ an)
def zRF (s1:Option Addr) (bU cj:Nat) (s2:Option Addr) (bY cx:Nat) (σ:St) (Q:Value→St→Prop):Prop:=∀ g:Nat→Value,∃ an,Hid (kAt Pg (zZ Pg) none (zX Pg 119) [1,0,1,0] (kFn Pg 119 Q) (.exit 0) ⟨Fm 36 (ov (zRD s1 bU cj s2 bY cx) g),[]⟩ σ an)
theorem yQQ {P0:St→Prop} (hL:zXY s1 bU cj s2 bY cx 0 σ Pr P0) (kr:∀ i4_1' σ',Pr i4_1' σ'→zRE s1 bU cj s2 bY cx i4_1' σ' Q) (k0:∀ σ',P0 σ'→zRF s1 bU cj s2 bY cx σ' Q):zQ Pg 119 [.slice s1 bU cj,.slice s2 bY cx] σ Q :=
 zM [.g,.g,.g,.g,.lf 36 (zEN s1 bU cj s2 bY cx 0) [vJ s1 bU cj s2 bY cx Pr,vK s1 bU cj s2 bY cx P0]] (kc (by kernel_rfl) (ai (ai tt (ai (arf (zEN s1 bU cj s2 bY cx 0)) hL)) (ai (fun (t:Int) (g':Nat→Value) (σ':St) (q:Pr t σ')=>kr t σ' q g') (ai (fun (t:Unit) (g':Nat→Value) (σ':St) (q:P0 σ')=>k0 σ' q g') trivial))))
theorem zZU (nx:Q (iV aZ) σ):zRE s1 bU cj s2 bY cx aZ σ Q :=
 fun g=>⟨[],kc (by kernel_rfl) nx⟩
theorem zZV (nx:Q (iV 0) σ) (u1:¬ ((bU:Nat):Int)<((bY:Nat):Int):=by omega):zRF s1 bU cj s2 bY cx σ Q :=
 fun g=>⟨[.g,.g,.g,.g,.b false,.g],kc (by kernel_rfl) (ai (zY u1) nx)⟩
theorem cmpI_rd (h1:zE Pg 132 [iV x] σ (.bool false) σ) (h2:zE Pg 132 [iV y] σ (.bool false) σ) (nx:Q (iV (-1)) σ) (u1:x<y:=by omega):zQ Pg 129 [iV x,iV y] σ Q :=
 zM [.g,.g,.c (.bool false) σ,.g,.g,.c (.bool false) σ,.g,.g,.g,.g,.g,.b true,.g] (kc (by kernel_rfl) (an3 h1 h2 (zU u1) nx))
theorem cmpI_re (h1:zE Pg 132 [iV x] σ (.bool false) σ) (h2:zE Pg 132 [iV y] σ (.bool false) σ) (nx:Q (iV 1) σ) (u1:¬ x<y:=by omega) (u2:y<x:=by omega):zQ Pg 129 [iV x,iV y] σ Q :=
 zM [.g,.g,.c (.bool false) σ,.g,.g,.c (.bool false) σ,.g,.g,.g,.g,.g,.b false,.g,.g,.b true,.g] (kc (by kernel_rfl) (an4 h1 h2 (zY u1) (zU u2) nx))
theorem cmpI_rf (h1:zE Pg 132 [iV x] σ (.bool false) σ) (h2:zE Pg 132 [iV y] σ (.bool false) σ) (nx:Q (iV 0) σ) (u1:¬ x<y:=by omega) (u2:¬ y<x:=by omega):zQ Pg 129 [iV x,iV y] σ Q :=
 zM [.g,.g,.c (.bool false) σ,.g,.g,.c (.bool false) σ,.g,.g,.g,.g,.g,.b false,.g,.g,.b false,.g] (kc (by kernel_rfl) (an4 h1 h2 (zY u1) (zY u2) nx))
theorem isNaN_rb (nx:Q (.bool false) σ) (u1:x=x:=by omega):zQ Pg 132 [iV x] σ Q :=
 zM [.g,.g,.g,.b false,.g] (kc (by kernel_rfl) (ai (uB u1) nx))
noncomputable def yLI:Code:=(Code.part [1,1,0,1,0,0] (zX Pg 104))
def zIR (slices:Option Addr) (aH aJ:Nat) (aK aB:Int):List (Nat × Value):=[(0,.slice slices aH aJ),(3,iV aK),(9,.slice slices aH aJ),(10,iV ((aH:Nat):Int)),(11,iV aB)]
def zIT (slices:Option Addr) (aH aJ:Nat) (Q:Int→Int→St→Prop):Alt:=⟨Int × Int,.normal,fun t=>zIR slices aH aJ t.1 t.2,fun t=>[],fun t σ=>Q t.1 t.2 σ⟩
def zXS (slices:Option Addr) (aH aJ:Nat) (aK:Int):List (Nat × Value):=[(0,.slice slices aH aJ),(3,iV aK)]
def zBD (slices:Option Addr) (aH aJ:Nat) (Q:Int→St→Prop):Alt:=⟨Int,(.exit 0),fun t=>zXS slices aH aJ t,fun t=>[],fun t σ=>Q t σ⟩
def zXW (slices:Option Addr) (aH aJ:Nat) (aK aB:Int) (σ:St) (Nx:Int→Int→St→Prop) (Q0:Int→St→Prop):Prop:=xQ Pg (zZ Pg) none yLI 36 (zIR slices aH aJ aK aB) [] [zIT slices aH aJ Nx,zBD slices aH aJ Q0] σ
def yLK (slices:Option Addr) (aH aJ:Nat) (aK aB:Int) (σ:St) (Q0:Int→St→Prop):Prop:=xX Pg (zZ Pg) none yLI 36 (zIR slices aH aJ aK aB) [] [zBD slices aH aJ Q0] σ
theorem yLG {Inv:Nat→Int→Int→St→Prop} {Q0:Int→St→Prop} (hb:∀ k aK aB σ,Inv k aK aB σ→zXW slices aH aJ aK aB σ (fun i3_1' i11_1' σ'=>∃ k',k' < k∧Inv k' i3_1' i11_1' σ') Q0):∀ k aK aB σ,Inv k aK aB σ→yLK slices aH aJ aK aB σ Q0 :=
 fun k aK aB σ h=>yF (alts:=[zBD slices aH aJ Q0]) (T:=Int × Int) (lf:=fun t=>zIR slices aH aJ t.1 t.2) (mf:=fun t=>[]) (Inv:=fun k t σ=>Inv k t.1 t.2 σ) (ai (zAB 0) trivial) (fun k t σ h=>hb k t.1 t.2 σ h) k (aK,aB) σ h
theorem yWM {Nx:Int→Int→St→Prop} {Q0:Int→St→Prop} (h1:zB Pg σ 26 (zP dJ (Int.toNat aB*1))=some (.slice qA lA cA)) (nx:Nx (aK+((lA:Nat):Int)) (aB+1) σ) (u1:aB<((aH:Nat):Int):=by omega) (u2:Ix aB aH:=by omega) (u3:I6 (aK+((lA:Nat):Int)):=by omega) (u4:¬ (aK+((lA:Nat):Int))<0:=by omega) (u5:I6 (aB+1):=by omega):zXW (some dJ) aH aJ aK aB σ Nx Q0 :=
 zO [.b true,.i,.l (.slice qA lA cA),.g,.g,.g,.g,.n (aK+((lA:Nat):Int)),.g,.g,.b false,.n (aB+1),.g,.fin (zIT (some dJ) aH aJ Nx) ((aK+((lA:Nat):Int)),aB+1)] (fun g=>kc (by kernel_rfl) (an6 (zU u1) u2 h1 (w64 u3) (zY u4) (w64 u5) (fin (alts:=[zIT (some dJ) aH aJ Nx,zBD (some dJ) aH aJ Q0]) (zIT (some dJ) aH aJ Nx) ((aK+((lA:Nat):Int)),aB+1) nx in0)))
theorem yWL {Nx:Int→Int→St→Prop} {Q0:Int→St→Prop} (nx:Q0 aK σ) (u1:¬ aB<((aH:Nat):Int):=by omega):zXW slices aH aJ aK aB σ Nx Q0 :=
 zO [.b false,.fin (zBD slices aH aJ Q0) aK] (fun g=>kc (by kernel_rfl) (ai (zY u1) (fin (alts:=[zIT slices aH aJ Nx,zBD slices aH aJ Q0]) (zBD slices aH aJ Q0) aK nx (inS in0))))
def zXU (slices:Option Addr) (aH aJ:Nat) (aK:Int) (σ:St) (Q:Value→St→Prop):Prop:=∀ g:Nat→Value,∃ an,Hid (kAt Pg (zZ Pg) none (zX Pg 104) [1,1,0,1,0] (kFn Pg 104 Q) (.exit 0) ⟨Fm 36 (ov (zXS slices aH aJ aK) g),[]⟩ σ an)
theorem concI_ra {P0:Int→St→Prop} (hL:yLK slices aH aJ 0 0 σ P0) (k0:∀ i3_1' σ',P0 i3_1' σ'→zXU slices aH aJ i3_1' σ' Q):zQ Pg 104 [.slice slices aH aJ] σ Q :=
 zM [.g,.g,.g,.g,.g,.lf 36 (zIR slices aH aJ 0 0) [zBD slices aH aJ P0]] (kc (by kernel_rfl) (ai (ai tt (ai (arf (zIR slices aH aJ 0 0)) hL)) (ai (fun (t:Int) (g':Nat→Value) (σ':St) (q:P0 t σ')=>k0 t σ' q g') trivial)))
noncomputable def yLH:Code:=(Code.part [1,1,1,1,0,1,0,0] (zX Pg 104))
def zIQ (slices:Option Addr) (aH aJ:Nat) (eC:Option Addr) (eF eH:Nat) (dK:Int):List (Nat × Value):=[(6,.slice eC eF eH),(25,.slice slices aH aJ),(26,iV ((aH:Nat):Int)),(27,iV dK)]
def zIS (slices:Option Addr) (aH aJ:Nat) (Q:(Option Addr)→Nat→Nat→Int→St→Prop):Alt:=⟨(Option Addr) × Nat × Nat × Int,.normal,fun t=>zIQ slices aH aJ t.1 t.2.1 t.2.2.1 t.2.2.2,fun t=>[],fun t σ=>Q t.1 t.2.1 t.2.2.1 t.2.2.2 σ⟩
def zXR (slices:Option Addr) (aH aJ:Nat) (eC:Option Addr) (eF eH:Nat):List (Nat × Value):=[(6,.slice eC eF eH)]
def zBC (slices:Option Addr) (aH aJ:Nat) (Q:(Option Addr)→Nat→Nat→St→Prop):Alt:=⟨(Option Addr) × Nat × Nat,(.exit 2),fun t=>zXR slices aH aJ t.1 t.2.1 t.2.2,fun t=>[],fun t σ=>Q t.1 t.2.1 t.2.2 σ⟩
def zXV (slices:Option Addr) (aH aJ:Nat) (eC:Option Addr) (eF eH:Nat) (dK:Int) (σ:St) (Nx:(Option Addr)→Nat→Nat→Int→St→Prop) (Q2:(Option Addr)→Nat→Nat→St→Prop):Prop:=xQ Pg (zZ Pg) none yLH 36 (zIQ slices aH aJ eC eF eH dK) [] [zIS slices aH aJ Nx,zBC slices aH aJ Q2] σ
def yLJ (slices:Option Addr) (aH aJ:Nat) (eC:Option Addr) (eF eH:Nat) (dK:Int) (σ:St) (Q2:(Option Addr)→Nat→Nat→St→Prop):Prop:=xX Pg (zZ Pg) none yLH 36 (zIQ slices aH aJ eC eF eH dK) [] [zBC slices aH aJ Q2] σ
theorem yLF {Inv:Nat→(Option Addr)→Nat→Nat→Int→St→Prop} (hb:∀ k eC eF eH dK σ,Inv k eC eF eH dK σ→zXV slices aH aJ eC eF eH dK σ (fun p6_2' l6_2' c6_2' i27_2' σ'=>∃ k',k' < k∧Inv k' p6_2' l6_2' c6_2' i27_2' σ') Q2):∀ k eC eF eH dK σ,Inv k eC eF eH dK σ→yLJ slices aH aJ eC eF eH dK σ Q2 :=
 fun k eC eF eH dK σ h=>yF (alts:=[zBC slices aH aJ Q2]) (T:=(Option Addr) × Nat × Nat × Int) (lf:=fun t=>zIQ slices aH aJ t.1 t.2.1 t.2.2.1 t.2.2.2) (mf:=fun t=>[]) (Inv:=fun k t σ=>Inv k t.1 t.2.1 t.2.2.1 t.2.2.2 σ) (ai (zAB 2) trivial) (fun k t σ h=>hb k t.1 t.2.1 t.2.2.1 t.2.2.2 σ h) k (eC,eF,eH,dK) σ h
theorem yWK {Nx:(Option Addr)→Nat→Nat→Int→St→Prop} (h1:zB Pg σ 26 (zP dJ (Int.toNat dK*1))=some (.slice qG lI cG)) (h2:yK Pg 26 26 (.slice eC eF eH) (.slice qG lI cG) σ=some (.slice qE lG cE,σZ)) (nx:Nx qE lG cE (dK+1) σZ) (u1:dK<((aH:Nat):Int):=by omega) (u2:Ix dK aH:=by omega) (u3:I6 (dK+1):=by omega):zXV (some dJ) aH aJ eC eF eH dK σ Nx Q2 :=
 zO [.b true,.i,.l (.slice qG lI cG),.g,.g,.g,.e (.slice qE lG cE) σZ,.g,.n (dK+1),.g,.fin (zIS (some dJ) aH aJ Nx) (qE,lG,cE,dK+1)] (fun g=>kc (by kernel_rfl) (an5 (zU u1) u2 h1 h2 (w64 u3) (fin (alts:=[zIS (some dJ) aH aJ Nx,zBC (some dJ) aH aJ Q2]) (zIS (some dJ) aH aJ Nx) (qE,lG,cE,dK+1) nx in0)))
theorem yWJ {Nx:(Option Addr)→Nat→Nat→Int→St→Prop} (nx:Q2 eC eF eH σ) (u1:¬ dK<((aH:Nat):Int):=by omega):zXV slices aH aJ eC eF eH dK σ Nx Q2 :=
 zO [.b false,.fin (zBC slices aH aJ Q2) (eC,eF,eH)] (fun g=>kc (by kernel_rfl) (ai (zY u1) (fin (alts:=[zIS slices aH aJ Nx,zBC slices aH aJ Q2]) (zBC slices aH aJ Q2) (eC,eF,eH) nx (inS in0))))
def zXT (slices:Option Addr) (aH aJ:Nat) (eC:Option Addr) (eF eH:Nat) (σ:St) (Q:Value→St→Prop):Prop:=∀ g:Nat→Value,∃ an,Hid (kAt Pg (zZ Pg) none (zX Pg 104) [1,1,1,1,0,1,0] (kFn Pg 104 Q) (.exit 2) ⟨Fm 36 (ov (zXR slices aH aJ eC eF eH) g),[]⟩ σ an)
theorem yLE (h1:zE Pg 120 [.slice none 0 0,iV aK] σ (.slice qO lQ cP) σD) (hL:yLJ slices aH aJ qO lQ cP 0 σD P2) (k2:∀ p6_2' l6_2' c6_2' σ',P2 p6_2' l6_2' c6_2' σ'→zXT slices aH aJ p6_2' l6_2' c6_2' σ' Q):zXU slices aH aJ aK σ Q :=
 fun g=>⟨[.g,.c (.slice qO lQ cP) σD,.g,.g,.g,.g,.lf 36 (zIQ slices aH aJ qO lQ cP 0) [zBC slices aH aJ P2]],kc (by kernel_rfl) (ai h1 (ai (ai tt (ai (arf (zIQ slices aH aJ qO lQ cP 0)) hL)) (ai (fun (t:(Option Addr) × Nat × Nat) (g':Nat→Value) (σ':St) (q:P2 t.1 t.2.1 t.2.2 σ')=>k2 t.1 t.2.1 t.2.2 σ' q g') trivial)))⟩
theorem yLD (nx:Q (.slice eC eF eH) σ):zXT slices aH aJ eC eF eH σ Q :=
 fun g=>⟨[.g,.g],kc (by kernel_rfl) nx⟩
theorem growI_ra (h1:xK Pg (evL [.slice s s_l s_c]) σ (.call { callee:=.builtin .cap,args:=⟨wC 1⟩,argTypes:=⟨[26]⟩ })=some (iV n1)) (h2:xK Pg (evL [.slice s s_l s_c]) σ (.call { callee:=.builtin .cap,args:=⟨wC 1⟩,argTypes:=⟨[26]⟩ })=some (iV n2)) (h3:zAK Pg σ 26 (.slice s s_l s_c) none (some (iV n2)) none=some (.slice q3 l3 c3)) (h4:yK Pg 26 3 (.slice q3 l3 c3) (iV (n-(n1-((s_l:Nat):Int)))) σ=some (.slice q5 l5 c5,σ4)) (h5:zAK Pg σ4 26 (.slice q5 l5 c5) none (some (iV ((s_l:Nat):Int))) none=some (.slice q6 l6 c6)) (nx:Q (.slice q6 l6 c6) σ4) (u1:¬ n<0:=by omega) (u2:I6 (n1-((s_l:Nat):Int)):=by omega) (u3:I6 (n-(n1-((s_l:Nat):Int))):=by omega) (u4:0<(n-(n1-((s_l:Nat):Int))):=by omega):zQ Pg 120 [.slice s s_l s_c,iV n] σ Q :=
 zM [.g,.g,.b false,.g,.g,.v (iV n1),.g,.g,.n (n1-((s_l:Nat):Int)),.n (n-(n1-((s_l:Nat):Int))),.g,.g,.b true,.g,.g,.v (iV n2),.v (.slice q3 l3 c3),.g,.e (.slice q5 l5 c5) σ4,.g,.g,.v (.slice q6 l6 c6),.g,.g,.g] (kc (by kernel_rfl) (an3 (zY u1) h1 (w64 u2) (an6 (w64 u3) (zU u4) h2 h3 h4 h5 nx)))
theorem growI_rb (h1:xK Pg (evL [.slice s s_l s_c]) σ (.call { callee:=.builtin .cap,args:=⟨wC 1⟩,argTypes:=⟨[26]⟩ })=some (iV n1)) (nx:Q (.slice s s_l s_c) σ) (u1:¬ n<0:=by omega) (u2:I6 (n1-((s_l:Nat):Int)):=by omega) (u3:I6 (n-(n1-((s_l:Nat):Int))):=by omega) (u4:¬ 0<(n-(n1-((s_l:Nat):Int))):=by omega):zQ Pg 120 [.slice s s_l s_c,iV n] σ Q :=
 zM [.g,.g,.b false,.g,.g,.v (iV n1),.g,.g,.n (n1-((s_l:Nat):Int)),.n (n-(n1-((s_l:Nat):Int))),.g,.g,.b false,.g,.g] (kc (by kernel_rfl) (an5 (zY u1) h1 (w64 u2) (w64 u3) (zY u4) nx))
end Go.Proofs.YtgfiniccfpfplaaGreat
