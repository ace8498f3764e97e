import Derived.Test.YtgfiniccfpfplaaTy
import Derived.Test.YtgfiniccfpfplaaUA
set_option linter.unusedVariables false
set_option maxRecDepth 20000
set_option linter.unusedSimpArgs false
namespace Go.Proofs.Ytgfiniccfpfplaa
open Go Go.Lay
open Try renaming prog → Pg
section
variable {data:Option Addr} {ae af:Nat} {a_1 b aI aN nM nR nS nN nG nH nJ hi first aB nI nE nA nB nD nF nK nAB nBB nCB nMB nEC nFC nHC lo_1 kB aQ dw aT bb br nO nKB nZ nLB nNB nFB nIB nDB nEB nT nU nV nW cg n1 n2 n3 n4 n5 n6 bB nWB nIC nJC nXB nYB nZB aD aV nY nGB nOB nPB nQB nRB nVB bF nBA nBD nBE nBF nBG nBH nBI nBV nBW nBX nBY nBZ nBa nBb nBc nBd nBe nBf nBg bE bZ nJB nHB nAC nBC nCC nDC:Int} {az:FuncId} {aj:List Value} {Inv:Nat→Int→St→Prop} {Q0 P0 Pr P6:St→Prop} {Q2 Nx P2 Q4 P4 Q6 Q8 P8:Int→St→Prop} {ao:Addr} {σP σJ σ σY σZ σK σAB σC σBB σL σCB σDB σEB σ7 σ8 σH σQ σFB σGB σHB σIB σJB σKB σM σN σLB σMB:St} {Q:Value→St→Prop} {Qr:Bool→St→Prop} {t8_1:Bool}
noncomputable def yBT:Code:=(Code.part [1,0,0] (zO Pg 80))
def zQY (data:Option Addr) (ae af:Nat) (a_1 b:Int) (az:FuncId) (aj:List Value) (aI:Int):List (Nat × Value):=[(0,.slice data ae af),(1,iV a_1),(2,iV b),(3,.func (.func az) ⟨[]⟩ ⟨aj⟩),(8,iV aI)]
def yGL (data:Option Addr) (ae af:Nat) (a_1 b:Int) (az:FuncId) (aj:List Value) (Q:Int→St→Prop):Alt:=⟨Int,.normal,fun t=>zQY data ae af a_1 b az aj t,fun t=>[],fun t σ=>Q t σ⟩
def zYE (data:Option Addr) (ae af:Nat) (a_1 b:Int) (az:FuncId) (aj:List Value):List (Nat × Value):=[]
def zIG (data:Option Addr) (ae af:Nat) (a_1 b:Int) (az:FuncId) (aj:List Value) (Q:St→Prop):Alt:=⟨Unit,(.exit 0),fun t=>zYE data ae af a_1 b az aj,fun t=>[],fun t σ=>Q σ⟩
def yBU (data:Option Addr) (ae af:Nat) (a_1 b:Int) (az:FuncId) (aj:List Value) (aI:Int) (σ:St) (Nx:Int→St→Prop) (Q0:St→Prop):Prop:=yJ Pg (zS Pg) none yBT 53 (zQY data ae af a_1 b az aj aI) [] [yGL data ae af a_1 b az aj Nx,zIG data ae af a_1 b az aj Q0] σ
def yQP (data:Option Addr) (ae af:Nat) (a_1 b:Int) (az:FuncId) (aj:List Value) (aI:Int) (σ:St) (Q0:St→Prop):Prop:=yR Pg (zS Pg) none yBT 53 (zQY data ae af a_1 b az aj aI) [] [zIG data ae af a_1 b az aj Q0] σ
theorem zTZ (hb:∀ k aI σ,Inv k aI σ→yBU data ae af a_1 b az aj aI σ (NX1 Inv k) Q0):∀ k aI σ,Inv k aI σ→yQP data ae af a_1 b az aj aI σ Q0 :=
 yV (ai (wA 0) trivial) hb
noncomputable def yQN:Code:=(Code.part [1,0,0,1,0,0,1,0,0] (zO Pg 80))
def zLY (data:Option Addr) (ae af:Nat) (a_1 b:Int) (az:FuncId) (aj:List Value) (aI aN:Int):List (Nat × Value):=[(0,.slice data ae af),(1,iV a_1),(2,iV b),(3,.func (.func az) ⟨[]⟩ ⟨aj⟩),(8,iV aI),(9,iV aN)]
def xAU (data:Option Addr) (ae af:Nat) (a_1 b:Int) (az:FuncId) (aj:List Value) (aI:Int) (Q:Int→St→Prop):Alt:=⟨Int,.normal,fun t=>zLY data ae af a_1 b az aj aI t,fun t=>[],fun t σ=>Q t σ⟩
def zYD (data:Option Addr) (ae af:Nat) (a_1 b:Int) (az:FuncId) (aj:List Value) (aI:Int):List (Nat × Value):=[(0,.slice data ae af),(1,iV a_1),(2,iV b),(3,.func (.func az) ⟨[]⟩ ⟨aj⟩),(8,iV aI)]
def zNN (data:Option Addr) (ae af:Nat) (a_1 b:Int) (az:FuncId) (aj:List Value) (aI:Int) (Q:St→Prop):Alt:=⟨Unit,(.exit 2),fun t=>zYD data ae af a_1 b az aj aI,fun t=>[],fun t σ=>Q σ⟩
def zQZ (data:Option Addr) (ae af:Nat) (a_1 b:Int) (az:FuncId) (aj:List Value) (aI aN:Int) (σ:St) (Nx:Int→St→Prop) (Q2:St→Prop):Prop:=yJ Pg (zS Pg) none yQN 53 (zLY data ae af a_1 b az aj aI aN) [] [xAU data ae af a_1 b az aj aI Nx,zNN data ae af a_1 b az aj aI Q2] σ
def yQO (data:Option Addr) (ae af:Nat) (a_1 b:Int) (az:FuncId) (aj:List Value) (aI aN:Int) (σ:St) (Q2:St→Prop):Prop:=yR Pg (zS Pg) none yQN 53 (zLY data ae af a_1 b az aj aI aN) [] [zNN data ae af a_1 b az aj aI Q2] σ
theorem yMM {Q2:St→Prop} (hb:∀ k aN σ,Inv k aN σ→zQZ data ae af a_1 b az aj aI aN σ (NX1 Inv k) Q2):∀ k aN σ,Inv k aN σ→yQO data ae af a_1 b az aj aI aN σ Q2 :=
 yV (ai (wA 2) trivial) hb
theorem xAR {Q2:St→Prop} (h1:zB Pg σ 47 (zH ao (Int.toNat aN*3))=some (.agg ⟨rcd nM nR nS⟩)) (h2:zB Pg σ 47 (zH ao (Int.toNat (aN-1)*3))=some (.agg ⟨rcd nN nG nH⟩)) (h3:zD Pg az (.agg ⟨rcd nM nR nS⟩::.agg ⟨rcd nN nG nH⟩::aj) σ (iV nJ) σ) (h4:zL Pg (evL [.pointer (some (zH ao (Int.toNat aN*3))),.agg ⟨rcd nN nG nH⟩]) σ (.store 47 (.tmp 0) (.tmp 1))=some (undef,σP)) (h5:zL Pg (evL [.pointer (some (zH ao (Int.toNat (aN-1)*3))),.agg ⟨rcd nM nR nS⟩]) σP (.store 47 (.tmp 0) (.tmp 1))=some (undef,σJ)) (nx:Nx (aN-1) σJ) (u1:a_1<aN:=by omega) (u2:Ix aN ae:=by omega) (u3:I6 (aN-1):=by omega) (u4:Ix (aN-1) ae:=by omega) (u5:nJ<0:=by omega):zQZ (some ao) ae af a_1 b az aj aI aN σ Nx Q2 :=
 kO 0 (aN-1) [.g,.g,.b true,.g,.g,.g,.g,.i,.l (.agg ⟨rcd nM nR nS⟩),.g,.g,.n (aN-1),.i,.l (.agg ⟨rcd nN nG nH⟩),.c (iV nJ) σ,.b true,.g,.g,.g,.g,.g,.n (aN-1),.g,.g,.n (aN-1),.i,.l (.agg ⟨rcd nN nG nH⟩),.g,.g,.i,.l (.agg ⟨rcd nM nR nS⟩),.i,.e undef σP,.i,.e undef σJ,.g,.n (aN-1),.g] (fun _ f=>(ai (zJ u1) (an6 u2 h1 (w64 u3) u4 h2 h3 (an6 (zJ u5) (w64 u3) (w64 u3) u4 h2 u2 (an6 h1 u2 h4 u4 h5 (w64 u3) f))))) nx
theorem xAQ {Q2:St→Prop} (h1:zB Pg σ 47 (zH ao (Int.toNat aN*3))=some (.agg ⟨rcd nM nR nS⟩)) (h2:zB Pg σ 47 (zH ao (Int.toNat (aN-1)*3))=some (.agg ⟨rcd nN nG nH⟩)) (h3:zD Pg az (.agg ⟨rcd nM nR nS⟩::.agg ⟨rcd nN nG nH⟩::aj) σ (iV nJ) σ) (nx:Q2 σ) (u1:a_1<aN:=by omega) (u2:Ix aN ae:=by omega) (u3:I6 (aN-1):=by omega) (u4:Ix (aN-1) ae:=by omega) (u5:¬ nJ<0:=by omega):zQZ (some ao) ae af a_1 b az aj aI aN σ Nx Q2 :=
 kO 1 () [.g,.g,.b true,.g,.g,.g,.g,.i,.l (.agg ⟨rcd nM nR nS⟩),.g,.g,.n (aN-1),.i,.l (.agg ⟨rcd nN nG nH⟩),.c (iV nJ) σ,.b false,.g] (fun _ f=>(an2 (zJ u1) u2 (an6 h1 (w64 u3) u4 h2 h3 (zM u5) f))) nx
theorem xAP {Q2:St→Prop} (nx:Q2 σ) (u1:¬ a_1<aN:=by omega):zQZ data ae af a_1 b az aj aI aN σ Nx Q2 :=
 kO 1 () [.g,.g,.b false,.g,.g] (fun _ f=>(ai (zM u1) f)) nx
def zYF (data:Option Addr) (ae af:Nat) (a_1 b:Int) (az:FuncId) (aj:List Value) (aI:Int) (σ:St) (Nx:Int→St→Prop) (Q0:St→Prop):Prop:=∀ g:Nat→Value,∃ an,Hid (kAt Pg (zS Pg) none yBT [1,0,0,1,0] (zDP 53 [yGL data ae af a_1 b az aj Nx,zIG data ae af a_1 b az aj Q0]) (.exit 2) ⟨Fm 53 (ov (zYD data ae af a_1 b az aj aI) g),[]⟩ σ an)
theorem xAS {P2:St→Prop} (hL:yQO data ae af a_1 b az aj aI aI σ P2) (k2:∀ σ',P2 σ'→zYF data ae af a_1 b az aj aI σ' Nx Q0) (u1:aI<b:=by omega):yBU data ae af a_1 b az aj aI σ Nx Q0 :=
 zBG [.g,.g,.b true,.g,.g,.lf 53 (zLY data ae af a_1 b az aj aI aI) [zNN data ae af a_1 b az aj aI P2]] (fun g=>kd (ai (zJ u1) (ai (ai tt (ai (arf (zLY data ae af a_1 b az aj aI aI)) hL)) (ai (kz0 k2) trivial))))
theorem yGK (nx:Q0 σ) (u1:¬ aI<b:=by omega):yBU data ae af a_1 b az aj aI σ Nx Q0 :=
 kO 1 () [.g,.g,.b false] (fun _ f=>(ai (zM u1) f)) nx
theorem yML (nx:Nx (aI+1) σ) (u1:I6 (aI+1):=by omega):zYF data ae af a_1 b az aj aI σ Nx Q0 :=
 sF 0 (aI+1) [.g,.n (aI+1),.g] (fun _ f=>(ai (w64 u1) f)) nx
def zYG (data:Option Addr) (ae af:Nat) (a_1 b:Int) (az:FuncId) (aj:List Value) (σ:St) (Q:Value→St→Prop):Prop:=∀ g:Nat→Value,∃ an,Hid (kAt Pg (zS Pg) none (zO Pg 80) [1,0] (kFn Pg 80 Q) (.exit 0) ⟨Fm 53 (ov (zYE data ae af a_1 b az aj) g),[]⟩ σ an)
theorem yQM (hL:yQP data ae af a_1 b az aj (a_1+1) σ P0) (k0:∀ σ',P0 σ'→zYG data ae af a_1 b az aj σ' Q) (u1:I6 (a_1+1):=by omega):zI Pg 80 [.slice data ae af,iV a_1,iV b,.func (.func az) ⟨[]⟩ ⟨aj⟩] σ Q :=
 let s1:=zQY data ae af a_1 b az aj (a_1+1);zF [.g,.n (a_1+1),.g,.lf 53 s1 [zIG data ae af a_1 b az aj P0]] (kd (ai (w64 u1) (ai (ai tt (ai (arf s1) hL)) (ai (kz0 k0) trivial))))
theorem zTY (nx:Q (.tuple ⟨[]⟩) σ):zYG data ae af a_1 b az aj σ Q :=
 sK [] nx
noncomputable def yDY:Code:=(Code.part [1,0,0] (zO Pg 95))
def zFR (data:Option Addr) (ae af:Nat) (hi first:Int) (az:FuncId) (aj:List Value) (aB:Int):List (Nat × Value):=[(0,.slice data ae af),(2,iV hi),(3,iV first),(4,.func (.func az) ⟨[]⟩ ⟨aj⟩),(10,iV aB)]
def ySH (data:Option Addr) (ae af:Nat) (hi first:Int) (az:FuncId) (aj:List Value) (Q:Int→St→Prop):Alt:=⟨Int,.normal,fun t=>zFR data ae af hi first az aj t,fun t=>[],fun t σ=>Q t σ⟩
def zRX (data:Option Addr) (ae af:Nat) (hi first:Int) (az:FuncId) (aj:List Value):List (Nat × Value):=[]
def zJS (data:Option Addr) (ae af:Nat) (hi first:Int) (az:FuncId) (aj:List Value) (Q:St→Prop):Alt:=⟨Unit,(.exit 0),fun t=>zRX data ae af hi first az aj,fun t=>[],fun t σ=>Q σ⟩
def zRW (data:Option Addr) (ae af:Nat) (hi first:Int) (az:FuncId) (aj:List Value):List (Nat × Value):=[]
def zJR (data:Option Addr) (ae af:Nat) (hi first:Int) (az:FuncId) (aj:List Value) (Q:St→Prop):Alt:=⟨Unit,.ret,fun t=>zRW data ae af hi first az aj,fun t=>[],fun t σ=>Q σ⟩
def zAP (data:Option Addr) (ae af:Nat) (hi first:Int) (az:FuncId) (aj:List Value) (aB:Int) (σ:St) (Nx:Int→St→Prop) (Q0:St→Prop) (Qr:St→Prop):Prop:=yJ Pg (zS Pg) none yDY 82 (zFR data ae af hi first az aj aB) [] [ySH data ae af hi first az aj Nx,zJS data ae af hi first az aj Q0,zJR data ae af hi first az aj Qr] σ
def yDZ (data:Option Addr) (ae af:Nat) (hi first:Int) (az:FuncId) (aj:List Value) (aB:Int) (σ:St) (Q0:St→Prop) (Qr:St→Prop):Prop:=yR Pg (zS Pg) none yDY 82 (zFR data ae af hi first az aj aB) [] [zJS data ae af hi first az aj Q0,zJR data ae af hi first az aj Qr] σ
theorem yDX {Qr:St→Prop} (hb:∀ k aB σ,Inv k aB σ→zAP data ae af hi first az aj aB σ (NX1 Inv k) Q0 Qr):∀ k aB σ,Inv k aB σ→yDZ data ae af hi first az aj aB σ Q0 Qr :=
 yV (ai (wA 0) (ai zAQ trivial)) hb
theorem ySG {Qr:St→Prop} (nx:Q0 σ) (u1:I6 (2*aB):=by omega) (u2:I6 ((2*aB)+1):=by omega) (u3:hi≤((2*aB)+1):=by omega):zAP data ae af hi first az aj aB σ Nx Q0 Qr :=
 kO 1 () [.g,.n (2*aB),.n ((2*aB)+1),.g,.g,.g,.b true] (fun _ f=>(an3 (w64 u1) (w64 u2) (zX u3) f)) nx
theorem ySF {Qr:St→Prop} (h1:zB Pg σ 47 (zH ao (Int.toNat (first+((2*aB)+1))*3))=some (.agg ⟨rcd nI nE nA⟩)) (h2:zB Pg σ 47 (zH ao (Int.toNat ((first+((2*aB)+1))+1)*3))=some (.agg ⟨rcd nB nD nF⟩)) (h3:zD Pg az (.agg ⟨rcd nI nE nA⟩::.agg ⟨rcd nB nD nF⟩::aj) σ (iV nK) σ) (h4:zB Pg σ 47 (zH ao (Int.toNat (first+aB)*3))=some (.agg ⟨rcd nAB nBB nCB⟩)) (h5:zB Pg σ 47 (zH ao (Int.toNat (first+(((2*aB)+1)+1))*3))=some (.agg ⟨rcd nMB nEC nFC⟩)) (h6:zD Pg az (.agg ⟨rcd nAB nBB nCB⟩::.agg ⟨rcd nMB nEC nFC⟩::aj) σ (iV nHC) σ) (h7:zL Pg (evL [.pointer (some (zH ao (Int.toNat (first+aB)*3))),.agg ⟨rcd nMB nEC nFC⟩]) σ (.store 47 (.tmp 0) (.tmp 1))=some (undef,σY)) (h8:zL Pg (evL [.pointer (some (zH ao (Int.toNat (first+(((2*aB)+1)+1))*3))),.agg ⟨rcd nAB nBB nCB⟩]) σY (.store 47 (.tmp 0) (.tmp 1))=some (undef,σZ)) (nx:Nx (((2*aB)+1)+1) σZ) (u1:I6 (2*aB):=by omega) (u2:I6 ((2*aB)+1):=by omega) (u3:¬ hi≤((2*aB)+1):=by omega) (u4:I6 (((2*aB)+1)+1):=by omega) (u5:(((2*aB)+1)+1)<hi:=by omega) (u6:I6 (first+((2*aB)+1)):=by omega) (u7:Ix (first+((2*aB)+1)) ae:=by omega) (u8:I6 ((first+((2*aB)+1))+1):=by omega) (u9:Ix ((first+((2*aB)+1))+1) ae:=by omega) (u10:nK<0:=by omega) (u11:I6 (first+aB):=by omega) (u12:Ix (first+aB) ae:=by omega) (u13:I6 (first+(((2*aB)+1)+1)):=by omega) (u14:Ix (first+(((2*aB)+1)+1)) ae:=by omega) (u15:nHC<0:=by omega):zAP (some ao) ae af hi first az aj aB σ Nx Q0 Qr :=
 let s1:=(2*aB)+1;let s2:=first+(s1+1);let s3:=first+aB;let s4:=first+s1;kO 0 (s1+1) [.g,.n (2*aB),.n s1,.g,.g,.g,.b false,.g,.n (s1+1),.g,.b true,.g,.g,.g,.g,.g,.n s4,.i,.l (.agg ⟨rcd nI nE nA⟩),.g,.g,.g,.n s4,.n (s4+1),.i,.l (.agg ⟨rcd nB nD nF⟩),.c (iV nK) σ,.b true,.g,.g,.n (s1+1),.g,.g,.g,.g,.g,.n s3,.i,.l (.agg ⟨rcd nAB nBB nCB⟩),.g,.g,.g,.n s2,.i,.l (.agg ⟨rcd nMB nEC nFC⟩),.c (iV nHC) σ,.b true,.g,.g,.g,.g,.n s3,.g,.g,.g,.n s2,.g,.g,.g,.n s2,.i,.l (.agg ⟨rcd nMB nEC nFC⟩),.g,.g,.g,.n s3,.i,.l (.agg ⟨rcd nAB nBB nCB⟩),.i,.e undef σY,.i,.e undef σZ,.g,.g] (fun _ f=>(an5 (w64 u1) (w64 u2) (yB u3) (w64 u4) (zJ u5) (an6 (w64 u6) u7 h1 (w64 u6) (w64 u8) u9 (an6 h2 h3 (zJ u10) (w64 u4) (w64 u11) u12 (an6 h4 (w64 u13) u14 h5 h6 (zJ u15) (an6 (w64 u11) (w64 u13) (w64 u13) u14 h5 (w64 u11) (an6 u12 h4 u12 h7 u14 h8 f))))))) nx
theorem ySE {Qr:St→Prop} (h1:zB Pg σ 47 (zH ao (Int.toNat (first+((2*aB)+1))*3))=some (.agg ⟨rcd nI nE nA⟩)) (h2:zB Pg σ 47 (zH ao (Int.toNat ((first+((2*aB)+1))+1)*3))=some (.agg ⟨rcd nB nD nF⟩)) (h3:zD Pg az (.agg ⟨rcd nI nE nA⟩::.agg ⟨rcd nB nD nF⟩::aj) σ (iV nK) σ) (h4:zB Pg σ 47 (zH ao (Int.toNat (first+aB)*3))=some (.agg ⟨rcd nAB nBB nCB⟩)) (h5:zB Pg σ 47 (zH ao (Int.toNat (first+(((2*aB)+1)+1))*3))=some (.agg ⟨rcd nMB nEC nFC⟩)) (h6:zD Pg az (.agg ⟨rcd nAB nBB nCB⟩::.agg ⟨rcd nMB nEC nFC⟩::aj) σ (iV nHC) σ) (nx:Qr σ) (u1:I6 (2*aB):=by omega) (u2:I6 ((2*aB)+1):=by omega) (u3:¬ hi≤((2*aB)+1):=by omega) (u4:I6 (((2*aB)+1)+1):=by omega) (u5:(((2*aB)+1)+1)<hi:=by omega) (u6:I6 (first+((2*aB)+1)):=by omega) (u7:Ix (first+((2*aB)+1)) ae:=by omega) (u8:I6 ((first+((2*aB)+1))+1):=by omega) (u9:Ix ((first+((2*aB)+1))+1) ae:=by omega) (u10:nK<0:=by omega) (u11:I6 (first+aB):=by omega) (u12:Ix (first+aB) ae:=by omega) (u13:I6 (first+(((2*aB)+1)+1)):=by omega) (u14:Ix (first+(((2*aB)+1)+1)) ae:=by omega) (u15:¬ nHC<0:=by omega):zAP (some ao) ae af hi first az aj aB σ Nx Q0 Qr :=
 let s1:=(2*aB)+1;let s2:=first+s1;kO 2 () [.g,.n (2*aB),.n s1,.g,.g,.g,.b false,.g,.n (s1+1),.g,.b true,.g,.g,.g,.g,.g,.n s2,.i,.l (.agg ⟨rcd nI nE nA⟩),.g,.g,.g,.n s2,.n (s2+1),.i,.l (.agg ⟨rcd nB nD nF⟩),.c (iV nK) σ,.b true,.g,.g,.n (s1+1),.g,.g,.g,.g,.g,.n (first+aB),.i,.l (.agg ⟨rcd nAB nBB nCB⟩),.g,.g,.g,.n (first+(s1+1)),.i,.l (.agg ⟨rcd nMB nEC nFC⟩),.c (iV nHC) σ,.b false,.g] (fun _ f=>(an5 (w64 u1) (w64 u2) (yB u3) (w64 u4) (zJ u5) (an6 (w64 u6) u7 h1 (w64 u6) (w64 u8) u9 (an6 h2 h3 (zJ u10) (w64 u4) (w64 u11) u12 (an6 h4 (w64 u13) u14 h5 h6 (zM u15) f))))) nx
theorem ySD {Qr:St→Prop} (h1:zB Pg σ 47 (zH ao (Int.toNat (first+((2*aB)+1))*3))=some (.agg ⟨rcd nI nE nA⟩)) (h2:zB Pg σ 47 (zH ao (Int.toNat ((first+((2*aB)+1))+1)*3))=some (.agg ⟨rcd nB nD nF⟩)) (h3:zD Pg az (.agg ⟨rcd nI nE nA⟩::.agg ⟨rcd nB nD nF⟩::aj) σ (iV nK) σ) (h4:zB Pg σ 47 (zH ao (Int.toNat (first+aB)*3))=some (.agg ⟨rcd nAB nBB nCB⟩)) (h5:zD Pg az (.agg ⟨rcd nAB nBB nCB⟩::.agg ⟨rcd nI nE nA⟩::aj) σ (iV nMB) σ) (h6:zL Pg (evL [.pointer (some (zH ao (Int.toNat (first+aB)*3))),.agg ⟨rcd nI nE nA⟩]) σ (.store 47 (.tmp 0) (.tmp 1))=some (undef,σK)) (h7:zL Pg (evL [.pointer (some (zH ao (Int.toNat (first+((2*aB)+1))*3))),.agg ⟨rcd nAB nBB nCB⟩]) σK (.store 47 (.tmp 0) (.tmp 1))=some (undef,σAB)) (nx:Nx ((2*aB)+1) σAB) (u1:I6 (2*aB):=by omega) (u2:I6 ((2*aB)+1):=by omega) (u3:¬ hi≤((2*aB)+1):=by omega) (u4:I6 (((2*aB)+1)+1):=by omega) (u5:(((2*aB)+1)+1)<hi:=by omega) (u6:I6 (first+((2*aB)+1)):=by omega) (u7:Ix (first+((2*aB)+1)) ae:=by omega) (u8:I6 ((first+((2*aB)+1))+1):=by omega) (u9:Ix ((first+((2*aB)+1))+1) ae:=by omega) (u10:¬ nK<0:=by omega) (u11:I6 (first+aB):=by omega) (u12:Ix (first+aB) ae:=by omega) (u13:nMB<0:=by omega):zAP (some ao) ae af hi first az aj aB σ Nx Q0 Qr :=
 let s2:=(2*aB)+1;let s1:=first+s2;let s3:=first+aB;kO 0 s2 [.g,.n (2*aB),.n s2,.g,.g,.g,.b false,.g,.n (s2+1),.g,.b true,.g,.g,.g,.g,.g,.n s1,.i,.l (.agg ⟨rcd nI nE nA⟩),.g,.g,.g,.n s1,.n (s1+1),.i,.l (.agg ⟨rcd nB nD nF⟩),.c (iV nK) σ,.b false,.g,.g,.g,.g,.g,.n s3,.i,.l (.agg ⟨rcd nAB nBB nCB⟩),.g,.g,.g,.n s1,.i,.l (.agg ⟨rcd nI nE nA⟩),.c (iV nMB) σ,.b true,.g,.g,.g,.g,.n s3,.g,.g,.g,.n s1,.g,.g,.g,.n s1,.i,.l (.agg ⟨rcd nI nE nA⟩),.g,.g,.g,.n s3,.i,.l (.agg ⟨rcd nAB nBB nCB⟩),.i,.e undef σK,.i,.e undef σAB,.g,.g] (fun _ f=>(an4 (w64 u1) (w64 u2) (yB u3) (w64 u4) (an6 (zJ u5) (w64 u6) u7 h1 (w64 u6) (w64 u8) (an6 u9 h2 h3 (zM u10) (w64 u11) u12 (an6 h4 (w64 u6) u7 h1 h5 (zJ u13) (an6 (w64 u11) (w64 u6) (w64 u6) u7 h1 (w64 u11) (an6 u12 h4 u12 h6 u7 h7 f))))))) nx
theorem ySC {Qr:St→Prop} (h1:zB Pg σ 47 (zH ao (Int.toNat (first+((2*aB)+1))*3))=some (.agg ⟨rcd nI nE nA⟩)) (h2:zB Pg σ 47 (zH ao (Int.toNat ((first+((2*aB)+1))+1)*3))=some (.agg ⟨rcd nB nD nF⟩)) (h3:zD Pg az (.agg ⟨rcd nI nE nA⟩::.agg ⟨rcd nB nD nF⟩::aj) σ (iV nK) σ) (h4:zB Pg σ 47 (zH ao (Int.toNat (first+aB)*3))=some (.agg ⟨rcd nAB nBB nCB⟩)) (h5:zD Pg az (.agg ⟨rcd nAB nBB nCB⟩::.agg ⟨rcd nI nE nA⟩::aj) σ (iV nMB) σ) (nx:Qr σ) (u1:I6 (2*aB):=by omega) (u2:I6 ((2*aB)+1):=by omega) (u3:¬ hi≤((2*aB)+1):=by omega) (u4:I6 (((2*aB)+1)+1):=by omega) (u5:(((2*aB)+1)+1)<hi:=by omega) (u6:I6 (first+((2*aB)+1)):=by omega) (u7:Ix (first+((2*aB)+1)) ae:=by omega) (u8:I6 ((first+((2*aB)+1))+1):=by omega) (u9:Ix ((first+((2*aB)+1))+1) ae:=by omega) (u10:¬ nK<0:=by omega) (u11:I6 (first+aB):=by omega) (u12:Ix (first+aB) ae:=by omega) (u13:¬ nMB<0:=by omega):zAP (some ao) ae af hi first az aj aB σ Nx Q0 Qr :=
 let s2:=2*aB;let s1:=first+(s2+1);kO 2 () [.g,.n s2,.n (s2+1),.g,.g,.g,.b false,.g,.n ((s2+1)+1),.g,.b true,.g,.g,.g,.g,.g,.n s1,.i,.l (.agg ⟨rcd nI nE nA⟩),.g,.g,.g,.n s1,.n (s1+1),.i,.l (.agg ⟨rcd nB nD nF⟩),.c (iV nK) σ,.b false,.g,.g,.g,.g,.g,.n (first+aB),.i,.l (.agg ⟨rcd nAB nBB nCB⟩),.g,.g,.g,.n s1,.i,.l (.agg ⟨rcd nI nE nA⟩),.c (iV nMB) σ,.b false,.g] (fun _ f=>(an4 (w64 u1) (w64 u2) (yB u3) (w64 u4) (an6 (zJ u5) (w64 u6) u7 h1 (w64 u6) (w64 u8) (an6 u9 h2 h3 (zM u10) (w64 u11) u12 (an6 h4 (w64 u6) u7 h1 h5 (zM u13) f))))) nx
theorem ySB {Qr:St→Prop} (h1:zB Pg σ 47 (zH ao (Int.toNat (first+aB)*3))=some (.agg ⟨rcd nI nE nA⟩)) (h2:zB Pg σ 47 (zH ao (Int.toNat (first+((2*aB)+1))*3))=some (.agg ⟨rcd nB nD nF⟩)) (h3:zD Pg az (.agg ⟨rcd nI nE nA⟩::.agg ⟨rcd nB nD nF⟩::aj) σ (iV nK) σ) (h4:zL Pg (evL [.pointer (some (zH ao (Int.toNat (first+aB)*3))),.agg ⟨rcd nB nD nF⟩]) σ (.store 47 (.tmp 0) (.tmp 1))=some (undef,σC)) (h5:zL Pg (evL [.pointer (some (zH ao (Int.toNat (first+((2*aB)+1))*3))),.agg ⟨rcd nI nE nA⟩]) σC (.store 47 (.tmp 0) (.tmp 1))=some (undef,σBB)) (nx:Nx ((2*aB)+1) σBB) (u1:I6 (2*aB):=by omega) (u2:I6 ((2*aB)+1):=by omega) (u3:¬ hi≤((2*aB)+1):=by omega) (u4:I6 (((2*aB)+1)+1):=by omega) (u5:¬ (((2*aB)+1)+1)<hi:=by omega) (u6:I6 (first+aB):=by omega) (u7:Ix (first+aB) ae:=by omega) (u8:I6 (first+((2*aB)+1)):=by omega) (u9:Ix (first+((2*aB)+1)) ae:=by omega) (u10:nK<0:=by omega):zAP (some ao) ae af hi first az aj aB σ Nx Q0 Qr :=
 let s1:=(2*aB)+1;let s2:=first+aB;let s3:=first+s1;kO 0 s1 [.g,.n (2*aB),.n s1,.g,.g,.g,.b false,.g,.n (s1+1),.g,.b false,.g,.g,.g,.g,.g,.g,.n s2,.i,.l (.agg ⟨rcd nI nE nA⟩),.g,.g,.g,.n s3,.i,.l (.agg ⟨rcd nB nD nF⟩),.c (iV nK) σ,.b true,.g,.g,.g,.g,.n s2,.g,.g,.g,.n s3,.g,.g,.g,.n s3,.i,.l (.agg ⟨rcd nB nD nF⟩),.g,.g,.g,.n s2,.i,.l (.agg ⟨rcd nI nE nA⟩),.i,.e undef σC,.i,.e undef σBB,.g,.g] (fun _ f=>(ai (w64 u1) (an6 (w64 u2) (yB u3) (w64 u4) (zM u5) (w64 u6) u7 (an6 h1 (w64 u8) u9 h2 h3 (zJ u10) (an6 (w64 u6) (w64 u8) (w64 u8) u9 h2 (w64 u6) (an6 u7 h1 u7 h4 u9 h5 f)))))) nx
theorem ySA {Qr:St→Prop} (h1:zB Pg σ 47 (zH ao (Int.toNat (first+aB)*3))=some (.agg ⟨rcd nI nE nA⟩)) (h2:zB Pg σ 47 (zH ao (Int.toNat (first+((2*aB)+1))*3))=some (.agg ⟨rcd nB nD nF⟩)) (h3:zD Pg az (.agg ⟨rcd nI nE nA⟩::.agg ⟨rcd nB nD nF⟩::aj) σ (iV nK) σ) (nx:Qr σ) (u1:I6 (2*aB):=by omega) (u2:I6 ((2*aB)+1):=by omega) (u3:¬ hi≤((2*aB)+1):=by omega) (u4:I6 (((2*aB)+1)+1):=by omega) (u5:¬ (((2*aB)+1)+1)<hi:=by omega) (u6:I6 (first+aB):=by omega) (u7:Ix (first+aB) ae:=by omega) (u8:I6 (first+((2*aB)+1)):=by omega) (u9:Ix (first+((2*aB)+1)) ae:=by omega) (u10:¬ nK<0:=by omega):zAP (some ao) ae af hi first az aj aB σ Nx Q0 Qr :=
 let s1:=(2*aB)+1;kO 2 () [.g,.n (2*aB),.n s1,.g,.g,.g,.b false,.g,.n (s1+1),.g,.b false,.g,.g,.g,.g,.g,.g,.n (first+aB),.i,.l (.agg ⟨rcd nI nE nA⟩),.g,.g,.g,.n (first+s1),.i,.l (.agg ⟨rcd nB nD nF⟩),.c (iV nK) σ,.b false,.g] (fun _ f=>(ai (w64 u1) (an6 (w64 u2) (yB u3) (w64 u4) (zM u5) (w64 u6) u7 (an6 h1 (w64 u8) u9 h2 h3 (zM u10) f)))) nx
def zRZ (data:Option Addr) (ae af:Nat) (hi first:Int) (az:FuncId) (aj:List Value) (σ:St) (Q:Value→St→Prop):Prop:=∀ g:Nat→Value,∃ an,Hid (kAt Pg (zS Pg) none (zO Pg 95) [1,0] (kFn Pg 95 Q) (.exit 0) ⟨Fm 82 (ov (zRX data ae af hi first az aj) g),[]⟩ σ an)
def zRY (data:Option Addr) (ae af:Nat) (hi first:Int) (az:FuncId) (aj:List Value) (σ:St) (Q:Value→St→Prop):Prop:=∀ g:Nat→Value,∃ an,Hid (kAt Pg (zS Pg) none (zO Pg 95) [1,0] (kFn Pg 95 Q) .ret ⟨Fm 82 (ov (zRW data ae af hi first az aj) g),[]⟩ σ an)
theorem yXX (hL:yDZ data ae af hi first az aj lo_1 σ P0 Pr) (k0:∀ σ',P0 σ'→zRZ data ae af hi first az aj σ' Q) (kr:∀ σ',Pr σ'→zRY data ae af hi first az aj σ' Q):zI Pg 95 [.slice data ae af,iV lo_1,iV hi,iV first,.func (.func az) ⟨[]⟩ ⟨aj⟩] σ Q :=
 zF [.g,.g,.lf 82 (zFR data ae af hi first az aj lo_1) [zJS data ae af hi first az aj P0,zJR data ae af hi first az aj Pr]] (kd (ai (ai tt (ai (arf (zFR data ae af hi first az aj lo_1)) hL)) (ai (kz0 k0) (ai (kz0 kr) trivial))))
theorem yDW (nx:Q (.tuple ⟨[]⟩) σ):zRZ data ae af hi first az aj σ Q :=
 sK [] nx
theorem yDV (nx:Q (.tuple ⟨[]⟩) σ):zRY data ae af hi first az aj σ Q :=
 sK [] nx
noncomputable def yGW:Code:=(Code.part [1,1,1,0,1,0,0] (zO Pg 81))
def zMF (data:Option Addr) (ae af:Nat) (az:FuncId) (aj:List Value) (a_1 kB aQ:Int):List (Nat × Value):=[(0,.slice data ae af),(3,.func (.func az) ⟨[]⟩ ⟨aj⟩),(8,iV a_1),(9,iV 0),(10,iV kB),(11,iV aQ)]
def yVK (data:Option Addr) (ae af:Nat) (az:FuncId) (aj:List Value) (a_1 kB:Int) (Q:Int→St→Prop):Alt:=⟨Int,.normal,fun t=>zMF data ae af az aj a_1 kB t,fun t=>[],fun t σ=>Q t σ⟩
def zUF (data:Option Addr) (ae af:Nat) (az:FuncId) (aj:List Value) (a_1 kB:Int):List (Nat × Value):=[(0,.slice data ae af),(3,.func (.func az) ⟨[]⟩ ⟨aj⟩),(8,iV a_1),(9,iV 0),(10,iV kB)]
def zKO (data:Option Addr) (ae af:Nat) (az:FuncId) (aj:List Value) (a_1 kB:Int) (Q:St→Prop):Alt:=⟨Unit,(.exit 0),fun t=>zUF data ae af az aj a_1 kB,fun t=>[],fun t σ=>Q σ⟩
def zUJ (data:Option Addr) (ae af:Nat) (az:FuncId) (aj:List Value) (a_1 kB aQ:Int) (σ:St) (Nx:Int→St→Prop) (Q0:St→Prop):Prop:=yJ Pg (zS Pg) none yGW 60 (zMF data ae af az aj a_1 kB aQ) [] [yVK data ae af az aj a_1 kB Nx,zKO data ae af az aj a_1 kB Q0] σ
def yGY (data:Option Addr) (ae af:Nat) (az:FuncId) (aj:List Value) (a_1 kB aQ:Int) (σ:St) (Q0:St→Prop):Prop:=yR Pg (zS Pg) none yGW 60 (zMF data ae af az aj a_1 kB aQ) [] [zKO data ae af az aj a_1 kB Q0] σ
theorem yGU (hb:∀ k aQ σ,Inv k aQ σ→zUJ data ae af az aj a_1 kB aQ σ (NX1 Inv k) Q0):∀ k aQ σ,Inv k aQ σ→yGY data ae af az aj a_1 kB aQ σ Q0 :=
 yV (ai (wA 0) trivial) hb
theorem yVI (h1:zD Pg 95 [.slice data ae af,iV aQ,iV kB,iV a_1,.func (.func az) ⟨[]⟩ ⟨aj⟩] σ (.tuple ⟨[]⟩) σL) (nx:Nx (aQ-1) σL) (u1:0≤aQ:=by omega) (u2:I6 (aQ-1):=by omega):zUJ data ae af az aj a_1 kB aQ σ Nx Q0 :=
 kO 0 (aQ-1) [.g,.b true,.g,.g,.g,.g,.g,.c (.tuple ⟨[]⟩) σL,.g,.n (aQ-1),.g] (fun _ f=>(an3 (zX u1) h1 (w64 u2) f)) nx
theorem yVH (nx:Q0 σ) (u1:¬ 0≤aQ:=by omega):zUJ data ae af az aj a_1 kB aQ σ Nx Q0 :=
 kO 1 () [.g,.b false] (fun _ f=>(ai (yB u1) f)) nx
def zUH (data:Option Addr) (ae af:Nat) (az:FuncId) (aj:List Value) (a_1 kB:Int) (σ:St) (Q:Value→St→Prop):Prop:=∀ g:Nat→Value,∃ an,Hid (kAt Pg (zS Pg) none (zO Pg 81) [1,1,1,0,1,0] (kFn Pg 81 Q) (.exit 0) ⟨Fm 60 (ov (zUF data ae af az aj a_1 kB) g),[]⟩ σ an)
theorem xBI (h1:IntKind.wrap .i64 (Int.tdiv ((b-a_1)-1) 2)=Int.tdiv ((b-a_1)-1) 2) (hL:yGY data ae af az aj a_1 (b-a_1) (Int.tdiv ((b-a_1)-1) 2) σ P0) (k0:∀ σ',P0 σ'→zUH data ae af az aj a_1 (b-a_1) σ' Q) (u1:I6 (b-a_1):=by omega) (u2:I6 ((b-a_1)-1):=by omega):zI Pg 81 [.slice data ae af,iV a_1,iV b,.func (.func az) ⟨[]⟩ ⟨aj⟩] σ Q :=
 let s1:=zMF data ae af az aj a_1 (b-a_1) (Int.tdiv ((b-a_1)-1) 2);zF [.g,.g,.g,.g,.g,.n (b-a_1),.g,.g,.n ((b-a_1)-1),.n (Int.tdiv ((b-a_1)-1) 2),.g,.lf 60 s1 [zKO data ae af az aj a_1 (b-a_1) P0]] (kd (an3 (w64 u1) (w64 u2) h1 (ai (ai tt (ai (arf s1) hL)) (ai (kz0 k0) trivial))))
noncomputable def yGV:Code:=(Code.part [1,1,1,1,1,0,0] (zO Pg 81))
def zME (data:Option Addr) (ae af:Nat) (az:FuncId) (aj:List Value) (a_1 dw:Int):List (Nat × Value):=[(0,.slice data ae af),(3,.func (.func az) ⟨[]⟩ ⟨aj⟩),(8,iV a_1),(9,iV 0),(12,iV dw)]
def yVJ (data:Option Addr) (ae af:Nat) (az:FuncId) (aj:List Value) (a_1:Int) (Q:Int→St→Prop):Alt:=⟨Int,.normal,fun t=>zME data ae af az aj a_1 t,fun t=>[],fun t σ=>Q t σ⟩
def zUE (data:Option Addr) (ae af:Nat) (az:FuncId) (aj:List Value) (a_1:Int):List (Nat × Value):=[]
def zKN (data:Option Addr) (ae af:Nat) (az:FuncId) (aj:List Value) (a_1:Int) (Q:St→Prop):Alt:=⟨Unit,(.exit 2),fun t=>zUE data ae af az aj a_1,fun t=>[],fun t σ=>Q σ⟩
def zUI (data:Option Addr) (ae af:Nat) (az:FuncId) (aj:List Value) (a_1 dw:Int) (σ:St) (Nx:Int→St→Prop) (Q2:St→Prop):Prop:=yJ Pg (zS Pg) none yGV 60 (zME data ae af az aj a_1 dw) [] [yVJ data ae af az aj a_1 Nx,zKN data ae af az aj a_1 Q2] σ
def yGX (data:Option Addr) (ae af:Nat) (az:FuncId) (aj:List Value) (a_1 dw:Int) (σ:St) (Q2:St→Prop):Prop:=yR Pg (zS Pg) none yGV 60 (zME data ae af az aj a_1 dw) [] [zKN data ae af az aj a_1 Q2] σ
theorem yGT {Q2:St→Prop} (hb:∀ k dw σ,Inv k dw σ→zUI data ae af az aj a_1 dw σ (NX1 Inv k) Q2):∀ k dw σ,Inv k dw σ→yGX data ae af az aj a_1 dw σ Q2 :=
 yV (ai (wA 2) trivial) hb
theorem yVG {Q2:St→Prop} (h1:zB Pg σ 47 (zH ao (Int.toNat (a_1+dw)*3))=some (.agg ⟨rcd nM nR nS⟩)) (h2:zB Pg σ 47 (zH ao (Int.toNat a_1*3))=some (.agg ⟨rcd nN nG nH⟩)) (h3:zL Pg (evL [.pointer (some (zH ao (Int.toNat a_1*3))),.agg ⟨rcd nM nR nS⟩]) σ (.store 47 (.tmp 0) (.tmp 1))=some (undef,σCB)) (h4:zL Pg (evL [.pointer (some (zH ao (Int.toNat (a_1+dw)*3))),.agg ⟨rcd nN nG nH⟩]) σCB (.store 47 (.tmp 0) (.tmp 1))=some (undef,σP)) (h5:zD Pg 95 [.slice (some ao) ae af,iV 0,iV dw,iV a_1,.func (.func az) ⟨[]⟩ ⟨aj⟩] σP (.tuple ⟨[]⟩) σJ) (nx:Nx (dw-1) σJ) (u1:0≤dw:=by omega) (u2:I6 (a_1+dw):=by omega) (u3:Ix (a_1+dw) ae:=by omega) (u4:Ix a_1 ae:=by omega) (u5:I6 (dw-1):=by omega):zUI (some ao) ae af az aj a_1 dw σ Nx Q2 :=
 kO 0 (dw-1) [.g,.b true,.g,.g,.g,.g,.g,.n (a_1+dw),.g,.g,.g,.n (a_1+dw),.i,.l (.agg ⟨rcd nM nR nS⟩),.g,.g,.i,.l (.agg ⟨rcd nN nG nH⟩),.i,.e undef σCB,.i,.e undef σP,.g,.g,.g,.g,.g,.c (.tuple ⟨[]⟩) σJ,.g,.n (dw-1),.g] (fun _ f=>(ai (zX u1) (an6 (w64 u2) (w64 u2) u3 h1 u4 h2 (an6 u4 h3 u3 h4 h5 (w64 u5) f)))) nx
theorem yVF {Q2:St→Prop} (nx:Q2 σ) (u1:¬ 0≤dw:=by omega):zUI data ae af az aj a_1 dw σ Nx Q2 :=
 kO 1 () [.g,.b false] (fun _ f=>(ai (yB u1) f)) nx
def zUG (data:Option Addr) (ae af:Nat) (az:FuncId) (aj:List Value) (a_1:Int) (σ:St) (Q:Value→St→Prop):Prop:=∀ g:Nat→Value,∃ an,Hid (kAt Pg (zS Pg) none (zO Pg 81) [1,1,1,1,1,0] (kFn Pg 81 Q) (.exit 2) ⟨Fm 60 (ov (zUE data ae af az aj a_1) g),[]⟩ σ an)
theorem yGS {P2:St→Prop} (hL:yGX data ae af az aj a_1 (kB-1) σ P2) (k2:∀ σ',P2 σ'→zUG data ae af az aj a_1 σ' Q) (u1:I6 (kB-1):=by omega):zUH data ae af az aj a_1 kB σ Q :=
 let s1:=zME data ae af az aj a_1 (kB-1);sK [.g,.n (kB-1),.g,.lf 60 s1 [zKN data ae af az aj a_1 P2]] (ai (w64 u1) (ai (ai tt (ai (arf s1) hL)) (ai (kz0 k2) trivial)))
theorem yGR (nx:Q (.tuple ⟨[]⟩) σ):zUG data ae af az aj a_1 σ Q :=
 sK [] nx
noncomputable def zIC:Code:=(Code.part [1,1,1,0,0,0] (zO Pg 86))
def zIB (ao:Addr) (ae af:Nat) (a_1:Int) (az:FuncId) (aj:List Value) (aQ aT:Int):List (Nat × Value):=[(0,.slice (some ao) ae af),(1,iV a_1),(4,.func (.func az) ⟨[]⟩ ⟨aj⟩),(11,iV aQ),(12,iV aT)]
def zKC (ao:Addr) (ae af:Nat) (a_1:Int) (az:FuncId) (aj:List Value) (Q:Int→Int→St→Prop):Alt:=⟨Int × Int,.normal,fun t=>zIB ao ae af a_1 az aj t.1 t.2,fun t=>[],fun t σ=>Q t.1 t.2 σ⟩
def zPM (ao:Addr) (ae af:Nat) (a_1:Int) (az:FuncId) (aj:List Value) (aQ:Int):List (Nat × Value):=[(11,iV aQ)]
def zAT (ao:Addr) (ae af:Nat) (a_1:Int) (az:FuncId) (aj:List Value) (Q:Int→St→Prop):Alt:=⟨Int,(.exit 0),fun t=>zPM ao ae af a_1 az aj t,fun t=>[],fun t σ=>Q t σ⟩
def zXT (ao:Addr) (ae af:Nat) (a_1:Int) (az:FuncId) (aj:List Value) (aQ aT:Int) (σ:St) (Nx:Int→Int→St→Prop) (Q0:Int→St→Prop):Prop:=yJ Pg (zS Pg) none zIC 90 (zIB ao ae af a_1 az aj aQ aT) [] [zKC ao ae af a_1 az aj Nx,zAT ao ae af a_1 az aj Q0] σ
def zXS (ao:Addr) (ae af:Nat) (a_1:Int) (az:FuncId) (aj:List Value) (aQ aT:Int) (σ:St) (Q0:Int→St→Prop):Prop:=yR Pg (zS Pg) none zIC 90 (zIB ao ae af a_1 az aj aQ aT) [] [zAT ao ae af a_1 az aj Q0] σ
theorem yBI {Inv:Nat→Int→Int→St→Prop} {Q0:Int→St→Prop} (hb:∀ k aQ aT σ,Inv k aQ aT σ→zXT ao ae af a_1 az aj aQ aT σ (NX2 Inv k) Q0):∀ k aQ aT σ,Inv k aQ aT σ→zXS ao ae af a_1 az aj aQ aT σ Q0 :=
 zNL (ai (wA 0) trivial) hb
noncomputable def zXP:Code:=(Code.part [1,1,1,0,0,0,0,0,0,0] (zO Pg 86))
def zDB (ao:Addr) (ae af:Nat) (a_1:Int) (az:FuncId) (aj:List Value) (aT bb:Int):List (Nat × Value):=[(0,.slice (some ao) ae af),(1,iV a_1),(4,.func (.func az) ⟨[]⟩ ⟨aj⟩),(11,iV bb),(12,iV aT)]
def yMD (ao:Addr) (ae af:Nat) (a_1:Int) (az:FuncId) (aj:List Value) (aT:Int) (Q:Int→St→Prop):Alt:=⟨Int,.normal,fun t=>zDB ao ae af a_1 az aj aT t,fun t=>[],fun t σ=>Q t σ⟩
def zPL (ao:Addr) (ae af:Nat) (a_1:Int) (az:FuncId) (aj:List Value) (aT bb:Int):List (Nat × Value):=[(0,.slice (some ao) ae af),(1,iV a_1),(4,.func (.func az) ⟨[]⟩ ⟨aj⟩),(11,iV bb),(12,iV aT)]
def zGL (ao:Addr) (ae af:Nat) (a_1:Int) (az:FuncId) (aj:List Value) (aT:Int) (Q:Int→St→Prop):Alt:=⟨Int,(.exit 2),fun t=>zPL ao ae af a_1 az aj aT t,fun t=>[],fun t σ=>Q t σ⟩
def zIE (ao:Addr) (ae af:Nat) (a_1:Int) (az:FuncId) (aj:List Value) (aT bb:Int) (σ:St) (Nx:Int→St→Prop) (Q2:Int→St→Prop):Prop:=yJ Pg (zS Pg) none zXP 90 (zDB ao ae af a_1 az aj aT bb) [] [yMD ao ae af a_1 az aj aT Nx,zGL ao ae af a_1 az aj aT Q2] σ
def zXR (ao:Addr) (ae af:Nat) (a_1:Int) (az:FuncId) (aj:List Value) (aT bb:Int) (σ:St) (Q2:Int→St→Prop):Prop:=yR Pg (zS Pg) none zXP 90 (zDB ao ae af a_1 az aj aT bb) [] [zGL ao ae af a_1 az aj aT Q2] σ
theorem yBH (hb:∀ k bb σ,Inv k bb σ→zIE ao ae af a_1 az aj aT bb σ (NX1 Inv k) Q2):∀ k bb σ,Inv k bb σ→zXR ao ae af a_1 az aj aT bb σ Q2 :=
 yV (ai (wA 2) trivial) hb
theorem yMA (h1:zB Pg σ 47 (zH ao (Int.toNat a_1*3))=some (.agg ⟨rcd nM nR nS⟩)) (h2:zB Pg σ 47 (zH ao (Int.toNat bb*3))=some (.agg ⟨rcd nN nG nH⟩)) (h3:zD Pg az (.agg ⟨rcd nM nR nS⟩::.agg ⟨rcd nN nG nH⟩::aj) σ (iV nJ) σ) (nx:Q2 bb σ) (u1:bb≤aT:=by omega) (u2:Ix a_1 ae:=by omega) (u3:Ix bb ae:=by omega) (u4:nJ<0:=by omega):zIE ao ae af a_1 az aj aT bb σ Nx Q2 :=
 kO 1 bb [.g,.g,.b true,.g,.g,.g,.g,.i,.l (.agg ⟨rcd nM nR nS⟩),.g,.g,.i,.l (.agg ⟨rcd nN nG nH⟩),.c (iV nJ) σ,.b true,.g,.g] (fun _ f=>(ai (zX u1) (an6 u2 h1 u3 h2 h3 (zJ u4) f))) nx
theorem yLZ (h1:zB Pg σ 47 (zH ao (Int.toNat a_1*3))=some (.agg ⟨rcd nM nR nS⟩)) (h2:zB Pg σ 47 (zH ao (Int.toNat bb*3))=some (.agg ⟨rcd nN nG nH⟩)) (h3:zD Pg az (.agg ⟨rcd nM nR nS⟩::.agg ⟨rcd nN nG nH⟩::aj) σ (iV nJ) σ) (nx:Nx (bb+1) σ) (u1:bb≤aT:=by omega) (u2:Ix a_1 ae:=by omega) (u3:Ix bb ae:=by omega) (u4:¬ nJ<0:=by omega) (u5:I6 (bb+1):=by omega):zIE ao ae af a_1 az aj aT bb σ Nx Q2 :=
 kO 0 (bb+1) [.g,.g,.b true,.g,.g,.g,.g,.i,.l (.agg ⟨rcd nM nR nS⟩),.g,.g,.i,.l (.agg ⟨rcd nN nG nH⟩),.c (iV nJ) σ,.b false,.g,.g,.g,.n (bb+1),.g] (fun _ f=>(an2 (zX u1) u2 (an6 h1 u3 h2 h3 (zM u4) (w64 u5) f))) nx
theorem yLY (nx:Q2 bb σ) (u1:¬ bb≤aT:=by omega):zIE ao ae af a_1 az aj aT bb σ Nx Q2 :=
 kO 1 bb [.g,.g,.b false,.g,.g] (fun _ f=>(ai (yB u1) f)) nx
def zPN (ao:Addr) (ae af:Nat) (a_1:Int) (az:FuncId) (aj:List Value) (aT bb:Int) (σ:St) (Nx:Int→Int→St→Prop) (Q0:Int→St→Prop):Prop:=∀ g:Nat→Value,∃ an,Hid (kAt Pg (zS Pg) none zIC [0,0,0] (zDP 90 [zKC ao ae af a_1 az aj Nx,zAT ao ae af a_1 az aj Q0]) (.exit 2) ⟨Fm 90 (ov (zPL ao ae af a_1 az aj aT bb) g),[]⟩ σ an)
theorem yMB {Nx:Int→Int→St→Prop} {Q0:Int→St→Prop} (hL:zXR ao ae af a_1 az aj aT aQ σ P2) (k2:∀ i11_2' σ',P2 i11_2' σ'→zPN ao ae af a_1 az aj aT i11_2' σ' Nx Q0):zXT ao ae af a_1 az aj aQ aT σ Nx Q0 :=
 zBG [.lf 90 (zDB ao ae af a_1 az aj aT aQ) [zGL ao ae af a_1 az aj aT P2]] (fun g=>kd (ai (ai tt (ai (arf (zDB ao ae af a_1 az aj aT aQ)) hL)) (ai (kz1 k2) trivial)))
noncomputable def zXO:Code:=(Code.part [1,1,1,0,0,0,0,1,0,0,0] (zO Pg 86))
def zDA (ao:Addr) (ae af:Nat) (a_1:Int) (az:FuncId) (aj:List Value) (bb br:Int):List (Nat × Value):=[(0,.slice (some ao) ae af),(1,iV a_1),(4,.func (.func az) ⟨[]⟩ ⟨aj⟩),(11,iV bb),(12,iV br)]
def yMC (ao:Addr) (ae af:Nat) (a_1:Int) (az:FuncId) (aj:List Value) (bb:Int) (Q:Int→St→Prop):Alt:=⟨Int,.normal,fun t=>zDA ao ae af a_1 az aj bb t,fun t=>[],fun t σ=>Q t σ⟩
def zPK (ao:Addr) (ae af:Nat) (a_1:Int) (az:FuncId) (aj:List Value) (bb br:Int):List (Nat × Value):=[(0,.slice (some ao) ae af),(1,iV a_1),(4,.func (.func az) ⟨[]⟩ ⟨aj⟩),(11,iV bb),(12,iV br)]
def zGK (ao:Addr) (ae af:Nat) (a_1:Int) (az:FuncId) (aj:List Value) (bb:Int) (Q:Int→St→Prop):Alt:=⟨Int,(.exit 4),fun t=>zPK ao ae af a_1 az aj bb t,fun t=>[],fun t σ=>Q t σ⟩
def zID (ao:Addr) (ae af:Nat) (a_1:Int) (az:FuncId) (aj:List Value) (bb br:Int) (σ:St) (Nx:Int→St→Prop) (Q4:Int→St→Prop):Prop:=yJ Pg (zS Pg) none zXO 90 (zDA ao ae af a_1 az aj bb br) [] [yMC ao ae af a_1 az aj bb Nx,zGK ao ae af a_1 az aj bb Q4] σ
def zXQ (ao:Addr) (ae af:Nat) (a_1:Int) (az:FuncId) (aj:List Value) (bb br:Int) (σ:St) (Q4:Int→St→Prop):Prop:=yR Pg (zS Pg) none zXO 90 (zDA ao ae af a_1 az aj bb br) [] [zGK ao ae af a_1 az aj bb Q4] σ
theorem yBG (hb:∀ k br σ,Inv k br σ→zID ao ae af a_1 az aj bb br σ (NX1 Inv k) Q4):∀ k br σ,Inv k br σ→zXQ ao ae af a_1 az aj bb br σ Q4 :=
 yV (ai (wA 4) trivial) hb
theorem yLX (h1:zB Pg σ 47 (zH ao (Int.toNat a_1*3))=some (.agg ⟨rcd nO nKB nZ⟩)) (h2:zB Pg σ 47 (zH ao (Int.toNat br*3))=some (.agg ⟨rcd nLB nNB nFB⟩)) (h3:zD Pg az (.agg ⟨rcd nO nKB nZ⟩::.agg ⟨rcd nLB nNB nFB⟩::aj) σ (iV nIB) σ) (nx:Nx (br-1) σ) (u1:bb≤br:=by omega) (u2:Ix a_1 ae:=by omega) (u3:Ix br ae:=by omega) (u4:nIB<0:=by omega) (u5:I6 (br-1):=by omega):zID ao ae af a_1 az aj bb br σ Nx Q4 :=
 kO 0 (br-1) [.g,.g,.b true,.g,.g,.g,.g,.i,.l (.agg ⟨rcd nO nKB nZ⟩),.g,.g,.i,.l (.agg ⟨rcd nLB nNB nFB⟩),.c (iV nIB) σ,.b true,.g,.g,.n (br-1),.g] (fun _ f=>(an2 (zX u1) u2 (an6 h1 u3 h2 h3 (zJ u4) (w64 u5) f))) nx
theorem yLW (h1:zB Pg σ 47 (zH ao (Int.toNat a_1*3))=some (.agg ⟨rcd nO nKB nZ⟩)) (h2:zB Pg σ 47 (zH ao (Int.toNat br*3))=some (.agg ⟨rcd nLB nNB nFB⟩)) (h3:zD Pg az (.agg ⟨rcd nO nKB nZ⟩::.agg ⟨rcd nLB nNB nFB⟩::aj) σ (iV nIB) σ) (nx:Q4 br σ) (u1:bb≤br:=by omega) (u2:Ix a_1 ae:=by omega) (u3:Ix br ae:=by omega) (u4:¬ nIB<0:=by omega):zID ao ae af a_1 az aj bb br σ Nx Q4 :=
 kO 1 br [.g,.g,.b true,.g,.g,.g,.g,.i,.l (.agg ⟨rcd nO nKB nZ⟩),.g,.g,.i,.l (.agg ⟨rcd nLB nNB nFB⟩),.c (iV nIB) σ,.b false,.g] (fun _ f=>(ai (zX u1) (an6 u2 h1 u3 h2 h3 (zM u4) f))) nx
theorem yLV (nx:Q4 br σ) (u1:¬ bb≤br:=by omega):zID ao ae af a_1 az aj bb br σ Nx Q4 :=
 kO 1 br [.g,.g,.b false,.g,.g] (fun _ f=>(ai (yB u1) f)) nx
def zGM (ao:Addr) (ae af:Nat) (a_1:Int) (az:FuncId) (aj:List Value) (bb br:Int) (σ:St) (Nx:Int→Int→St→Prop) (Q0:Int→St→Prop):Prop:=∀ g:Nat→Value,∃ an,Hid (kAt Pg (zS Pg) none zIC [0,1,0,0] (zDP 90 [zKC ao ae af a_1 az aj Nx,zAT ao ae af a_1 az aj Q0]) (.exit 4) ⟨Fm 90 (ov (zPK ao ae af a_1 az aj bb br) g),[]⟩ σ an)
theorem yBE {Nx:Int→Int→St→Prop} {Q0:Int→St→Prop} (hL:zXQ ao ae af a_1 az aj bb aT σ P4) (k4:∀ i12_3' σ',P4 i12_3' σ'→zGM ao ae af a_1 az aj bb i12_3' σ' Nx Q0):zPN ao ae af a_1 az aj aT bb σ Nx Q0 :=
 sK [.lf 90 (zDA ao ae af a_1 az aj bb aT) [zGK ao ae af a_1 az aj bb P4]] (ai (ai tt (ai (arf (zDA ao ae af a_1 az aj bb aT)) hL)) (ai (kz1 k4) trivial))
theorem yBD {Nx:Int→Int→St→Prop} {Q0:Int→St→Prop} (nx:Q0 bb σ) (u1:br<bb:=by omega):zGM ao ae af a_1 az aj bb br σ Nx Q0 :=
 sF 1 bb [.g,.g,.b true] (fun _ f=>(ai (zJ u1) f)) nx
theorem yBC {Nx:Int→Int→St→Prop} {Q0:Int→St→Prop} (h1:zB Pg σ 47 (zH ao (Int.toNat br*3))=some (.agg ⟨rcd nDB nEB nT⟩)) (h2:zB Pg σ 47 (zH ao (Int.toNat bb*3))=some (.agg ⟨rcd nU nV nW⟩)) (h3:zL Pg (evL [.pointer (some (zH ao (Int.toNat bb*3))),.agg ⟨rcd nDB nEB nT⟩]) σ (.store 47 (.tmp 0) (.tmp 1))=some (undef,σDB)) (h4:zL Pg (evL [.pointer (some (zH ao (Int.toNat br*3))),.agg ⟨rcd nU nV nW⟩]) σDB (.store 47 (.tmp 0) (.tmp 1))=some (undef,σEB)) (nx:Nx (bb+1) (br-1) σEB) (u1:¬ br<bb:=by omega) (u2:Ix br ae:=by omega) (u3:Ix bb ae:=by omega) (u4:I6 (bb+1):=by omega) (u5:I6 (br-1):=by omega):zGM ao ae af a_1 az aj bb br σ Nx Q0 :=
 sF 0 (bb+1,br-1) [.g,.g,.b false,.g,.g,.g,.g,.g,.g,.i,.l (.agg ⟨rcd nDB nEB nT⟩),.g,.g,.i,.l (.agg ⟨rcd nU nV nW⟩),.i,.e undef σDB,.i,.e undef σEB,.g,.n (bb+1),.g,.g,.n (br-1),.g] (fun _ f=>(an5 (zM u1) u2 h1 u3 h2 (an6 u3 h3 u2 h4 (w64 u4) (w64 u5) f))) nx
def zPO (ao:Addr) (ae af:Nat) (a_1:Int) (az:FuncId) (aj:List Value) (aQ:Int) (σ:St) (Q:Value→St→Prop):Prop:=∀ g:Nat→Value,∃ an,Hid (kAt Pg (zS Pg) none (zO Pg 86) [1,1,1,0,0] (kFn Pg 86 Q) (.exit 0) ⟨Fm 90 (ov (zPM ao ae af a_1 az aj aQ) g),[]⟩ σ an)
theorem yUI {P0:Int→St→Prop} (h1:zB Pg σ 47 (zH ao (Int.toNat cg*3))=some (.agg ⟨rcd n1 n2 n3⟩)) (h2:zB Pg σ 47 (zH ao (Int.toNat a_1*3))=some (.agg ⟨rcd n4 n5 n6⟩)) (h3:zL Pg (evL [.pointer (some (zH ao (Int.toNat a_1*3))),.agg ⟨rcd n1 n2 n3⟩]) σ (.store 47 (.tmp 0) (.tmp 1))=some (undef,σ7)) (h4:zL Pg (evL [.pointer (some (zH ao (Int.toNat cg*3))),.agg ⟨rcd n4 n5 n6⟩]) σ7 (.store 47 (.tmp 0) (.tmp 1))=some (undef,σ8)) (hL:zXS ao ae af a_1 az aj (a_1+1) (b-1) σ8 P0) (k0:∀ i11_1' σ',P0 i11_1' σ'→zPO ao ae af a_1 az aj i11_1' σ' Q) (u1:Ix cg ae:=by omega) (u2:Ix a_1 ae:=by omega) (u3:I6 (a_1+1):=by omega) (u4:I6 (b-1):=by omega):zI Pg 86 [.slice (some ao) ae af,iV a_1,iV b,iV cg,.func (.func az) ⟨[]⟩ ⟨aj⟩] σ Q :=
 let s1:=zIB ao ae af a_1 az aj (a_1+1) (b-1);zF [.g,.g,.g,.g,.g,.g,.g,.i,.l (.agg ⟨rcd n1 n2 n3⟩),.g,.g,.i,.l (.agg ⟨rcd n4 n5 n6⟩),.i,.e undef σ7,.i,.e undef σ8,.g,.n (a_1+1),.g,.n (b-1),.g,.g,.lf 90 s1 [zAT ao ae af a_1 az aj P0]] (kd (an4 u1 h1 u2 h2 (an6 u2 h3 u1 h4 (w64 u3) (w64 u4) (ai (ai tt (ai (arf s1) hL)) (ai (kz1 k0) trivial)))))
theorem yBF (nx:Q (iV aQ) σ):zPO ao ae af a_1 az aj aQ σ Q :=
 sK [.g,.g] nx
noncomputable def yPX:Code:=(Code.part [1,1,1,0,0,0] (zO Pg 87))
def zQR (ao:Addr) (ae af:Nat) (a_1:Int) (az:FuncId) (aj:List Value) (kB aT:Int):List (Nat × Value):=[(0,.slice (some ao) ae af),(1,iV a_1),(4,.func (.func az) ⟨[]⟩ ⟨aj⟩),(12,iV aT),(13,iV kB)]
def yZO (ao:Addr) (ae af:Nat) (a_1:Int) (az:FuncId) (aj:List Value) (kB:Int) (Q:Int→St→Prop):Alt:=⟨Int,.normal,fun t=>zQR ao ae af a_1 az aj kB t,fun t=>[],fun t σ=>Q t σ⟩
def zXK (ao:Addr) (ae af:Nat) (a_1:Int) (az:FuncId) (aj:List Value) (kB aT:Int):List (Nat × Value):=[(0,.slice (some ao) ae af),(1,iV a_1),(4,.func (.func az) ⟨[]⟩ ⟨aj⟩),(12,iV aT),(13,iV kB)]
def zNH (ao:Addr) (ae af:Nat) (a_1:Int) (az:FuncId) (aj:List Value) (kB:Int) (Q:Int→St→Prop):Alt:=⟨Int,(.exit 0),fun t=>zXK ao ae af a_1 az aj kB t,fun t=>[],fun t σ=>Q t σ⟩
def zQW (ao:Addr) (ae af:Nat) (a_1:Int) (az:FuncId) (aj:List Value) (kB aT:Int) (σ:St) (Nx:Int→St→Prop) (Q0:Int→St→Prop):Prop:=yJ Pg (zS Pg) none yPX 178 (zQR ao ae af a_1 az aj kB aT) [] [yZO ao ae af a_1 az aj kB Nx,zNH ao ae af a_1 az aj kB Q0] σ
def yQC (ao:Addr) (ae af:Nat) (a_1:Int) (az:FuncId) (aj:List Value) (kB aT:Int) (σ:St) (Q0:Int→St→Prop):Prop:=yR Pg (zS Pg) none yPX 178 (zQR ao ae af a_1 az aj kB aT) [] [zNH ao ae af a_1 az aj kB Q0] σ
theorem yLT {Q0:Int→St→Prop} (hb:∀ k aT σ,Inv k aT σ→zQW ao ae af a_1 az aj kB aT σ (NX1 Inv k) Q0):∀ k aT σ,Inv k aT σ→yQC ao ae af a_1 az aj kB aT σ Q0 :=
 yV (ai (wA 0) trivial) hb
theorem yZK {Q0:Int→St→Prop} (h1:zB Pg σ 47 (zH ao (Int.toNat aT*3))=some (.agg ⟨rcd nI nE nA⟩)) (h2:zB Pg σ 47 (zH ao (Int.toNat a_1*3))=some (.agg ⟨rcd nB nD nF⟩)) (h3:zD Pg az (.agg ⟨rcd nI nE nA⟩::.agg ⟨rcd nB nD nF⟩::aj) σ (iV nK) σ) (nx:Nx (aT+1) σ) (u1:aT≤kB:=by omega) (u2:Ix aT ae:=by omega) (u3:Ix a_1 ae:=by omega) (u4:nK<0:=by omega) (u5:I6 (aT+1):=by omega):zQW ao ae af a_1 az aj kB aT σ Nx Q0 :=
 kO 0 (aT+1) [.g,.g,.b true,.g,.g,.g,.g,.i,.l (.agg ⟨rcd nI nE nA⟩),.g,.g,.i,.l (.agg ⟨rcd nB nD nF⟩),.c (iV nK) σ,.b true,.g,.g,.n (aT+1),.g] (fun _ f=>(an2 (zX u1) u2 (an6 h1 u3 h2 h3 (zJ u4) (w64 u5) f))) nx
theorem yZJ {Q0:Int→St→Prop} (h1:zB Pg σ 47 (zH ao (Int.toNat aT*3))=some (.agg ⟨rcd nI nE nA⟩)) (h2:zB Pg σ 47 (zH ao (Int.toNat a_1*3))=some (.agg ⟨rcd nB nD nF⟩)) (h3:zD Pg az (.agg ⟨rcd nI nE nA⟩::.agg ⟨rcd nB nD nF⟩::aj) σ (iV nK) σ) (nx:Q0 aT σ) (u1:aT≤kB:=by omega) (u2:Ix aT ae:=by omega) (u3:Ix a_1 ae:=by omega) (u4:¬ nK<0:=by omega):zQW ao ae af a_1 az aj kB aT σ Nx Q0 :=
 kO 1 aT [.g,.g,.b true,.g,.g,.g,.g,.i,.l (.agg ⟨rcd nI nE nA⟩),.g,.g,.i,.l (.agg ⟨rcd nB nD nF⟩),.c (iV nK) σ,.b false,.g] (fun _ f=>(ai (zX u1) (an6 u2 h1 u3 h2 h3 (zM u4) f))) nx
theorem yZI {Q0:Int→St→Prop} (nx:Q0 aT σ) (u1:¬ aT≤kB:=by omega):zQW ao ae af a_1 az aj kB aT σ Nx Q0 :=
 kO 1 aT [.g,.g,.b false,.g,.g] (fun _ f=>(ai (yB u1) f)) nx
def zXN (ao:Addr) (ae af:Nat) (a_1:Int) (az:FuncId) (aj:List Value) (kB aT:Int) (σ:St) (Q:Value→St→Prop):Prop:=∀ g:Nat→Value,∃ an,Hid (kAt Pg (zS Pg) none (zO Pg 87) [1,1,1,0,0] (kFn Pg 87 Q) (.exit 0) ⟨Fm 178 (ov (zXK ao ae af a_1 az aj kB aT) g),[]⟩ σ an)
theorem xEO {P0:Int→St→Prop} (h1:zB Pg σ 47 (zH ao (Int.toNat cg*3))=some (.agg ⟨rcd n1 n2 n3⟩)) (h2:zB Pg σ 47 (zH ao (Int.toNat a_1*3))=some (.agg ⟨rcd n4 n5 n6⟩)) (h3:zL Pg (evL [.pointer (some (zH ao (Int.toNat a_1*3))),.agg ⟨rcd n1 n2 n3⟩]) σ (.store 47 (.tmp 0) (.tmp 1))=some (undef,σ7)) (h4:zL Pg (evL [.pointer (some (zH ao (Int.toNat cg*3))),.agg ⟨rcd n4 n5 n6⟩]) σ7 (.store 47 (.tmp 0) (.tmp 1))=some (undef,σ8)) (hL:yQC ao ae af a_1 az aj (b-1) (a_1+1) σ8 P0) (k0:∀ i12_1' σ',P0 i12_1' σ'→zXN ao ae af a_1 az aj (b-1) i12_1' σ' Q) (u1:Ix cg ae:=by omega) (u2:Ix a_1 ae:=by omega) (u3:I6 (a_1+1):=by omega) (u4:I6 (b-1):=by omega):zI Pg 87 [.slice (some ao) ae af,iV a_1,iV b,iV cg,.func (.func az) ⟨[]⟩ ⟨aj⟩] σ Q :=
 let s1:=zQR ao ae af a_1 az aj (b-1) (a_1+1);zF [.g,.g,.g,.g,.g,.g,.g,.g,.i,.l (.agg ⟨rcd n1 n2 n3⟩),.g,.g,.i,.l (.agg ⟨rcd n4 n5 n6⟩),.i,.e undef σ7,.i,.e undef σ8,.g,.n (a_1+1),.g,.n (b-1),.g,.g,.lf 178 s1 [zNH ao ae af a_1 az aj (b-1) P0]] (kd (an4 u1 h1 u2 h2 (an6 u2 h3 u1 h4 (w64 u3) (w64 u4) (ai (ai tt (ai (arf s1) hL)) (ai (kz1 k0) trivial)))))
noncomputable def yPW:Code:=(Code.part [1,1,1,1,0,0,0] (zO Pg 87))
def zLN (ao:Addr) (ae af:Nat) (a_1:Int) (az:FuncId) (aj:List Value) (aT bB:Int):List (Nat × Value):=[(0,.slice (some ao) ae af),(1,iV a_1),(4,.func (.func az) ⟨[]⟩ ⟨aj⟩),(12,iV aT),(13,iV bB)]
def yZN (ao:Addr) (ae af:Nat) (a_1:Int) (az:FuncId) (aj:List Value) (aT:Int) (Q:Int→St→Prop):Alt:=⟨Int,.normal,fun t=>zLN ao ae af a_1 az aj aT t,fun t=>[],fun t σ=>Q t σ⟩
def zXJ (ao:Addr) (ae af:Nat) (a_1:Int) (az:FuncId) (aj:List Value) (aT bB:Int):List (Nat × Value):=[(0,.slice (some ao) ae af),(1,iV a_1),(4,.func (.func az) ⟨[]⟩ ⟨aj⟩),(12,iV aT),(13,iV bB)]
def zNG (ao:Addr) (ae af:Nat) (a_1:Int) (az:FuncId) (aj:List Value) (aT:Int) (Q:Int→St→Prop):Alt:=⟨Int,(.exit 2),fun t=>zXJ ao ae af a_1 az aj aT t,fun t=>[],fun t σ=>Q t σ⟩
def zQV (ao:Addr) (ae af:Nat) (a_1:Int) (az:FuncId) (aj:List Value) (aT bB:Int) (σ:St) (Nx:Int→St→Prop) (Q2:Int→St→Prop):Prop:=yJ Pg (zS Pg) none yPW 178 (zLN ao ae af a_1 az aj aT bB) [] [yZN ao ae af a_1 az aj aT Nx,zNG ao ae af a_1 az aj aT Q2] σ
def yQB (ao:Addr) (ae af:Nat) (a_1:Int) (az:FuncId) (aj:List Value) (aT bB:Int) (σ:St) (Q2:Int→St→Prop):Prop:=yR Pg (zS Pg) none yPW 178 (zLN ao ae af a_1 az aj aT bB) [] [zNG ao ae af a_1 az aj aT Q2] σ
theorem yLS (hb:∀ k bB σ,Inv k bB σ→zQV ao ae af a_1 az aj aT bB σ (NX1 Inv k) Q2):∀ k bB σ,Inv k bB σ→yQB ao ae af a_1 az aj aT bB σ Q2 :=
 yV (ai (wA 2) trivial) hb
theorem yZH (h1:zB Pg σ 47 (zH ao (Int.toNat bB*3))=some (.agg ⟨rcd nM nR nS⟩)) (h2:zB Pg σ 47 (zH ao (Int.toNat a_1*3))=some (.agg ⟨rcd nN nG nH⟩)) (h3:zD Pg az (.agg ⟨rcd nM nR nS⟩::.agg ⟨rcd nN nG nH⟩::aj) σ (iV nJ) σ) (nx:Q2 bB σ) (u1:aT≤bB:=by omega) (u2:Ix bB ae:=by omega) (u3:Ix a_1 ae:=by omega) (u4:nJ<0:=by omega):zQV ao ae af a_1 az aj aT bB σ Nx Q2 :=
 kO 1 bB [.g,.g,.b true,.g,.g,.g,.g,.i,.l (.agg ⟨rcd nM nR nS⟩),.g,.g,.i,.l (.agg ⟨rcd nN nG nH⟩),.c (iV nJ) σ,.b true,.g,.g] (fun _ f=>(ai (zX u1) (an6 u2 h1 u3 h2 h3 (zJ u4) f))) nx
theorem yZG (h1:zB Pg σ 47 (zH ao (Int.toNat bB*3))=some (.agg ⟨rcd nM nR nS⟩)) (h2:zB Pg σ 47 (zH ao (Int.toNat a_1*3))=some (.agg ⟨rcd nN nG nH⟩)) (h3:zD Pg az (.agg ⟨rcd nM nR nS⟩::.agg ⟨rcd nN nG nH⟩::aj) σ (iV nJ) σ) (nx:Nx (bB-1) σ) (u1:aT≤bB:=by omega) (u2:Ix bB ae:=by omega) (u3:Ix a_1 ae:=by omega) (u4:¬ nJ<0:=by omega) (u5:I6 (bB-1):=by omega):zQV ao ae af a_1 az aj aT bB σ Nx Q2 :=
 kO 0 (bB-1) [.g,.g,.b true,.g,.g,.g,.g,.i,.l (.agg ⟨rcd nM nR nS⟩),.g,.g,.i,.l (.agg ⟨rcd nN nG nH⟩),.c (iV nJ) σ,.b false,.g,.g,.g,.n (bB-1),.g] (fun _ f=>(an2 (zX u1) u2 (an6 h1 u3 h2 h3 (zM u4) (w64 u5) f))) nx
theorem yZF (nx:Q2 bB σ) (u1:¬ aT≤bB:=by omega):zQV ao ae af a_1 az aj aT bB σ Nx Q2 :=
 kO 1 bB [.g,.g,.b false,.g,.g] (fun _ f=>(ai (yB u1) f)) nx
def zNJ (ao:Addr) (ae af:Nat) (a_1:Int) (az:FuncId) (aj:List Value) (aT bB:Int) (σ:St) (Q:Value→St→Prop):Prop:=∀ g:Nat→Value,∃ an,Hid (kAt Pg (zS Pg) none (zO Pg 87) [1,1,1,1,0,0] (kFn Pg 87 Q) (.exit 2) ⟨Fm 178 (ov (zXJ ao ae af a_1 az aj aT bB) g),[]⟩ σ an)
theorem yLO (hL:yQB ao ae af a_1 az aj aT kB σ P2) (k2:∀ i13_2' σ',P2 i13_2' σ'→zNJ ao ae af a_1 az aj aT i13_2' σ' Q):zXN ao ae af a_1 az aj kB aT σ Q :=
 sK [.lf 178 (zLN ao ae af a_1 az aj aT kB) [zNG ao ae af a_1 az aj aT P2]] (ai (ai tt (ai (arf (zLN ao ae af a_1 az aj aT kB)) hL)) (ai (kz1 k2) trivial))
theorem yLN (h1:zB Pg σ 47 (zH ao (Int.toNat a_1*3))=some (.agg ⟨rcd nWB nIC nJC⟩)) (h2:zB Pg σ 47 (zH ao (Int.toNat bB*3))=some (.agg ⟨rcd nXB nYB nZB⟩)) (h3:zL Pg (evL [.pointer (some (zH ao (Int.toNat bB*3))),.agg ⟨rcd nWB nIC nJC⟩]) σ (.store 47 (.tmp 0) (.tmp 1))=some (undef,σH)) (h4:zL Pg (evL [.pointer (some (zH ao (Int.toNat a_1*3))),.agg ⟨rcd nXB nYB nZB⟩]) σH (.store 47 (.tmp 0) (.tmp 1))=some (undef,σQ)) (nx:Q (.tuple ⟨[iV bB,.bool true]⟩) σQ) (u1:bB<aT:=by omega) (u2:Ix a_1 ae:=by omega) (u3:Ix bB ae:=by omega):zNJ ao ae af a_1 az aj aT bB σ Q :=
 sK [.g,.g,.b true,.g,.g,.g,.g,.g,.g,.i,.l (.agg ⟨rcd nWB nIC nJC⟩),.g,.g,.i,.l (.agg ⟨rcd nXB nYB nZB⟩),.i,.e undef σH,.i,.e undef σQ,.g,.g,.g] (an3 (zJ u1) u2 h1 (an6 u3 h2 u3 h3 u2 h4 nx))
noncomputable def zQS:Code:=(Code.part [1,1,1,1,1,1,1,1,1,0,0,0] (zO Pg 87))
def zQQ (ao:Addr) (ae af:Nat) (a_1:Int) (az:FuncId) (aj:List Value) (br aD:Int):List (Nat × Value):=[(0,.slice (some ao) ae af),(1,iV a_1),(4,.func (.func az) ⟨[]⟩ ⟨aj⟩),(12,iV br),(13,iV aD)]
def zSV (ao:Addr) (ae af:Nat) (a_1:Int) (az:FuncId) (aj:List Value) (Q:Int→Int→St→Prop):Alt:=⟨Int × Int,.normal,fun t=>zQQ ao ae af a_1 az aj t.1 t.2,fun t=>[],fun t σ=>Q t.1 t.2 σ⟩
def zXI (ao:Addr) (ae af:Nat) (a_1:Int) (az:FuncId) (aj:List Value) (aD:Int):List (Nat × Value):=[(0,.slice (some ao) ae af),(1,iV a_1),(13,iV aD)]
def zCZ (ao:Addr) (ae af:Nat) (a_1:Int) (az:FuncId) (aj:List Value) (Q:Int→St→Prop):Alt:=⟨Int,(.exit 4),fun t=>zXI ao ae af a_1 az aj t,fun t=>[],fun t σ=>Q t σ⟩
def yQD (ao:Addr) (ae af:Nat) (a_1:Int) (az:FuncId) (aj:List Value) (br aD:Int) (σ:St) (Nx:Int→Int→St→Prop) (Q4:Int→St→Prop):Prop:=yJ Pg (zS Pg) none zQS 178 (zQQ ao ae af a_1 az aj br aD) [] [zSV ao ae af a_1 az aj Nx,zCZ ao ae af a_1 az aj Q4] σ
def yQA (ao:Addr) (ae af:Nat) (a_1:Int) (az:FuncId) (aj:List Value) (br aD:Int) (σ:St) (Q4:Int→St→Prop):Prop:=yR Pg (zS Pg) none zQS 178 (zQQ ao ae af a_1 az aj br aD) [] [zCZ ao ae af a_1 az aj Q4] σ
theorem yLR {Inv:Nat→Int→Int→St→Prop} (hb:∀ k br aD σ,Inv k br aD σ→yQD ao ae af a_1 az aj br aD σ (NX2 Inv k) Q4):∀ k br aD σ,Inv k br aD σ→yQA ao ae af a_1 az aj br aD σ Q4 :=
 zNL (ai (wA 4) trivial) hb
noncomputable def yPV:Code:=(Code.part [1,1,1,1,1,1,1,1,1,0,0,0,0,0,0,0] (zO Pg 87))
def zLM (ao:Addr) (ae af:Nat) (a_1:Int) (az:FuncId) (aj:List Value) (aD aV:Int):List (Nat × Value):=[(0,.slice (some ao) ae af),(1,iV a_1),(4,.func (.func az) ⟨[]⟩ ⟨aj⟩),(12,iV aV),(13,iV aD)]
def yZM (ao:Addr) (ae af:Nat) (a_1:Int) (az:FuncId) (aj:List Value) (aD:Int) (Q:Int→St→Prop):Alt:=⟨Int,.normal,fun t=>zLM ao ae af a_1 az aj aD t,fun t=>[],fun t σ=>Q t σ⟩
def zXH (ao:Addr) (ae af:Nat) (a_1:Int) (az:FuncId) (aj:List Value) (aD aV:Int):List (Nat × Value):=[(0,.slice (some ao) ae af),(1,iV a_1),(4,.func (.func az) ⟨[]⟩ ⟨aj⟩),(12,iV aV),(13,iV aD)]
def zNF (ao:Addr) (ae af:Nat) (a_1:Int) (az:FuncId) (aj:List Value) (aD:Int) (Q:Int→St→Prop):Alt:=⟨Int,(.exit 6),fun t=>zXH ao ae af a_1 az aj aD t,fun t=>[],fun t σ=>Q t σ⟩
def zQU (ao:Addr) (ae af:Nat) (a_1:Int) (az:FuncId) (aj:List Value) (aD aV:Int) (σ:St) (Nx:Int→St→Prop) (Q6:Int→St→Prop):Prop:=yJ Pg (zS Pg) none yPV 178 (zLM ao ae af a_1 az aj aD aV) [] [yZM ao ae af a_1 az aj aD Nx,zNF ao ae af a_1 az aj aD Q6] σ
def yPZ (ao:Addr) (ae af:Nat) (a_1:Int) (az:FuncId) (aj:List Value) (aD aV:Int) (σ:St) (Q6:Int→St→Prop):Prop:=yR Pg (zS Pg) none yPV 178 (zLM ao ae af a_1 az aj aD aV) [] [zNF ao ae af a_1 az aj aD Q6] σ
theorem yLQ (hb:∀ k aV σ,Inv k aV σ→zQU ao ae af a_1 az aj aD aV σ (NX1 Inv k) Q6):∀ k aV σ,Inv k aV σ→yPZ ao ae af a_1 az aj aD aV σ Q6 :=
 yV (ai (wA 6) trivial) hb
theorem yZD (h1:zB Pg σ 47 (zH ao (Int.toNat aV*3))=some (.agg ⟨rcd nY nGB nOB⟩)) (h2:zB Pg σ 47 (zH ao (Int.toNat a_1*3))=some (.agg ⟨rcd nPB nQB nRB⟩)) (h3:zD Pg az (.agg ⟨rcd nY nGB nOB⟩::.agg ⟨rcd nPB nQB nRB⟩::aj) σ (iV nVB) σ) (nx:Nx (aV+1) σ) (u1:aV≤aD:=by omega) (u2:Ix aV ae:=by omega) (u3:Ix a_1 ae:=by omega) (u4:nVB<0:=by omega) (u5:I6 (aV+1):=by omega):zQU ao ae af a_1 az aj aD aV σ Nx Q6 :=
 kO 0 (aV+1) [.g,.g,.b true,.g,.g,.g,.g,.i,.l (.agg ⟨rcd nY nGB nOB⟩),.g,.g,.i,.l (.agg ⟨rcd nPB nQB nRB⟩),.c (iV nVB) σ,.b true,.g,.g,.n (aV+1),.g] (fun _ f=>(an2 (zX u1) u2 (an6 h1 u3 h2 h3 (zJ u4) (w64 u5) f))) nx
theorem yZC (h1:zB Pg σ 47 (zH ao (Int.toNat aV*3))=some (.agg ⟨rcd nY nGB nOB⟩)) (h2:zB Pg σ 47 (zH ao (Int.toNat a_1*3))=some (.agg ⟨rcd nPB nQB nRB⟩)) (h3:zD Pg az (.agg ⟨rcd nY nGB nOB⟩::.agg ⟨rcd nPB nQB nRB⟩::aj) σ (iV nVB) σ) (nx:Q6 aV σ) (u1:aV≤aD:=by omega) (u2:Ix aV ae:=by omega) (u3:Ix a_1 ae:=by omega) (u4:¬ nVB<0:=by omega):zQU ao ae af a_1 az aj aD aV σ Nx Q6 :=
 kO 1 aV [.g,.g,.b true,.g,.g,.g,.g,.i,.l (.agg ⟨rcd nY nGB nOB⟩),.g,.g,.i,.l (.agg ⟨rcd nPB nQB nRB⟩),.c (iV nVB) σ,.b false,.g] (fun _ f=>(ai (zX u1) (an6 u2 h1 u3 h2 h3 (zM u4) f))) nx
theorem yZB (nx:Q6 aV σ) (u1:¬ aV≤aD:=by omega):zQU ao ae af a_1 az aj aD aV σ Nx Q6 :=
 kO 1 aV [.g,.g,.b false,.g,.g] (fun _ f=>(ai (yB u1) f)) nx
def zXL (ao:Addr) (ae af:Nat) (a_1:Int) (az:FuncId) (aj:List Value) (aD aV:Int) (σ:St) (Nx:Int→Int→St→Prop) (Q4:Int→St→Prop):Prop:=∀ g:Nat→Value,∃ an,Hid (kAt Pg (zS Pg) none zQS [0,0,0] (zDP 178 [zSV ao ae af a_1 az aj Nx,zCZ ao ae af a_1 az aj Q4]) (.exit 6) ⟨Fm 178 (ov (zXH ao ae af a_1 az aj aD aV) g),[]⟩ σ an)
theorem yZE {Nx:Int→Int→St→Prop} {P6:Int→St→Prop} (hL:yPZ ao ae af a_1 az aj aD br σ P6) (k6:∀ i12_4' σ',P6 i12_4' σ'→zXL ao ae af a_1 az aj aD i12_4' σ' Nx Q4):yQD ao ae af a_1 az aj br aD σ Nx Q4 :=
 zBG [.lf 178 (zLM ao ae af a_1 az aj aD br) [zNF ao ae af a_1 az aj aD P6]] (fun g=>kd (ai (ai tt (ai (arf (zLM ao ae af a_1 az aj aD br)) hL)) (ai (kz1 k6) trivial)))
noncomputable def yPU:Code:=(Code.part [1,1,1,1,1,1,1,1,1,0,0,0,0,1,0,0,0] (zO Pg 87))
def zLL (ao:Addr) (ae af:Nat) (a_1:Int) (az:FuncId) (aj:List Value) (aV bF:Int):List (Nat × Value):=[(0,.slice (some ao) ae af),(1,iV a_1),(4,.func (.func az) ⟨[]⟩ ⟨aj⟩),(12,iV aV),(13,iV bF)]
def yZL (ao:Addr) (ae af:Nat) (a_1:Int) (az:FuncId) (aj:List Value) (aV:Int) (Q:Int→St→Prop):Alt:=⟨Int,.normal,fun t=>zLL ao ae af a_1 az aj aV t,fun t=>[],fun t σ=>Q t σ⟩
def zXG (ao:Addr) (ae af:Nat) (a_1:Int) (az:FuncId) (aj:List Value) (aV bF:Int):List (Nat × Value):=[(0,.slice (some ao) ae af),(1,iV a_1),(4,.func (.func az) ⟨[]⟩ ⟨aj⟩),(12,iV aV),(13,iV bF)]
def zNE (ao:Addr) (ae af:Nat) (a_1:Int) (az:FuncId) (aj:List Value) (aV:Int) (Q:Int→St→Prop):Alt:=⟨Int,(.exit 8),fun t=>zXG ao ae af a_1 az aj aV t,fun t=>[],fun t σ=>Q t σ⟩
def zQT (ao:Addr) (ae af:Nat) (a_1:Int) (az:FuncId) (aj:List Value) (aV bF:Int) (σ:St) (Nx:Int→St→Prop) (Q8:Int→St→Prop):Prop:=yJ Pg (zS Pg) none yPU 178 (zLL ao ae af a_1 az aj aV bF) [] [yZL ao ae af a_1 az aj aV Nx,zNE ao ae af a_1 az aj aV Q8] σ
def yPY (ao:Addr) (ae af:Nat) (a_1:Int) (az:FuncId) (aj:List Value) (aV bF:Int) (σ:St) (Q8:Int→St→Prop):Prop:=yR Pg (zS Pg) none yPU 178 (zLL ao ae af a_1 az aj aV bF) [] [zNE ao ae af a_1 az aj aV Q8] σ
theorem yLP (hb:∀ k bF σ,Inv k bF σ→zQT ao ae af a_1 az aj aV bF σ (NX1 Inv k) Q8):∀ k bF σ,Inv k bF σ→yPY ao ae af a_1 az aj aV bF σ Q8 :=
 yV (ai (wA 8) trivial) hb
theorem yZA (h1:zB Pg σ 47 (zH ao (Int.toNat bF*3))=some (.agg ⟨rcd nBA nBD nBE⟩)) (h2:zB Pg σ 47 (zH ao (Int.toNat a_1*3))=some (.agg ⟨rcd nBF nBG nBH⟩)) (h3:zD Pg az (.agg ⟨rcd nBA nBD nBE⟩::.agg ⟨rcd nBF nBG nBH⟩::aj) σ (iV nBI) σ) (nx:Q8 bF σ) (u1:aV≤bF:=by omega) (u2:Ix bF ae:=by omega) (u3:Ix a_1 ae:=by omega) (u4:nBI<0:=by omega):zQT ao ae af a_1 az aj aV bF σ Nx Q8 :=
 kO 1 bF [.g,.g,.b true,.g,.g,.g,.g,.i,.l (.agg ⟨rcd nBA nBD nBE⟩),.g,.g,.i,.l (.agg ⟨rcd nBF nBG nBH⟩),.c (iV nBI) σ,.b true,.g,.g] (fun _ f=>(ai (zX u1) (an6 u2 h1 u3 h2 h3 (zJ u4) f))) nx
theorem yYZ (h1:zB Pg σ 47 (zH ao (Int.toNat bF*3))=some (.agg ⟨rcd nBA nBD nBE⟩)) (h2:zB Pg σ 47 (zH ao (Int.toNat a_1*3))=some (.agg ⟨rcd nBF nBG nBH⟩)) (h3:zD Pg az (.agg ⟨rcd nBA nBD nBE⟩::.agg ⟨rcd nBF nBG nBH⟩::aj) σ (iV nBI) σ) (nx:Nx (bF-1) σ) (u1:aV≤bF:=by omega) (u2:Ix bF ae:=by omega) (u3:Ix a_1 ae:=by omega) (u4:¬ nBI<0:=by omega) (u5:I6 (bF-1):=by omega):zQT ao ae af a_1 az aj aV bF σ Nx Q8 :=
 kO 0 (bF-1) [.g,.g,.b true,.g,.g,.g,.g,.i,.l (.agg ⟨rcd nBA nBD nBE⟩),.g,.g,.i,.l (.agg ⟨rcd nBF nBG nBH⟩),.c (iV nBI) σ,.b false,.g,.g,.g,.n (bF-1),.g] (fun _ f=>(an2 (zX u1) u2 (an6 h1 u3 h2 h3 (zM u4) (w64 u5) f))) nx
theorem yYY (nx:Q8 bF σ) (u1:¬ aV≤bF:=by omega):zQT ao ae af a_1 az aj aV bF σ Nx Q8 :=
 kO 1 bF [.g,.g,.b false,.g,.g] (fun _ f=>(ai (yB u1) f)) nx
def zNI (ao:Addr) (ae af:Nat) (a_1:Int) (az:FuncId) (aj:List Value) (aV bF:Int) (σ:St) (Nx:Int→Int→St→Prop) (Q4:Int→St→Prop):Prop:=∀ g:Nat→Value,∃ an,Hid (kAt Pg (zS Pg) none zQS [0,1,0,0] (zDP 178 [zSV ao ae af a_1 az aj Nx,zCZ ao ae af a_1 az aj Q4]) (.exit 8) ⟨Fm 178 (ov (zXG ao ae af a_1 az aj aV bF) g),[]⟩ σ an)
theorem yLK {Nx:Int→Int→St→Prop} (hL:yPY ao ae af a_1 az aj aV aD σ P8) (k8:∀ i13_5' σ',P8 i13_5' σ'→zNI ao ae af a_1 az aj aV i13_5' σ' Nx Q4):zXL ao ae af a_1 az aj aD aV σ Nx Q4 :=
 sK [.lf 178 (zLL ao ae af a_1 az aj aV aD) [zNE ao ae af a_1 az aj aV P8]] (ai (ai tt (ai (arf (zLL ao ae af a_1 az aj aV aD)) hL)) (ai (kz1 k8) trivial))
theorem yLJ {Nx:Int→Int→St→Prop} (nx:Q4 bF σ) (u1:bF<aV:=by omega):zNI ao ae af a_1 az aj aV bF σ Nx Q4 :=
 sF 1 bF [.g,.g,.b true] (fun _ f=>(ai (zJ u1) f)) nx
theorem yLI {Nx:Int→Int→St→Prop} (h1:zB Pg σ 47 (zH ao (Int.toNat bF*3))=some (.agg ⟨rcd nBV nBW nBX⟩)) (h2:zB Pg σ 47 (zH ao (Int.toNat aV*3))=some (.agg ⟨rcd nBY nBZ nBa⟩)) (h3:zL Pg (evL [.pointer (some (zH ao (Int.toNat aV*3))),.agg ⟨rcd nBV nBW nBX⟩]) σ (.store 47 (.tmp 0) (.tmp 1))=some (undef,σFB)) (h4:zL Pg (evL [.pointer (some (zH ao (Int.toNat bF*3))),.agg ⟨rcd nBY nBZ nBa⟩]) σFB (.store 47 (.tmp 0) (.tmp 1))=some (undef,σGB)) (nx:Nx (aV+1) (bF-1) σGB) (u1:¬ bF<aV:=by omega) (u2:Ix bF ae:=by omega) (u3:Ix aV ae:=by omega) (u4:I6 (aV+1):=by omega) (u5:I6 (bF-1):=by omega):zNI ao ae af a_1 az aj aV bF σ Nx Q4 :=
 sF 0 (aV+1,bF-1) [.g,.g,.b false,.g,.g,.g,.g,.g,.g,.i,.l (.agg ⟨rcd nBV nBW nBX⟩),.g,.g,.i,.l (.agg ⟨rcd nBY nBZ nBa⟩),.i,.e undef σFB,.i,.e undef σGB,.g,.n (aV+1),.g,.g,.n (bF-1),.g] (fun _ f=>(an5 (zM u1) u2 h1 u3 h2 (an6 u3 h3 u2 h4 (w64 u4) (w64 u5) f))) nx
def zXM (ao:Addr) (ae af:Nat) (a_1:Int) (az:FuncId) (aj:List Value) (aD:Int) (σ:St) (Q:Value→St→Prop):Prop:=∀ g:Nat→Value,∃ an,Hid (kAt Pg (zS Pg) none (zO Pg 87) [1,1,1,1,1,1,1,1,1,0,0] (kFn Pg 87 Q) (.exit 4) ⟨Fm 178 (ov (zXI ao ae af a_1 az aj aD) g),[]⟩ σ an)
theorem yLM (h1:zB Pg σ 47 (zH ao (Int.toNat bB*3))=some (.agg ⟨rcd nWB nIC nJC⟩)) (h2:zB Pg σ 47 (zH ao (Int.toNat aT*3))=some (.agg ⟨rcd nXB nYB nZB⟩)) (h3:zL Pg (evL [.pointer (some (zH ao (Int.toNat aT*3))),.agg ⟨rcd nWB nIC nJC⟩]) σ (.store 47 (.tmp 0) (.tmp 1))=some (undef,σH)) (h4:zL Pg (evL [.pointer (some (zH ao (Int.toNat bB*3))),.agg ⟨rcd nXB nYB nZB⟩]) σH (.store 47 (.tmp 0) (.tmp 1))=some (undef,σQ)) (hL:yQA ao ae af a_1 az aj (aT+1) (bB-1) σQ P4) (k4:∀ i13_3' σ',P4 i13_3' σ'→zXM ao ae af a_1 az aj i13_3' σ' Q) (u1:¬ bB<aT:=by omega) (u2:Ix bB ae:=by omega) (u3:Ix aT ae:=by omega) (u4:I6 (aT+1):=by omega) (u5:I6 (bB-1):=by omega):zNJ ao ae af a_1 az aj aT bB σ Q :=
 let s1:=zQQ ao ae af a_1 az aj (aT+1) (bB-1);sK [.g,.g,.b false,.g,.g,.g,.g,.g,.g,.i,.l (.agg ⟨rcd nWB nIC nJC⟩),.g,.g,.i,.l (.agg ⟨rcd nXB nYB nZB⟩),.i,.e undef σH,.i,.e undef σQ,.g,.n (aT+1),.g,.g,.n (bB-1),.g,.lf 178 s1 [zCZ ao ae af a_1 az aj P4]] (an5 (zM u1) u2 h1 u3 h2 (an6 u3 h3 u2 h4 (w64 u4) (w64 u5) (ai (ai tt (ai (arf s1) hL)) (ai (kz1 k4) trivial))))
theorem yLL (h1:zB Pg σ 47 (zH ao (Int.toNat a_1*3))=some (.agg ⟨rcd nBb nBc nBd⟩)) (h2:zB Pg σ 47 (zH ao (Int.toNat aD*3))=some (.agg ⟨rcd nBe nBf nBg⟩)) (h3:zL Pg (evL [.pointer (some (zH ao (Int.toNat aD*3))),.agg ⟨rcd nBb nBc nBd⟩]) σ (.store 47 (.tmp 0) (.tmp 1))=some (undef,σHB)) (h4:zL Pg (evL [.pointer (some (zH ao (Int.toNat a_1*3))),.agg ⟨rcd nBe nBf nBg⟩]) σHB (.store 47 (.tmp 0) (.tmp 1))=some (undef,σIB)) (nx:Q (.tuple ⟨[iV aD,.bool false]⟩) σIB) (u1:Ix a_1 ae:=by omega) (u2:Ix aD ae:=by omega):zXM ao ae af a_1 az aj aD σ Q :=
 sK [.g,.g,.g,.g,.g,.g,.i,.l (.agg ⟨rcd nBb nBc nBd⟩),.g,.g,.i,.l (.agg ⟨rcd nBe nBf nBg⟩),.i,.e undef σHB,.i,.e undef σIB,.g,.g,.g] (an2 u1 h1 (an6 u2 h2 u2 h3 u1 h4 nx))
noncomputable def zGI:Code:=(Code.part [1,1,0,1,0,0] (zO Pg 85))
def zLP (data:Option Addr) (ae af:Nat) (a_1 b:Int) (az:FuncId) (aj:List Value) (bE aB:Int):List (Nat × Value):=[(0,.slice data ae af),(1,iV a_1),(2,iV b),(3,.func (.func az) ⟨[]⟩ ⟨aj⟩),(9,iV bE),(10,iV aB)]
def zIA (data:Option Addr) (ae af:Nat) (a_1 b:Int) (az:FuncId) (aj:List Value) (Q:Int→Int→St→Prop):Alt:=⟨Int × Int,.normal,fun t=>zLP data ae af a_1 b az aj t.1 t.2,fun t=>[],fun t σ=>Q t.1 t.2 σ⟩
def zTA (data:Option Addr) (ae af:Nat) (a_1 b:Int) (az:FuncId) (aj:List Value):List (Nat × Value):=[]
def uW (data:Option Addr) (ae af:Nat) (a_1 b:Int) (az:FuncId) (aj:List Value) (Q:St→Prop):Alt:=⟨Unit,(.exit 0),fun t=>zTA data ae af a_1 b az aj,fun t=>[],fun t σ=>Q σ⟩
def zSZ (data:Option Addr) (ae af:Nat) (a_1 b:Int) (az:FuncId) (aj:List Value) (t8_1:Bool):List (Nat × Value):=[(8,.bool t8_1)]
def uV (data:Option Addr) (ae af:Nat) (a_1 b:Int) (az:FuncId) (aj:List Value) (Q:Bool→St→Prop):Alt:=⟨Bool,.ret,fun t=>zSZ data ae af a_1 b az aj t,fun t=>[],fun t σ=>Q t σ⟩
def zTE (data:Option Addr) (ae af:Nat) (a_1 b:Int) (az:FuncId) (aj:List Value) (bE aB:Int) (σ:St) (Nx:Int→Int→St→Prop) (Q0:St→Prop) (Qr:Bool→St→Prop):Prop:=yJ Pg (zS Pg) none zGI 141 (zLP data ae af a_1 b az aj bE aB) [] [zIA data ae af a_1 b az aj Nx,uW data ae af a_1 b az aj Q0,uV data ae af a_1 b az aj Qr] σ
def yFQ (data:Option Addr) (ae af:Nat) (a_1 b:Int) (az:FuncId) (aj:List Value) (bE aB:Int) (σ:St) (Q0:St→Prop) (Qr:Bool→St→Prop):Prop:=yR Pg (zS Pg) none zGI 141 (zLP data ae af a_1 b az aj bE aB) [] [uW data ae af a_1 b az aj Q0,uV data ae af a_1 b az aj Qr] σ
theorem yFL {Inv:Nat→Int→Int→St→Prop} (hb:∀ k bE aB σ,Inv k bE aB σ→zTE data ae af a_1 b az aj bE aB σ (NX2 Inv k) Q0 Qr):∀ k bE aB σ,Inv k bE aB σ→yFQ data ae af a_1 b az aj bE aB σ Q0 Qr :=
 zNL (ai (wA 0) (ai zAQ trivial)) hb
noncomputable def yFO:Code:=(Code.part [1,1,0,1,0,0,1,0,0,0,0,0] (zO Pg 85))
def zGH (data:Option Addr) (ae af:Nat) (a_1 b:Int) (az:FuncId) (aj:List Value) (aB aN:Int):List (Nat × Value):=[(0,.slice data ae af),(1,iV a_1),(2,iV b),(3,.func (.func az) ⟨[]⟩ ⟨aj⟩),(9,iV aN),(10,iV aB)]
def yUH (data:Option Addr) (ae af:Nat) (a_1 b:Int) (az:FuncId) (aj:List Value) (aB:Int) (Q:Int→St→Prop):Alt:=⟨Int,.normal,fun t=>zGH data ae af a_1 b az aj aB t,fun t=>[],fun t σ=>Q t σ⟩
def zSY (data:Option Addr) (ae af:Nat) (a_1 b:Int) (az:FuncId) (aj:List Value) (aB aN:Int):List (Nat × Value):=[(0,.slice data ae af),(1,iV a_1),(2,iV b),(3,.func (.func az) ⟨[]⟩ ⟨aj⟩),(9,iV aN),(10,iV aB)]
def zJZ (data:Option Addr) (ae af:Nat) (a_1 b:Int) (az:FuncId) (aj:List Value) (aB:Int) (Q:Int→St→Prop):Alt:=⟨Int,(.exit 2),fun t=>zSY data ae af a_1 b az aj aB t,fun t=>[],fun t σ=>Q t σ⟩
def zLS (data:Option Addr) (ae af:Nat) (a_1 b:Int) (az:FuncId) (aj:List Value) (aB aN:Int) (σ:St) (Nx:Int→St→Prop) (Q2:Int→St→Prop):Prop:=yJ Pg (zS Pg) none yFO 141 (zGH data ae af a_1 b az aj aB aN) [] [yUH data ae af a_1 b az aj aB Nx,zJZ data ae af a_1 b az aj aB Q2] σ
def yFP (data:Option Addr) (ae af:Nat) (a_1 b:Int) (az:FuncId) (aj:List Value) (aB aN:Int) (σ:St) (Q2:Int→St→Prop):Prop:=yR Pg (zS Pg) none yFO 141 (zGH data ae af a_1 b az aj aB aN) [] [zJZ data ae af a_1 b az aj aB Q2] σ
theorem yFK (hb:∀ k aN σ,Inv k aN σ→zLS data ae af a_1 b az aj aB aN σ (NX1 Inv k) Q2):∀ k aN σ,Inv k aN σ→yFP data ae af a_1 b az aj aB aN σ Q2 :=
 yV (ai (wA 2) trivial) hb
theorem yUC (h1:zB Pg σ 47 (zH ao (Int.toNat aN*3))=some (.agg ⟨rcd nM nR nS⟩)) (h2:zB Pg σ 47 (zH ao (Int.toNat (aN-1)*3))=some (.agg ⟨rcd nN nG nH⟩)) (h3:zD Pg az (.agg ⟨rcd nM nR nS⟩::.agg ⟨rcd nN nG nH⟩::aj) σ (iV nJ) σ) (nx:Q2 aN σ) (u1:aN<b:=by omega) (u2:Ix aN ae:=by omega) (u3:I6 (aN-1):=by omega) (u4:Ix (aN-1) ae:=by omega) (u5:nJ<0:=by omega):zLS (some ao) ae af a_1 b az aj aB aN σ Nx Q2 :=
 kO 1 aN [.g,.g,.b true,.g,.g,.g,.g,.i,.l (.agg ⟨rcd nM nR nS⟩),.g,.g,.n (aN-1),.i,.l (.agg ⟨rcd nN nG nH⟩),.c (iV nJ) σ,.b true,.g,.g] (fun _ f=>(an2 (zJ u1) u2 (an6 h1 (w64 u3) u4 h2 h3 (zJ u5) f))) nx
theorem yUB (h1:zB Pg σ 47 (zH ao (Int.toNat aN*3))=some (.agg ⟨rcd nM nR nS⟩)) (h2:zB Pg σ 47 (zH ao (Int.toNat (aN-1)*3))=some (.agg ⟨rcd nN nG nH⟩)) (h3:zD Pg az (.agg ⟨rcd nM nR nS⟩::.agg ⟨rcd nN nG nH⟩::aj) σ (iV nJ) σ) (nx:Nx (aN+1) σ) (u1:aN<b:=by omega) (u2:Ix aN ae:=by omega) (u3:I6 (aN-1):=by omega) (u4:Ix (aN-1) ae:=by omega) (u5:¬ nJ<0:=by omega) (u6:I6 (aN+1):=by omega):zLS (some ao) ae af a_1 b az aj aB aN σ Nx Q2 :=
 kO 0 (aN+1) [.g,.g,.b true,.g,.g,.g,.g,.i,.l (.agg ⟨rcd nM nR nS⟩),.g,.g,.n (aN-1),.i,.l (.agg ⟨rcd nN nG nH⟩),.c (iV nJ) σ,.b false,.g,.g,.g,.n (aN+1),.g] (fun _ f=>(an3 (zJ u1) u2 h1 (an6 (w64 u3) u4 h2 h3 (zM u5) (w64 u6) f))) nx
theorem yUA (nx:Q2 aN σ) (u1:¬ aN<b:=by omega):zLS data ae af a_1 b az aj aB aN σ Nx Q2 :=
 kO 1 aN [.g,.g,.b false,.g,.g] (fun _ f=>(ai (zM u1) f)) nx
def uX (data:Option Addr) (ae af:Nat) (a_1 b:Int) (az:FuncId) (aj:List Value) (aB aN:Int) (σ:St) (Nx:Int→Int→St→Prop) (Q0:St→Prop) (Qr:Bool→St→Prop):Prop:=∀ g:Nat→Value,∃ an,Hid (kAt Pg (zS Pg) none zGI [1,0,0,0,0] (zDP 141 [zIA data ae af a_1 b az aj Nx,uW data ae af a_1 b az aj Q0,uV data ae af a_1 b az aj Qr]) (.exit 2) ⟨Fm 141 (ov (zSY data ae af a_1 b az aj aB aN) g),[]⟩ σ an)
theorem yUE {Nx:Int→Int→St→Prop} (hL:yFP data ae af a_1 b az aj aB bE σ P2) (k2:∀ i9_2' σ',P2 i9_2' σ'→uX data ae af a_1 b az aj aB i9_2' σ' Nx Q0 Qr) (u1:aB<5:=by omega):zTE data ae af a_1 b az aj bE aB σ Nx Q0 Qr :=
 zBG [.g,.b true,.lf 141 (zGH data ae af a_1 b az aj aB bE) [zJZ data ae af a_1 b az aj aB P2]] (fun g=>kd (ai (zJ u1) (ai (ai tt (ai (arf (zGH data ae af a_1 b az aj aB bE)) hL)) (ai (kz1 k2) trivial))))
theorem yUD {Nx:Int→Int→St→Prop} (nx:Q0 σ) (u1:¬ aB<5:=by omega):zTE data ae af a_1 b az aj bE aB σ Nx Q0 Qr :=
 kO 1 () [.g,.b false] (fun _ f=>(ai (zM u1) f)) nx
theorem yFE {Nx:Int→Int→St→Prop} (nx:Qr true σ) (u1:aN=b:=by omega):uX data ae af a_1 b az aj aB aN σ Nx Q0 Qr :=
 sF 2 true [.g,.g,.b true,.g] (fun _ f=>(ai (wJ u1) f)) nx
theorem yFD {Nx:Int→Int→St→Prop} (nx:Qr false σ) (u1:¬ aN=b:=by omega) (u2:I6 (b-a_1):=by omega) (u3:(b-a_1)<50:=by omega):uX data ae af a_1 b az aj aB aN σ Nx Q0 Qr :=
 sF 2 false [.g,.g,.b false,.g,.g,.n (b-a_1),.b true,.g] (fun _ f=>(an3 (xB u1) (w64 u2) (zJ u3) f)) nx
noncomputable def yFN:Code:=(Code.part [1,1,0,1,0,0,1,0,0,1,1,1,1,0,1,0,1,0,0] (zO Pg 85))
def zLO (ao:Addr) (ae af:Nat) (a_1 b:Int) (az:FuncId) (aj:List Value) (aN aB bZ:Int):List (Nat × Value):=[(0,.slice (some ao) ae af),(1,iV a_1),(2,iV b),(3,.func (.func az) ⟨[]⟩ ⟨aj⟩),(9,iV aN),(10,iV aB),(11,iV bZ)]
def yUG (ao:Addr) (ae af:Nat) (a_1 b:Int) (az:FuncId) (aj:List Value) (aN aB:Int) (Q:Int→St→Prop):Alt:=⟨Int,.normal,fun t=>zLO ao ae af a_1 b az aj aN aB t,fun t=>[],fun t σ=>Q t σ⟩
def zSX (ao:Addr) (ae af:Nat) (a_1 b:Int) (az:FuncId) (aj:List Value) (aN aB:Int):List (Nat × Value):=[(0,.slice (some ao) ae af),(1,iV a_1),(2,iV b),(3,.func (.func az) ⟨[]⟩ ⟨aj⟩),(9,iV aN),(10,iV aB)]
def zJY (ao:Addr) (ae af:Nat) (a_1 b:Int) (az:FuncId) (aj:List Value) (aN aB:Int) (Q:St→Prop):Alt:=⟨Unit,(.exit 4),fun t=>zSX ao ae af a_1 b az aj aN aB,fun t=>[],fun t σ=>Q σ⟩
def zLR (ao:Addr) (ae af:Nat) (a_1 b:Int) (az:FuncId) (aj:List Value) (aN aB bZ:Int) (σ:St) (Nx:Int→St→Prop) (Q4:St→Prop):Prop:=yJ Pg (zS Pg) none yFN 141 (zLO ao ae af a_1 b az aj aN aB bZ) [] [yUG ao ae af a_1 b az aj aN aB Nx,zJY ao ae af a_1 b az aj aN aB Q4] σ
def zTB (ao:Addr) (ae af:Nat) (a_1 b:Int) (az:FuncId) (aj:List Value) (aN aB bZ:Int) (σ:St) (Q4:St→Prop):Prop:=yR Pg (zS Pg) none yFN 141 (zLO ao ae af a_1 b az aj aN aB bZ) [] [zJY ao ae af a_1 b az aj aN aB Q4] σ
theorem yFJ {Q4:St→Prop} (hb:∀ k bZ σ,Inv k bZ σ→zLR ao ae af a_1 b az aj aN aB bZ σ (NX1 Inv k) Q4):∀ k bZ σ,Inv k bZ σ→zTB ao ae af a_1 b az aj aN aB bZ σ Q4 :=
 yV (ai (wA 4) trivial) hb
theorem yTZ {Q4:St→Prop} (h1:zB Pg σ 47 (zH ao (Int.toNat bZ*3))=some (.agg ⟨rcd nO nKB nZ⟩)) (h2:zB Pg σ 47 (zH ao (Int.toNat (bZ-1)*3))=some (.agg ⟨rcd nLB nNB nFB⟩)) (h3:zD Pg az (.agg ⟨rcd nO nKB nZ⟩::.agg ⟨rcd nLB nNB nFB⟩::aj) σ (iV nIB) σ) (h4:zL Pg (evL [.pointer (some (zH ao (Int.toNat bZ*3))),.agg ⟨rcd nLB nNB nFB⟩]) σ (.store 47 (.tmp 0) (.tmp 1))=some (undef,σJB)) (h5:zL Pg (evL [.pointer (some (zH ao (Int.toNat (bZ-1)*3))),.agg ⟨rcd nO nKB nZ⟩]) σJB (.store 47 (.tmp 0) (.tmp 1))=some (undef,σKB)) (nx:Nx (bZ-1) σKB) (u1:1≤bZ:=by omega) (u2:Ix bZ ae:=by omega) (u3:I6 (bZ-1):=by omega) (u4:Ix (bZ-1) ae:=by omega) (u5:nIB<0:=by omega):zLR ao ae af a_1 b az aj aN aB bZ σ Nx Q4 :=
 let s1:=bZ-1;kO 0 s1 [.g,.b true,.g,.g,.g,.i,.l (.agg ⟨rcd nO nKB nZ⟩),.g,.g,.n s1,.i,.l (.agg ⟨rcd nLB nNB nFB⟩),.c (iV nIB) σ,.b true,.g,.g,.g,.g,.g,.n s1,.g,.g,.n s1,.i,.l (.agg ⟨rcd nLB nNB nFB⟩),.g,.g,.i,.l (.agg ⟨rcd nO nKB nZ⟩),.i,.e undef σJB,.i,.e undef σKB,.g,.n s1,.g] (fun _ f=>(ai (zX u1) (an6 u2 h1 (w64 u3) u4 h2 h3 (an6 (zJ u5) (w64 u3) (w64 u3) u4 h2 u2 (an6 h1 u2 h4 u4 h5 (w64 u3) f))))) nx
theorem yTY {Q4:St→Prop} (h1:zB Pg σ 47 (zH ao (Int.toNat bZ*3))=some (.agg ⟨rcd nO nKB nZ⟩)) (h2:zB Pg σ 47 (zH ao (Int.toNat (bZ-1)*3))=some (.agg ⟨rcd nLB nNB nFB⟩)) (h3:zD Pg az (.agg ⟨rcd nO nKB nZ⟩::.agg ⟨rcd nLB nNB nFB⟩::aj) σ (iV nIB) σ) (nx:Q4 σ) (u1:1≤bZ:=by omega) (u2:Ix bZ ae:=by omega) (u3:I6 (bZ-1):=by omega) (u4:Ix (bZ-1) ae:=by omega) (u5:¬ nIB<0:=by omega):zLR ao ae af a_1 b az aj aN aB bZ σ Nx Q4 :=
 kO 1 () [.g,.b true,.g,.g,.g,.i,.l (.agg ⟨rcd nO nKB nZ⟩),.g,.g,.n (bZ-1),.i,.l (.agg ⟨rcd nLB nNB nFB⟩),.c (iV nIB) σ,.b false,.g] (fun _ f=>(an2 (zX u1) u2 (an6 h1 (w64 u3) u4 h2 h3 (zM u5) f))) nx
theorem yTX {Q4:St→Prop} (nx:Q4 σ) (u1:¬ 1≤bZ:=by omega):zLR ao ae af a_1 b az aj aN aB bZ σ Nx Q4 :=
 kO 1 () [.g,.b false] (fun _ f=>(ai (yB u1) f)) nx
def zKB (data:Option Addr) (ao:Addr) (ae af:Nat) (a_1 b:Int) (az:FuncId) (aj:List Value) (aN aB:Int) (σ:St) (Nx:Int→Int→St→Prop) (Q0:St→Prop) (Qr:Bool→St→Prop):Prop:=∀ g:Nat→Value,∃ an,Hid (kAt Pg (zS Pg) none zGI [1,0,0,1,1,1,1,0,1,0,1,0] (zDP 141 [zIA data ae af a_1 b az aj Nx,uW data ae af a_1 b az aj Q0,uV data ae af a_1 b az aj Qr]) (.exit 4) ⟨Fm 141 (ov (zSX ao ae af a_1 b az aj aN aB) g),[]⟩ σ an)
theorem yFC {Nx:Int→Int→St→Prop} {P4:St→Prop} (h1:zB Pg σ 47 (zH ao (Int.toNat (aN-1)*3))=some (.agg ⟨rcd nJB nHB nAC⟩)) (h2:zB Pg σ 47 (zH ao (Int.toNat aN*3))=some (.agg ⟨rcd nBC nCC nDC⟩)) (h3:zL Pg (evL [.pointer (some (zH ao (Int.toNat aN*3))),.agg ⟨rcd nJB nHB nAC⟩]) σ (.store 47 (.tmp 0) (.tmp 1))=some (undef,σM)) (h4:zL Pg (evL [.pointer (some (zH ao (Int.toNat (aN-1)*3))),.agg ⟨rcd nBC nCC nDC⟩]) σM (.store 47 (.tmp 0) (.tmp 1))=some (undef,σN)) (hL:zTB ao ae af a_1 b az aj aN aB (aN-1) σN P4) (k4:∀ σ',P4 σ'→zKB (some ao) ao ae af a_1 b az aj aN aB σ' Nx Q0 Qr) (u1:¬ aN=b:=by omega) (u2:I6 (b-a_1):=by omega) (u3:¬ (b-a_1)<50:=by omega) (u4:I6 (aN-1):=by omega) (u5:Ix (aN-1) ae:=by omega) (u6:Ix aN ae:=by omega) (u7:I6 (aN-a_1):=by omega) (u8:2≤(aN-a_1):=by omega):uX (some ao) ae af a_1 b az aj aB aN σ Nx Q0 Qr :=
 let s1:=zLO ao ae af a_1 b az aj aN aB (aN-1);sK [.g,.g,.b false,.g,.g,.n (b-a_1),.b false,.g,.g,.g,.g,.n (aN-1),.g,.g,.n (aN-1),.i,.l (.agg ⟨rcd nJB nHB nAC⟩),.g,.g,.i,.l (.agg ⟨rcd nBC nCC nDC⟩),.i,.e undef σM,.i,.e undef σN,.g,.g,.n (aN-a_1),.b true,.g,.n (aN-1),.g,.lf 141 s1 [zJY ao ae af a_1 b az aj aN aB P4]] (an4 (xB u1) (w64 u2) (zM u3) (w64 u4) (an6 (w64 u4) u5 h1 u6 h2 u6 (an6 h3 u5 h4 (w64 u7) (zX u8) (w64 u4) (ai (ai tt (ai (arf s1) hL)) (ai (kz0 k4) trivial)))))
noncomputable def yFM:Code:=(Code.part [1,1,0,1,0,0,1,0,0,1,1,1,1,1,1,0,1,0,0] (zO Pg 85))
def zGG (ao:Addr) (ae af:Nat) (a_1 b:Int) (az:FuncId) (aj:List Value) (aN aB aV:Int):List (Nat × Value):=[(0,.slice (some ao) ae af),(1,iV a_1),(2,iV b),(3,.func (.func az) ⟨[]⟩ ⟨aj⟩),(9,iV aN),(10,iV aB),(12,iV aV)]
def yUF (ao:Addr) (ae af:Nat) (a_1 b:Int) (az:FuncId) (aj:List Value) (aN aB:Int) (Q:Int→St→Prop):Alt:=⟨Int,.normal,fun t=>zGG ao ae af a_1 b az aj aN aB t,fun t=>[],fun t σ=>Q t σ⟩
def zSW (ao:Addr) (ae af:Nat) (a_1 b:Int) (az:FuncId) (aj:List Value) (aN aB:Int):List (Nat × Value):=[(0,.slice (some ao) ae af),(1,iV a_1),(2,iV b),(3,.func (.func az) ⟨[]⟩ ⟨aj⟩),(9,iV aN),(10,iV aB)]
def zEC (ao:Addr) (ae af:Nat) (a_1 b:Int) (az:FuncId) (aj:List Value) (aN aB:Int) (Q:St→Prop):Alt:=⟨Unit,(.exit 6),fun t=>zSW ao ae af a_1 b az aj aN aB,fun t=>[],fun t σ=>Q σ⟩
def zLQ (ao:Addr) (ae af:Nat) (a_1 b:Int) (az:FuncId) (aj:List Value) (aN aB aV:Int) (σ:St) (Nx:Int→St→Prop) (Q6:St→Prop):Prop:=yJ Pg (zS Pg) none yFM 141 (zGG ao ae af a_1 b az aj aN aB aV) [] [yUF ao ae af a_1 b az aj aN aB Nx,zEC ao ae af a_1 b az aj aN aB Q6] σ
def zGJ (ao:Addr) (ae af:Nat) (a_1 b:Int) (az:FuncId) (aj:List Value) (aN aB aV:Int) (σ:St) (Q6:St→Prop):Prop:=yR Pg (zS Pg) none yFM 141 (zGG ao ae af a_1 b az aj aN aB aV) [] [zEC ao ae af a_1 b az aj aN aB Q6] σ
theorem yFI {Q6:St→Prop} (hb:∀ k aV σ,Inv k aV σ→zLQ ao ae af a_1 b az aj aN aB aV σ (NX1 Inv k) Q6):∀ k aV σ,Inv k aV σ→zGJ ao ae af a_1 b az aj aN aB aV σ Q6 :=
 yV (ai (wA 6) trivial) hb
theorem yTW {Q6:St→Prop} (h1:zB Pg σ 47 (zH ao (Int.toNat aV*3))=some (.agg ⟨rcd nY nGB nOB⟩)) (h2:zB Pg σ 47 (zH ao (Int.toNat (aV-1)*3))=some (.agg ⟨rcd nPB nQB nRB⟩)) (h3:zD Pg az (.agg ⟨rcd nY nGB nOB⟩::.agg ⟨rcd nPB nQB nRB⟩::aj) σ (iV nVB) σ) (h4:zL Pg (evL [.pointer (some (zH ao (Int.toNat aV*3))),.agg ⟨rcd nPB nQB nRB⟩]) σ (.store 47 (.tmp 0) (.tmp 1))=some (undef,σLB)) (h5:zL Pg (evL [.pointer (some (zH ao (Int.toNat (aV-1)*3))),.agg ⟨rcd nY nGB nOB⟩]) σLB (.store 47 (.tmp 0) (.tmp 1))=some (undef,σMB)) (nx:Nx (aV+1) σMB) (u1:aV<b:=by omega) (u2:Ix aV ae:=by omega) (u3:I6 (aV-1):=by omega) (u4:Ix (aV-1) ae:=by omega) (u5:nVB<0:=by omega) (u6:I6 (aV+1):=by omega):zLQ ao ae af a_1 b az aj aN aB aV σ Nx Q6 :=
 let s1:=aV-1;kO 0 (aV+1) [.g,.g,.b true,.g,.g,.g,.i,.l (.agg ⟨rcd nY nGB nOB⟩),.g,.g,.n s1,.i,.l (.agg ⟨rcd nPB nQB nRB⟩),.c (iV nVB) σ,.b true,.g,.g,.g,.g,.g,.n s1,.g,.g,.n s1,.i,.l (.agg ⟨rcd nPB nQB nRB⟩),.g,.g,.i,.l (.agg ⟨rcd nY nGB nOB⟩),.i,.e undef σLB,.i,.e undef σMB,.g,.n (aV+1),.g] (fun _ f=>(ai (zJ u1) (an6 u2 h1 (w64 u3) u4 h2 h3 (an6 (zJ u5) (w64 u3) (w64 u3) u4 h2 u2 (an6 h1 u2 h4 u4 h5 (w64 u6) f))))) nx
theorem yTV {Q6:St→Prop} (h1:zB Pg σ 47 (zH ao (Int.toNat aV*3))=some (.agg ⟨rcd nY nGB nOB⟩)) (h2:zB Pg σ 47 (zH ao (Int.toNat (aV-1)*3))=some (.agg ⟨rcd nPB nQB nRB⟩)) (h3:zD Pg az (.agg ⟨rcd nY nGB nOB⟩::.agg ⟨rcd nPB nQB nRB⟩::aj) σ (iV nVB) σ) (nx:Q6 σ) (u1:aV<b:=by omega) (u2:Ix aV ae:=by omega) (u3:I6 (aV-1):=by omega) (u4:Ix (aV-1) ae:=by omega) (u5:¬ nVB<0:=by omega):zLQ ao ae af a_1 b az aj aN aB aV σ Nx Q6 :=
 kO 1 () [.g,.g,.b true,.g,.g,.g,.i,.l (.agg ⟨rcd nY nGB nOB⟩),.g,.g,.n (aV-1),.i,.l (.agg ⟨rcd nPB nQB nRB⟩),.c (iV nVB) σ,.b false,.g] (fun _ f=>(an2 (zJ u1) u2 (an6 h1 (w64 u3) u4 h2 h3 (zM u5) f))) nx
theorem yTU {Q6:St→Prop} (nx:Q6 σ) (u1:¬ aV<b:=by omega):zLQ ao ae af a_1 b az aj aN aB aV σ Nx Q6 :=
 kO 1 () [.g,.g,.b false] (fun _ f=>(ai (zM u1) f)) nx
def zKA (data:Option Addr) (ao:Addr) (ae af:Nat) (a_1 b:Int) (az:FuncId) (aj:List Value) (aN aB:Int) (σ:St) (Nx:Int→Int→St→Prop) (Q0:St→Prop) (Qr:Bool→St→Prop):Prop:=∀ g:Nat→Value,∃ an,Hid (kAt Pg (zS Pg) none zGI [1,0,0,1,1,1,1,1,1,0,1,0] (zDP 141 [zIA data ae af a_1 b az aj Nx,uW data ae af a_1 b az aj Q0,uV data ae af a_1 b az aj Qr]) (.exit 6) ⟨Fm 141 (ov (zSW ao ae af a_1 b az aj aN aB) g),[]⟩ σ an)
theorem yFB {Nx:Int→Int→St→Prop} (h1:zB Pg σ 47 (zH ao (Int.toNat (aN-1)*3))=some (.agg ⟨rcd nJB nHB nAC⟩)) (h2:zB Pg σ 47 (zH ao (Int.toNat aN*3))=some (.agg ⟨rcd nBC nCC nDC⟩)) (h3:zL Pg (evL [.pointer (some (zH ao (Int.toNat aN*3))),.agg ⟨rcd nJB nHB nAC⟩]) σ (.store 47 (.tmp 0) (.tmp 1))=some (undef,σM)) (h4:zL Pg (evL [.pointer (some (zH ao (Int.toNat (aN-1)*3))),.agg ⟨rcd nBC nCC nDC⟩]) σM (.store 47 (.tmp 0) (.tmp 1))=some (undef,σN)) (hL:zGJ ao ae af a_1 b az aj aN aB (aN+1) σN P6) (k6:∀ σ',P6 σ'→zKA (some ao) ao ae af a_1 b az aj aN aB σ' Nx Q0 Qr) (u1:¬ aN=b:=by omega) (u2:I6 (b-a_1):=by omega) (u3:¬ (b-a_1)<50:=by omega) (u4:I6 (aN-1):=by omega) (u5:Ix (aN-1) ae:=by omega) (u6:Ix aN ae:=by omega) (u7:I6 (aN-a_1):=by omega) (u8:¬ 2≤(aN-a_1):=by omega) (u9:I6 (b-aN):=by omega) (u10:2≤(b-aN):=by omega) (u11:I6 (aN+1):=by omega):uX (some ao) ae af a_1 b az aj aB aN σ Nx Q0 Qr :=
 let s1:=zGG ao ae af a_1 b az aj aN aB (aN+1);sK [.g,.g,.b false,.g,.g,.n (b-a_1),.b false,.g,.g,.g,.g,.n (aN-1),.g,.g,.n (aN-1),.i,.l (.agg ⟨rcd nJB nHB nAC⟩),.g,.g,.i,.l (.agg ⟨rcd nBC nCC nDC⟩),.i,.e undef σM,.i,.e undef σN,.g,.g,.n (aN-a_1),.b false,.g,.g,.n (b-aN),.b true,.g,.n (aN+1),.g,.lf 141 s1 [zEC ao ae af a_1 b az aj aN aB P6]] (an6 (xB u1) (w64 u2) (zM u3) (w64 u4) (w64 u4) u5 (an6 h1 u6 h2 u6 h3 u5 (an6 h4 (w64 u7) (yB u8) (w64 u9) (zX u10) (w64 u11) (ai (ai tt (ai (arf s1) hL)) (ai (kz0 k6) trivial)))))
theorem yFA {Nx:Int→Int→St→Prop} (h1:zB Pg σ 47 (zH ao (Int.toNat (aN-1)*3))=some (.agg ⟨rcd nJB nHB nAC⟩)) (h2:zB Pg σ 47 (zH ao (Int.toNat aN*3))=some (.agg ⟨rcd nBC nCC nDC⟩)) (h3:zL Pg (evL [.pointer (some (zH ao (Int.toNat aN*3))),.agg ⟨rcd nJB nHB nAC⟩]) σ (.store 47 (.tmp 0) (.tmp 1))=some (undef,σM)) (h4:zL Pg (evL [.pointer (some (zH ao (Int.toNat (aN-1)*3))),.agg ⟨rcd nBC nCC nDC⟩]) σM (.store 47 (.tmp 0) (.tmp 1))=some (undef,σN)) (nx:Nx aN (aB+1) σN) (u1:¬ aN=b:=by omega) (u2:I6 (b-a_1):=by omega) (u3:¬ (b-a_1)<50:=by omega) (u4:I6 (aN-1):=by omega) (u5:Ix (aN-1) ae:=by omega) (u6:Ix aN ae:=by omega) (u7:I6 (aN-a_1):=by omega) (u8:¬ 2≤(aN-a_1):=by omega) (u9:I6 (b-aN):=by omega) (u10:¬ 2≤(b-aN):=by omega) (u11:I6 (aB+1):=by omega):uX (some ao) ae af a_1 b az aj aB aN σ Nx Q0 Qr :=
 sF 0 (aN,aB+1) [.g,.g,.b false,.g,.g,.n (b-a_1),.b false,.g,.g,.g,.g,.n (aN-1),.g,.g,.n (aN-1),.i,.l (.agg ⟨rcd nJB nHB nAC⟩),.g,.g,.i,.l (.agg ⟨rcd nBC nCC nDC⟩),.i,.e undef σM,.i,.e undef σN,.g,.g,.n (aN-a_1),.b false,.g,.g,.n (b-aN),.b false,.g,.n (aB+1),.g] (fun _ f=>(an6 (xB u1) (w64 u2) (zM u3) (w64 u4) (w64 u4) u5 (an6 h1 u6 h2 u6 h3 u5 (an6 h4 (w64 u7) (yB u8) (w64 u9) (yB u10) (w64 u11) f)))) nx
theorem yEZ {Nx:Int→Int→St→Prop} (hL:zGJ ao ae af a_1 b az aj aN aB (aN+1) σ P6) (k6:∀ σ',P6 σ'→zKA data ao ae af a_1 b az aj aN aB σ' Nx Q0 Qr) (u1:I6 (b-aN):=by omega) (u2:2≤(b-aN):=by omega) (u3:I6 (aN+1):=by omega):zKB data ao ae af a_1 b az aj aN aB σ Nx Q0 Qr :=
 let s1:=zGG ao ae af a_1 b az aj aN aB (aN+1);sK [.g,.g,.n (b-aN),.b true,.g,.n (aN+1),.g,.lf 141 s1 [zEC ao ae af a_1 b az aj aN aB P6]] (an3 (w64 u1) (zX u2) (w64 u3) (ai (ai tt (ai (arf s1) hL)) (ai (kz0 k6) trivial)))
theorem yEY {Nx:Int→Int→St→Prop} (nx:Nx aN (aB+1) σ) (u1:I6 (b-aN):=by omega) (u2:¬ 2≤(b-aN):=by omega) (u3:I6 (aB+1):=by omega):zKB (some ao) ao ae af a_1 b az aj aN aB σ Nx Q0 Qr :=
 sF 0 (aN,aB+1) [.g,.g,.n (b-aN),.b false,.g,.n (aB+1),.g] (fun _ f=>(an3 (w64 u1) (yB u2) (w64 u3) f)) nx
theorem zPJ {Nx:Int→Int→St→Prop} (nx:Nx aN (aB+1) σ) (u1:I6 (aB+1):=by omega):zKA (some ao) ao ae af a_1 b az aj aN aB σ Nx Q0 Qr :=
 sF 0 (aN,aB+1) [.g,.n (aB+1),.g] (fun _ f=>(ai (w64 u1) f)) nx
def zTD (data:Option Addr) (ae af:Nat) (a_1 b:Int) (az:FuncId) (aj:List Value) (σ:St) (Q:Value→St→Prop):Prop:=∀ g:Nat→Value,∃ an,Hid (kAt Pg (zS Pg) none (zO Pg 85) [1,1,0,1,0] (kFn Pg 85 Q) (.exit 0) ⟨Fm 141 (ov (zTA data ae af a_1 b az aj) g),[]⟩ σ an)
def zTC (data:Option Addr) (ae af:Nat) (a_1 b:Int) (az:FuncId) (aj:List Value) (t8_1:Bool) (σ:St) (Q:Value→St→Prop):Prop:=∀ g:Nat→Value,∃ an,Hid (kAt Pg (zS Pg) none (zO Pg 85) [1,1,0,1,0] (kFn Pg 85 Q) .ret ⟨Fm 141 (ov (zSZ data ae af a_1 b az aj t8_1) g),[]⟩ σ an)
theorem yZP {Pr:Bool→St→Prop} (hL:yFQ data ae af a_1 b az aj (a_1+1) 0 σ P0 Pr) (k0:∀ σ',P0 σ'→zTD data ae af a_1 b az aj σ' Q) (kr:∀ t8_1' σ',Pr t8_1' σ'→zTC data ae af a_1 b az aj t8_1' σ' Q) (u1:I6 (a_1+1):=by omega):zI Pg 85 [.slice data ae af,iV a_1,iV b,.func (.func az) ⟨[]⟩ ⟨aj⟩] σ Q :=
 let s1:=zLP data ae af a_1 b az aj (a_1+1) 0;zF [.g,.g,.n (a_1+1),.g,.g,.lf 141 s1 [uW data ae af a_1 b az aj P0,uV data ae af a_1 b az aj Pr]] (kd (ai (w64 u1) (ai (ai tt (ai (arf s1) hL)) (ai (kz0 k0) (ai (kz1 kr) trivial)))))
theorem yFG (nx:Q (.bool false) σ):zTD data ae af a_1 b az aj σ Q :=
 sK [.g] nx
theorem yFF (nx:Q (.bool t8_1) σ):zTC data ae af a_1 b az aj t8_1 σ Q :=
 sK [] nx
end
section
open Go.Sort (swp)
def Cmp (g : FuncId) (gc : List Value) (lt : Rec → Rec → Bool) (V : Rec → Prop) : Prop := ∀ (τ : St) (x y : Rec), V x → V y → ∃ n : Int, zD Pg g (zCB x :: zCB y :: gc) τ (iV n) τ ∧ (n < 0 ↔ lt x y = true)
def yX (V : Rec → Prop) (d : Array Rec) : Prop := ∀ i, i < d.size → V d[i]!
theorem yK (d : Array Rec) (i j : Nat) : (swp d i j).size = d.size := by simp [swp]
theorem yQY (d : Array Rec) (i k : Nat) (x : Rec) (hk : k < d.size) : (d.setIfInBounds i x)[k]! = if i = k then x else d[k]! := by
 rw [getElem!_pos _ k (by simpa using hk), getElem!_pos d k hk, Array.getElem_setIfInBounds]
theorem yX.swp {V : Rec → Prop} {d : Array Rec} (h : yX V d) {i j : Nat} (hi : i < d.size) (hj : j < d.size) : yX V (swp d i j) := by
 intro k hk
 rw [yK] at hk
 unfold Go.Sort.swp
 rw [yQY _ _ _ _ (by simpa using hk), yQY _ _ _ _ hk]
 split
 ·exact h i hi
 ·split
  ·exact h j hj
  ·exact h k hk
theorem zUZ {σ σ' : St} {f : FuncId} {args : List Value} {v : Value} (h : zD Pg f args σ v σ') : σ'.low ≤ σ.low := by
 obtain ⟨N0, hN0⟩ := h
 have hc := hN0 N0 (Nat.le_refl _)
 unfold vD at hc
 split at hc
 ·cases hc
 ·rename_i v1 s1 h1
  unfold vQ at hc
  rcases Bool.eq_false_or_eq_true (Nat.ble σ.y s1.low && zQ RD v1) with e | e
  ·rw [e, cond_true] at hc; simp at hc; rw [← hc.2]; exact Nat.le_refl _
  ·rw [e, cond_false] at hc
   rcases Bool.eq_false_or_eq_true (Nat.ble σ.y s1.y) with e2 | e2
   ·rw [e2, cond_true, xQ, zAV] at hc; simp at hc; rw [← hc.2]; show min _ _ ≤ _; omega
   ·rw [e2, cond_false] at hc; cases hc
theorem xGT {σ s : St} {f : FuncId} {args : List Value} {v : Value} (h : ∃ N0, ∀ N, N0 ≤ N → zS Pg N (.func f) args σ.re = some (v, s)) (h1 : σ.y ≤ s.y) (h2 : s.low < σ.y) : zD Pg f args σ v ⟨s.heap, s.y, min σ.low s.low⟩ := by
 obtain ⟨N0, hN⟩ := h
 refine ⟨N0, fun N hl => ?_⟩
 unfold vD
 rw [show (⟨σ.heap, σ.y, σ.y⟩ : St) = σ.re from rfl, hN N hl]
 show vQ σ v s = _
 unfold vQ
 have e1 : (Nat.ble σ.y s.low && zQ RD v) = false := by
  rw [Bool.and_eq_false_iff]; left
  rw [Bool.eq_false_iff]; intro e; have := (zN _ _).1 e; omega
 have e2 : Nat.ble σ.y s.y = true := (zN _ _).2 h1
 rw [e1, cond_false, e2, cond_true, xQ, zAV]
structure W (σ τ : St) (b : Nat) (s : Option Nat) (d dk : Array Rec) : Prop where
 only : Only (· = b) σ.re τ
 dt : Dt τ b s dk
 low : τ.low ≤ b ∨ dk = d
theorem W.start {σ : St} {b : Nat} {s : Option Nat} {d : Array Rec} (h : Dt σ b s d) : W σ σ.re b s d d := ⟨Only.refl _ _, h, .inr rfl⟩
theorem W.swap {σ τ : St} {b : Nat} {s : Option Nat} {d dk : Array Rec} (w : W σ τ b s d dk) {i j : Int} (h0 : 0 ≤ i) (hi : i < (dk.size : Int)) (k0 : 0 ≤ j) (hj : j < (dk.size : Int)) :
  ∃ τ1 τ2, zL Pg (evL [.pointer (some (zH ⟨b, 0, s⟩ (Int.toNat i * 3))), zCB dk[j.toNat]!]) τ (.store 47 (.tmp 0) (.tmp 1)) = some (undef, τ1) ∧
   zL Pg (evL [.pointer (some (zH ⟨b, 0, s⟩ (Int.toNat j * 3))), zCB dk[i.toNat]!]) τ1 (.store 47 (.tmp 0) (.tmp 1)) = some (undef, τ2) ∧ W σ τ2 b s d (swp dk i.toNat j.toNat) := by
 obtain ⟨τ1, e1, d1, o1, l1⟩ := w.dt.st dk[j.toNat]! h0 hi
 obtain ⟨τ2, e2, d2, o2, l2⟩ := d1.st (i := j) dk[i.toNat]! k0 (by simpa using hj)
 exact ⟨τ1, τ2, e1, e2, ⟨(w.only.trans' o1 (fun b _ h => .inl h)).trans' o2 (fun b _ h => .inl h), d2, .inl l2⟩⟩
def vG (f : FuncId) (args : List Value) (v : Value) (σ : St) (b : Nat) (s : Option Nat) (d d' : Array Rec) : Prop := ∃ σ', zD Pg f args σ v σ' ∧ Only (· = b) σ σ' ∧ Dt σ' b s d' ∧ (σ'.low ≤ b ∨ d' = d)
theorem vG.of {f : FuncId} {args : List Value} {v : Value} {σ : St} {b : Nat} {s : Option Nat} {d d' : Array Rec} (h0 : Dt σ b s d) (h : zI Pg f args σ.re fun v' τ => v' = v ∧ W σ τ b s d d') (hv : zQ RD v = true := by rfl) : vG f args v σ b s d d' := by
  obtain ⟨_, τ, hN, rfl, w⟩ := h
  by_cases hlow : τ.low < σ.y
  · have ho : Only (· = b) σ ⟨τ.heap, τ.y, min σ.low τ.low⟩ := by
      have := w.only.lower (m := 0)
      exact this
    refine ⟨_, xGT hN w.only.y hlow, ho, w.dt, ?_⟩
    rcases w.low with h | h
    · exact .inl (by show min _ _ ≤ _; omega)
    · exact .inr h
  · have hd : d' = d := by
      rcases w.low with h | h
      · have := h0.1; omega
      · exact h
    exact ⟨σ, zI.pure ⟨_, τ, hN, rfl, by omega⟩ hv, Only.refl _ _, by rw [hd]; exact h0, .inr hd⟩
theorem W.call {σ τ : St} {b : Nat} {s : Option Nat} {d dk d' : Array Rec} {f : FuncId} {args : List Value} {v : Value} (w : W σ τ b s d dk) (h : vG f args v τ b s dk d') : ∃ τ', zD Pg f args τ v τ' ∧ W σ τ' b s d d' := by
 obtain ⟨τ', c, o, dt, hl⟩ := h
 refine ⟨τ', c, w.only.trans' o (fun b _ h => .inl h), dt, ?_⟩
 have := zUZ c
 rcases hl with hl | hl
 ·exact .inl hl
 ·rcases w.low with h | h
  ·exact .inl (by omega)
  ·exact .inr (hl.trans h)
section
variable {σ : St} {b c : Nat} {s : Option Nat} {d : Array Rec} {g : FuncId} {gc : List Value} {lt : Rec → Rec → Bool} {V : Rec → Prop}
theorem zJE (lt : Rec → Rec → Bool) (a : Nat) : ∀ (j : Nat) (d : Array Rec), (Go.Sort.insInner lt a j d).size = d.size
 | 0, d => rfl
 | j + 1, d => by
  unfold Go.Sort.insInner
  split
  ·rw [zJE, yK]
  ·rfl
theorem zLZ (lt : Rec → Rec → Bool) (a : Nat) {V : Rec → Prop} : ∀ (j : Nat) (d : Array Rec), j < d.size → yX V d → yX V (Go.Sort.insInner lt a j d)
 | 0, d, _, h => h
 | j + 1, d, hj, h => by
  unfold Go.Sort.insInner
  split
  ·exact zLZ lt a j _ (by rw [yK]; omega) (h.swp hj (by omega))
  ·exact h
theorem xIH {a B : Nat} (h : Dt σ b s d) (hc : Cmp g gc lt V) (hv : yX V d) (hB : B ≤ d.size) (hn : d.size ≤ 1000000) (ha : a ≤ 1000000) :
  vG 80 [.slice (some ⟨b, 0, s⟩) d.size c, iV (a : Int), iV (B : Int), .func (.func g) ⟨[]⟩ ⟨gc⟩] (.tuple ⟨[]⟩) σ b s d (Go.Sort.insertionSort lt d a B) := by
 refine vG.of h (yQM (P0 := fun τ => W σ τ b s d (Go.Sort.insertionSort lt d a B)) (zTZ (Inv := fun k i τ => ∃ (j : Nat) (dk : Array Rec), i = j ∧ k = B - j ∧ W σ τ b s d dk ∧ dk.size = d.size ∧ yX V dk ∧ Go.Sort.insOuter lt a B j dk = Go.Sort.insertionSort lt d a B) ?_ (B - (a + 1)) _ σ.re ⟨a + 1, d, by omega, rfl, W.start h, rfl, hv, rfl⟩) (fun τ hw => zTY ⟨rfl, hw⟩) (by omega))
 rintro k i τ ⟨j, dk, rfl, hk, w, hsz, hall, ht⟩
 by_cases hj : j < B
 rotate_left
 ·rw [Go.Sort.insOuter, if_neg hj] at ht
  exact yGK (by rw [← ht]; exact w) (by omega)
 rw [Go.Sort.insOuter, if_pos hj] at ht
 refine xAS (P2 := fun τ' => W σ τ' b s d (Go.Sort.insInner lt a j dk)) (yMM (Inv := fun k' q' τ' => ∃ (q : Nat) (dq : Array Rec), q' = q ∧ q = k' ∧ q ≤ j ∧ W σ τ' b s d dq ∧ dq.size = d.size ∧ yX V dq ∧ Go.Sort.insInner lt a q dq = Go.Sort.insInner lt a j dk) ?_ j _ τ ⟨j, dk, rfl, rfl, Nat.le_refl _, w, hsz, hall, rfl⟩)
  (fun τ' hw => yML ⟨k - 1, by omega, j + 1, _, by omega, by omega, hw, by rw [zJE, hsz], zLZ _ _ _ _ (by omega) hall, ht⟩ (by omega)) (by omega)
 rintro k' q' τ' ⟨q, dq, rfl, rfl, hq, w', hsz', hall', ht'⟩
 by_cases haq : a < q
 rotate_left
 ·refine xAP ?_ (by omega)
  have e : Go.Sort.insInner lt a q dq = dq := by
   cases q with
   | zero => rfl
   | succ q => unfold Go.Sort.insInner; rw [if_neg (by simp; omega)]
  rw [← ht', e]; exact w'
 obtain ⟨p, rfl⟩ : ∃ p, q = p + 1 := ⟨q - 1, by omega⟩
 have l1 := w'.dt.ld (i := ((p + 1 : Nat) : Int)) (by omega) (by omega)
 have l2 := w'.dt.ld (i := ((p + 1 : Nat) : Int) - 1) (by omega) (by omega)
 have e2 : (((p + 1 : Nat) : Int) - 1).toNat = p := by omega
 obtain ⟨n, hn1, hn2⟩ := hc τ' dq[(((p + 1 : Nat) : Int)).toNat]! dq[(((p + 1 : Nat) : Int) - 1).toNat]! (hall' _ (by omega)) (hall' _ (by omega))
 by_cases hlt : n < 0
 ·have hl := hn2.1 hlt
  rw [e2, Int.toNat_natCast] at hl
  obtain ⟨τ1, τ2, s1, s2, w2⟩ := w'.swap (i := ((p + 1 : Nat) : Int)) (j := ((p + 1 : Nat) : Int) - 1) (by omega) (by omega) (by omega) (by omega)
  rw [e2, Int.toNat_natCast] at w2
  refine xAR l1 l2 hn1 s1 s2 ⟨p, by omega, p, _, by omega, rfl, by omega, w2, by rw [yK, hsz'], hall'.swp (by omega) (by omega), ?_⟩ (by omega) (by omega) (by omega) (by omega) (by omega)
  rw [← ht']
  conv => rhs; unfold Go.Sort.insInner
  rw [if_pos (by simp [hl]; omega)]
 ·have hl : lt dq[p + 1]! dq[p]! = false := by
   rw [Bool.eq_false_iff]
   intro e
   have := hn2.2 (by rw [e2, Int.toNat_natCast]; exact e)
   exact hlt this
  refine xAQ l1 l2 hn1 ?_ (by omega) (by omega) (by omega) (by omega) (by omega)
  have e : Go.Sort.insInner lt a (p + 1) dq = dq := by unfold Go.Sort.insInner; rw [if_neg (by simp [hl])]
  rw [← ht', e]; exact w'
end
end
section
open Go.Sort (swp)
section
variable {σ : St} {b c : Nat} {s : Option Nat} {d : Array Rec} {g : FuncId} {gc : List Value} {lt : Rec → Rec → Bool} {V : Rec → Prop}
theorem Cmp.at_ (hc : Cmp g gc lt V) {τ : St} {dk : Array Rec} (hv : yX V dk) {i j : Nat} (hi : i < dk.size) (hj : j < dk.size) : ∃ n : Int, zD Try.prog g (zCB dk[i]! :: zCB dk[j]! :: gc) τ (iV n) τ ∧ ((n < 0 ∧ lt dk[i]! dk[j]! = true) ∨ (¬ n < 0 ∧ lt dk[i]! dk[j]! = false)) := by
 obtain ⟨n, h1, h2⟩ := hc τ dk[i]! dk[j]! (hv i hi) (hv j hj)
 refine ⟨n, h1, ?_⟩
 by_cases h : n < 0
 ·exact .inl ⟨h, h2.1 h⟩
 ·exact .inr ⟨h, by rw [Bool.eq_false_iff]; exact fun e => h (h2.2 e)⟩
theorem Dt.ldN {τ : St} {dk : Array Rec} (h : Dt τ b s dk) {i : Int} {k : Nat} (e : i = (k : Int)) (hk : k < dk.size) : zB Try.prog τ 47 (zH ⟨b, 0, s⟩ (Int.toNat i * 3)) = some (zCB dk[k]!) := by
 subst e
 exact h.ld (by omega) (by omega)
theorem W.swapN {τ : St} {dk : Array Rec} (w : W σ τ b s d dk) {i j : Int} {p q : Nat} (ei : i = (p : Int)) (ej : j = (q : Int)) (hp : p < dk.size) (hq : q < dk.size) :
  ∃ τ1 τ2, zL Try.prog (evL [.pointer (some (zH ⟨b, 0, s⟩ (Int.toNat i * 3))), zCB dk[q]!]) τ (.store 47 (.tmp 0) (.tmp 1)) = some (undef, τ1) ∧
   zL Try.prog (evL [.pointer (some (zH ⟨b, 0, s⟩ (Int.toNat j * 3))), zCB dk[p]!]) τ1 (.store 47 (.tmp 0) (.tmp 1)) = some (undef, τ2) ∧ W σ τ2 b s d (swp dk p q) := by
 subst ei ej
 have := w.swap (i := (p : Int)) (j := (q : Int)) (by omega) (by omega) (by omega) (by omega)
 simpa only [Int.toNat_natCast] using this
theorem yDU (lt : Rec → Rec → Bool) (hi first root : Nat) (d : Array Rec) : Go.Sort.siftDown lt hi first root d = (if 2 * root + 1 ≥ hi then d else
  if 2 * root + 1 + 1 < hi && lt d[first + (2 * root + 1)]! d[first + (2 * root + 1) + 1]! then
   if !lt d[first + root]! d[first + (2 * root + 2)]! then d else
    if 2 * root + 2 < hi then Go.Sort.siftDown lt hi first (2 * root + 2) (swp d (first + root) (first + (2 * root + 2))) else d
  else
   if !lt d[first + root]! d[first + (2 * root + 1)]! then d else Go.Sort.siftDown lt hi first (2 * root + 1) (swp d (first + root) (first + (2 * root + 1)))) := by
 conv => lhs; unfold Go.Sort.siftDown
 simp only [dite_eq_ite]
theorem zAN (lt : Rec → Rec → Bool) (hi first : Nat) : ∀ (k root : Nat) (d : Array Rec), hi - root ≤ k → (Go.Sort.siftDown lt hi first root d).size = d.size
 | 0, root, d, hk => by unfold Go.Sort.siftDown; rw [dif_pos (by omega)]
 | k + 1, root, d, hk => by
  unfold Go.Sort.siftDown
  split
  ·rfl
  ·split
   ·split
    ·rfl
    ·split
     ·rw [zAN lt hi first k _ _ (by omega), yK]
     ·rfl
   ·split
    ·rfl
    ·rw [zAN lt hi first k _ _ (by omega), yK]
theorem zBE (lt : Rec → Rec → Bool) (hi first : Nat) {V : Rec → Prop} : ∀ (k root : Nat) (d : Array Rec), hi - root ≤ k → first + hi ≤ d.size → yX V d → yX V (Go.Sort.siftDown lt hi first root d)
 | 0, root, d, hk, hs, h => by unfold Go.Sort.siftDown; rw [dif_pos (by omega)]; exact h
 | k + 1, root, d, hk, hs, h => by
  unfold Go.Sort.siftDown
  split
  ·exact h
  ·rename_i h1
   split
   ·split
    ·exact h
    ·split
     ·rename_i h2
      exact zBE lt hi first k _ _ (by omega) (by rw [yK]; exact hs) (h.swp (by omega) (by omega))
     ·exact h
   ·split
    ·exact h
    ·exact zBE lt hi first k _ _ (by omega) (by rw [yK]; exact hs) (h.swp (by omega) (by omega))
theorem yPN {lo hi first : Nat} (h : Dt σ b s d) (hc : Cmp g gc lt V) (hv : yX V d) (hB : first + hi ≤ d.size) (hn : d.size ≤ 1000000) (hlo : lo ≤ 1000000) :
  vG 95 [.slice (some ⟨b, 0, s⟩) d.size c, iV (lo : Int), iV (hi : Int), iV (first : Int), .func (.func g) ⟨[]⟩ ⟨gc⟩] (.tuple ⟨[]⟩) σ b s d (Go.Sort.siftDown lt hi first lo d) := by
 refine vG.of h (yXX (P0 := fun τ => W σ τ b s d (Go.Sort.siftDown lt hi first lo d)) (Pr := fun τ => W σ τ b s d (Go.Sort.siftDown lt hi first lo d)) (yDX (Inv := fun k i τ => ∃ (r : Nat) (dk : Array Rec), i = r ∧ k = hi - r ∧ r ≤ 1000000 + 2 * hi + 2 ∧ W σ τ b s d dk ∧ dk.size = d.size ∧ yX V dk ∧ Go.Sort.siftDown lt hi first r dk = Go.Sort.siftDown lt hi first lo d) ?_ (hi - lo) _ σ.re ⟨lo, d, rfl, rfl, by omega, W.start h, rfl, hv, rfl⟩) (fun τ hw => yDW ⟨rfl, hw⟩) (fun τ hw => yDV ⟨rfl, hw⟩))
 rintro k i τ ⟨r, dk, rfl, hk, hr, w, hsz, hall, ht⟩
 by_cases h1 : 2 * r + 1 ≥ hi
 ·have e : Go.Sort.siftDown lt hi first r dk = dk := by unfold Go.Sort.siftDown; rw [dif_pos h1]
  exact ySG (by rw [← ht, e]; exact w) (by omega) (by omega) (by omega)
 have e0 := yDU lt hi first r dk
 rw [if_neg h1] at e0
 have bR : first + r < dk.size := by omega
 have bC : first + (2 * r + 1) < dk.size := by omega
 have lR := w.dt.ldN (i := (first : Int) + (r : Int)) (k := first + r) (by omega) bR
 have lC := w.dt.ldN (i := (first : Int) + (2 * (r : Int) + 1)) (k := first + (2 * r + 1)) (by omega) bC
 obtain ⟨nC, cC, hC⟩ := hc.at_ (τ := τ) hall bR bC
 by_cases h2 : 2 * r + 1 + 1 < hi
 ·have bD : first + (2 * r + 2) < dk.size := by omega
  have lD1 := w.dt.ldN (i := (first : Int) + (2 * (r : Int) + 1) + 1) (k := first + (2 * r + 2)) (by omega) bD
  have lD2 := w.dt.ldN (i := (first : Int) + (2 * (r : Int) + 1 + 1)) (k := first + (2 * r + 2)) (by omega) bD
  obtain ⟨n1, c1, hc1⟩ := hc.at_ (τ := τ) hall bC bD
  obtain ⟨n2, c2, hc2⟩ := hc.at_ (τ := τ) hall bR bD
  have eD : first + (2 * r + 1) + 1 = first + (2 * r + 2) := by omega
  rcases hc1 with ⟨m1, l1⟩ | ⟨m1, l1⟩
  ·rw [if_pos (by simp [h2, eD, l1])] at e0
   rcases hc2 with ⟨m2, l2⟩ | ⟨m2, l2⟩
   ·rw [if_neg (by simp [l2]), if_pos (by omega)] at e0
    obtain ⟨τ1, τ2, s1, s2, w2⟩ := w.swapN (i := (first : Int) + (r : Int)) (j := (first : Int) + (2 * (r : Int) + 1 + 1)) (p := first + r) (q := first + (2 * r + 2)) (by omega) (by omega) bR bD
    exact ySF lC lD1 c1 lR lD2 c2 s1 s2 ⟨hi - (2 * r + 2), by omega, 2 * r + 2, _, by omega, rfl, by omega, w2, by rw [yK, hsz], hall.swp bR bD, by rw [← e0, ht]⟩ (by omega) (by omega) (by omega) (by omega) (by omega) (by omega) (by omega) (by omega) (by omega) (by omega) (by omega) (by omega) (by omega) (by omega) (by omega)
   ·rw [if_pos (by simp [l2])] at e0
    exact ySE lC lD1 c1 lR lD2 c2 (by rw [← ht, e0]; exact w)
  ·rw [if_neg (by simp [eD, l1])] at e0
   rcases hC with ⟨m2, l2⟩ | ⟨m2, l2⟩
   ·rw [if_neg (by simp [l2])] at e0
    obtain ⟨τ1, τ2, s1, s2, w2⟩ := w.swapN (i := (first : Int) + (r : Int)) (j := (first : Int) + (2 * (r : Int) + 1)) (p := first + r) (q := first + (2 * r + 1)) (by omega) (by omega) bR bC
    exact ySD lC lD1 c1 lR cC s1 s2 ⟨hi - (2 * r + 1), by omega, 2 * r + 1, _, by omega, rfl, by omega, w2, by rw [yK, hsz], hall.swp bR bC, by rw [← e0, ht]⟩
   ·rw [if_pos (by simp [l2])] at e0
    exact ySC lC lD1 c1 lR cC (by rw [← ht, e0]; exact w)
 ·rw [if_neg (by simp [show ¬ 2 * r + 1 + 1 < hi from h2])] at e0
  rcases hC with ⟨m2, l2⟩ | ⟨m2, l2⟩
  ·rw [if_neg (by simp [l2])] at e0
   obtain ⟨τ1, τ2, s1, s2, w2⟩ := w.swapN (i := (first : Int) + (r : Int)) (j := (first : Int) + (2 * (r : Int) + 1)) (p := first + r) (q := first + (2 * r + 1)) (by omega) (by omega) bR bC
   exact ySB lR lC cC s1 s2 ⟨hi - (2 * r + 1), by omega, 2 * r + 1, _, by omega, rfl, by omega, w2, by rw [yK, hsz], hall.swp bR bC, by rw [← e0, ht]⟩
  ·rw [if_pos (by simp [l2])] at e0
   exact ySA lR lC cC (by rw [← ht, e0]; exact w)
end
end
section
open Go.Sort (swp)
section
variable {σ : St} {b c : Nat} {s : Option Nat} {d : Array Rec} {g : FuncId} {gc : List Value} {lt : Rec → Rec → Bool} {V : Rec → Prop}
theorem xFE {a B : Nat} (h : Dt σ b s d) (hc : Cmp g gc lt V) (hv : yX V d) (ha : a ≤ B) (hB : B ≤ d.size) (hn : d.size ≤ 1000000) :
  vG 81 [.slice (some ⟨b, 0, s⟩) d.size c, iV (a : Int), iV (B : Int), .func (.func g) ⟨[]⟩ ⟨gc⟩] (.tuple ⟨[]⟩) σ b s d (Go.Sort.heapSort lt d a B) := by
 have e1 : Int.tdiv (((B : Int) - (a : Int)) - 1) 2 = (((B - a - 1) / 2 : Nat) : Int) := by
  by_cases h0 : B = a
  ·subst h0
   have : ((B : Int) - (B : Int)) - 1 = -1 := by omega
   rw [this]
   have : B - B - 1 = 0 := by omega
   rw [this]; rfl
  ·rw [Int.tdiv_eq_ediv_of_nonneg (by omega)]; omega
 have e2 : (B : Int) - (a : Int) = ((B - a : Nat) : Int) := by omega
 refine vG.of h (xBI (by rw [← wT, e1, zRL (by omega) (by omega)]) (P0 := fun τ => ∃ dk, W σ τ b s d dk ∧ dk.size = d.size ∧ yX V dk ∧ Go.Sort.heapPop lt a (B - a) dk = Go.Sort.heapSort lt d a B)
  (yGU (Inv := fun k i τ => ∃ dk, i = (k : Int) - 1 ∧ k ≤ (B - a - 1) / 2 + 1 ∧ W σ τ b s d dk ∧ dk.size = d.size ∧ yX V dk ∧ Go.Sort.heapPop lt a (B - a) (Go.Sort.heapBuild lt (B - a) a k dk) = Go.Sort.heapSort lt d a B) ?_ ((B - a - 1) / 2 + 1) _ σ.re ⟨d, by rw [e1]; omega, by omega, W.start h, rfl, hv, rfl⟩) ?_)
 ·rintro k i τ ⟨dk, rfl, hk, w, hsz, hall, ht⟩
  cases k with
  | zero => exact yVH ⟨dk, w, hsz, hall, ht⟩ (by omega)
  | succ k =>
   have hs := yPN (c := c) (lo := k) (hi := B - a) (first := a) w.dt hc hall (by omega) (by omega) (by omega)
   obtain ⟨τ', k1, w'⟩ := w.call hs
   rw [hsz] at k1
   rw [← e2] at k1
   rw [show ((k + 1 : Nat) : Int) - 1 = (k : Int) by omega]
   exact yVI k1 ⟨k, by omega, _, by omega, by omega, w', by rw [zAN lt _ _ _ _ _ (Nat.le_refl _), hsz], zBE lt _ _ _ _ _ (Nat.le_refl _) (by omega) hall, ht⟩ (by omega)
 ·rintro τ ⟨dk0, w0, hsz0, hall0, ht0⟩
  refine yGS (P2 := fun τ => W σ τ b s d (Go.Sort.heapSort lt d a B)) (yGT (Inv := fun k i τ => ∃ dk, i = (k : Int) - 1 ∧ k ≤ B - a ∧ W σ τ b s d dk ∧ dk.size = d.size ∧ yX V dk ∧ Go.Sort.heapPop lt a k dk = Go.Sort.heapSort lt d a B) ?_ (B - a) _ τ ⟨dk0, by omega, Nat.le_refl _, w0, hsz0, hall0, ht0⟩) (fun τ hw => yGR ⟨rfl, hw⟩) (by omega)
  rintro k i τ ⟨dk, rfl, hk, w, hsz, hall, ht⟩
  cases k with
  | zero => exact yVF (by rw [← ht]; exact w) (by omega)
  | succ k =>
   have b1 : a + k < dk.size := by omega
   have b2 : a < dk.size := by omega
   rw [show ((k + 1 : Nat) : Int) - 1 = (k : Int) by omega]
   have l1 := w.dt.ldN (i := (a : Int) + (k : Int)) (k := a + k) (by omega) b1
   have l2 := w.dt.ldN (i := (a : Int)) (k := a) rfl b2
   obtain ⟨τ1, τ2, s1, s2, w2⟩ := w.swapN (i := (a : Int)) (j := (a : Int) + (k : Int)) (p := a) (q := a + k) rfl (by omega) b2 b1
   have hall2 := hall.swp b2 b1
   have hs := yPN (c := c) (lo := 0) (hi := k) (first := a) w2.dt hc hall2 (by rw [yK]; omega) (by rw [yK]; omega) (by omega)
   obtain ⟨τ', k1, w'⟩ := w2.call hs
   rw [yK, hsz] at k1
   exact yVG l1 l2 s1 s2 k1 ⟨k, by omega, _, by omega, by omega, w', by rw [zAN lt _ _ _ _ _ (Nat.le_refl _), yK, hsz], zBE lt _ _ _ _ _ (Nat.le_refl _) (by rw [yK]; omega) hall2, ht⟩ (by omega) (by omega) (by omega) (by omega)
theorem xHZ {a B cg : Nat} (h : Dt σ b s d) (hc : Cmp g gc lt V) (hv : yX V d) (ha : a ≤ cg) (hp : cg < B) (hB : B ≤ d.size) (hn : d.size ≤ 1000000) :
  vG 87 [.slice (some ⟨b, 0, s⟩) d.size c, iV (a : Int), iV (B : Int), iV (cg : Int), .func (.func g) ⟨[]⟩ ⟨gc⟩] (.tuple ⟨[iV ((Go.Sort.partition lt d a B cg).1 : Int), .bool (Go.Sort.partition lt d a B cg).2.1]⟩) σ b s d (Go.Sort.partition lt d a B cg).2.2 := by
 have w0 := W.start h
 obtain ⟨τ1, τ2, s1, s2, w1⟩ := w0.swapN (i := (a : Int)) (j := (cg : Int)) (p := a) (q := cg) rfl rfl (by omega) (by omega)
 obtain ⟨d1, hd1⟩ : ∃ d1, d1 = swp d a cg := ⟨_, rfl⟩
 have hall1 : yX V d1 := by rw [hd1]; exact hv.swp (by omega) (by omega)
 have hsz1 : d1.size = d.size := by rw [hd1, yK]
 rw [← hd1] at w1
 have l0 := w0.dt.ldN (i := (cg : Int)) (k := cg) rfl (by omega)
 have l0' := w0.dt.ldN (i := (a : Int)) (k := a) rfl (by omega)
 obtain ⟨i1, hi1⟩ : ∃ i1, i1 = Go.Sort.scanUp (fun x => lt x d1[a]!) d1 (B - 1) (a + 1) := ⟨_, rfl⟩
 obtain ⟨j1, hj1⟩ : ∃ j1, j1 = Go.Sort.scanDown (fun x => !lt x d1[a]!) d1 i1 (B - 1) := ⟨_, rfl⟩
 have hres : Go.Sort.partition lt d a B cg = if i1 > j1 then (j1, true, swp d1 j1 a) else ((Go.Sort.partLoop lt a (i1 + 1) (j1 - 1) (swp d1 i1 j1)).1, false, swp (Go.Sort.partLoop lt a (i1 + 1) (j1 - 1) (swp d1 i1 j1)).2 (Go.Sort.partLoop lt a (i1 + 1) (j1 - 1) (swp d1 i1 j1)).1 a) := by
  unfold Go.Sort.partition
  simp only [← hd1, ← hi1, ← hj1]
 refine vG.of h (xEO l0 l0' s1 s2 (P0 := fun i τ => i = (i1 : Int) ∧ a + 1 ≤ i1 ∧ i1 ≤ B ∧ W σ τ b s d d1)
  (yLT (Inv := fun k i τ => ∃ p : Nat, i = p ∧ p + k = B ∧ a + 1 ≤ p ∧ W σ τ b s d d1 ∧ Go.Sort.scanUp (fun x => lt x d1[a]!) d1 (B - 1) p = i1) ?_ (B - (a + 1)) _ τ2 ⟨a + 1, by omega, by omega, by omega, w1, hi1.symm⟩) ?_)
 ·rintro k i τ ⟨p, rfl, hk, hap, w, ht⟩
  by_cases hpj : p ≤ B - 1
  rotate_left
  ·rw [Go.Sort.scanUp, if_neg (by simp; omega)] at ht
   exact yZI ⟨by rw [ht], by omega, by omega, w⟩ (by omega)
  have lp := w.dt.ldN (i := (p : Int)) (k := p) rfl (by omega)
  have la := w.dt.ldN (i := (a : Int)) (k := a) rfl (by omega)
  obtain ⟨n, cn, ⟨m1, hl⟩ | ⟨m1, hl⟩⟩ := hc.at_ (τ := τ) hall1 (i := p) (j := a) (by omega) (by omega)
  ·rw [Go.Sort.scanUp, if_pos (by simp [hl]; omega)] at ht
   exact yZK lp la cn ⟨k - 1, by omega, p + 1, by omega, by omega, by omega, w, ht⟩
  ·rw [Go.Sort.scanUp, if_neg (by simp [hl])] at ht
   exact yZJ lp la cn ⟨by rw [ht], by omega, by omega, w⟩
 rintro i τ ⟨rfl, hai, hiB, w⟩
 refine yLO (P2 := fun j τ => j = (j1 : Int) ∧ j1 < B ∧ i1 ≤ j1 + 1 ∧ W σ τ b s d d1)
  (yLS (Inv := fun k j τ => ∃ q : Nat, j = q ∧ q = k ∧ q < B ∧ i1 ≤ q + 1 ∧ W σ τ b s d d1 ∧ Go.Sort.scanDown (fun x => !lt x d1[a]!) d1 i1 q = j1) ?_ (B - 1) _ τ ⟨B - 1, by omega, rfl, by omega, by omega, w, hj1.symm⟩) ?_
 ·rintro k j τ ⟨q, rfl, rfl, hqB, hiq, w, ht⟩
  by_cases hij : i1 ≤ q
  rotate_left
  ·have e : j1 = q := by
    cases q with
    | zero => rw [← ht]; rfl
    | succ q => rw [← ht, Go.Sort.scanDown, if_neg (by simp; omega)]
   exact yZF ⟨by rw [e], by omega, by omega, w⟩ (by omega)
  obtain ⟨q', rfl⟩ : ∃ q', q = q' + 1 := ⟨q - 1, by omega⟩
  have lp := w.dt.ldN (i := ((q' + 1 : Nat) : Int)) (k := q' + 1) rfl (by omega)
  have la := w.dt.ldN (i := (a : Int)) (k := a) rfl (by omega)
  obtain ⟨n, cn, ⟨m1, hl⟩ | ⟨m1, hl⟩⟩ := hc.at_ (τ := τ) hall1 (i := q' + 1) (j := a) (by omega) (by omega)
  ·rw [Go.Sort.scanDown, if_neg (by simp [hl])] at ht
   exact yZH lp la cn ⟨by rw [ht], by omega, by omega, w⟩
  ·rw [Go.Sort.scanDown, if_pos (by simp [hl]; omega)] at ht
   exact yZG lp la cn ⟨q', by omega, q', by omega, rfl, by omega, by omega, w, ht⟩
 rintro j τ ⟨rfl, hjB, hij1, w⟩
 by_cases hgt : i1 > j1
 ·rw [if_pos hgt] at hres
  have lj := w.dt.ldN (i := (j1 : Int)) (k := j1) rfl (by omega)
  have la := w.dt.ldN (i := (a : Int)) (k := a) rfl (by omega)
  obtain ⟨τ3, τ4, t1, t2, w4⟩ := w.swapN (i := (j1 : Int)) (j := (a : Int)) (p := j1) (q := a) rfl rfl (by omega) (by omega)
  exact yLN la lj t1 t2 ⟨by rw [hres], by rw [hres]; exact w4⟩
 rw [if_neg hgt] at hres
 have lj := w.dt.ldN (i := (j1 : Int)) (k := j1) rfl (by omega)
 have li := w.dt.ldN (i := (i1 : Int)) (k := i1) rfl (by omega)
 obtain ⟨τ3, τ4, t1, t2, w4⟩ := w.swapN (i := (i1 : Int)) (j := (j1 : Int)) (p := i1) (q := j1) rfl rfl (by omega) (by omega)
 obtain ⟨R, hR⟩ : ∃ R, R = Go.Sort.partLoop lt a (i1 + 1) (j1 - 1) (swp d1 i1 j1) := ⟨_, rfl⟩
 rw [← hR] at hres
 have hall4 := hall1.swp (i := i1) (j := j1) (by omega) (by omega)
 refine yLM lj li t1 t2 (P4 := fun j τ => j = (R.1 : Int) ∧ R.1 < B ∧ a ≤ R.1 ∧ R.2.size = d.size ∧ W σ τ b s d R.2)
  (yLR (Inv := fun k i j τ => ∃ (p q : Nat) (dk : Array Rec), i = p ∧ j = q ∧ k = q + 1 - p ∧ a + 1 ≤ p ∧ q < B ∧ a ≤ q ∧ p ≤ q + 2 ∧ dk.size = d.size ∧ yX V dk ∧ W σ τ b s d dk ∧ Go.Sort.partLoop lt a p q dk = R) ?_ (j1 - 1 + 1 - (i1 + 1)) _ _ τ4 ⟨i1 + 1, j1 - 1, _, by omega, by omega, rfl, by omega, by omega, by omega, by omega, by rw [yK, hsz1], hall4, w4, hR.symm⟩) ?_
 rotate_left
 ·rintro j τ ⟨rfl, hRB, hRa, hRs, w⟩
  have lj := w.dt.ldN (i := (R.1 : Int)) (k := R.1) rfl (by omega)
  have la := w.dt.ldN (i := (a : Int)) (k := a) rfl (by omega)
  obtain ⟨τ5, τ6, t1, t2, w6⟩ := w.swapN (i := (R.1 : Int)) (j := (a : Int)) (p := R.1) (q := a) rfl rfl (by omega) (by omega)
  exact yLL la lj t1 t2 ⟨by rw [hres], by rw [hres]; exact w6⟩
 rintro k i j τ ⟨p, q, dk, rfl, rfl, hk, hap, hqB, haq, hpq, hsz, hall, w, ht⟩
 obtain ⟨i2, hi2⟩ : ∃ i2, i2 = Go.Sort.scanUp (fun x => lt x dk[a]!) dk q p := ⟨_, rfl⟩
 obtain ⟨j2, hj2⟩ : ∃ j2, j2 = Go.Sort.scanDown (fun x => !lt x dk[a]!) dk i2 q := ⟨_, rfl⟩
 have hstep : Go.Sort.partLoop lt a p q dk = if i2 > j2 then (j2, dk) else if (j2 - 1) + 1 - (i2 + 1) < q + 1 - p then Go.Sort.partLoop lt a (i2 + 1) (j2 - 1) (swp dk i2 j2) else (j2, dk) := by
  conv => lhs; unfold Go.Sort.partLoop
  simp only [dite_eq_ite, ← hi2, ← hj2]
 refine yZE (P6 := fun i τ => i = (i2 : Int) ∧ p ≤ i2 ∧ i2 ≤ q + 2 ∧ (i2 ≤ q + 1 ∨ i2 = p) ∧ W σ τ b s d dk)
  (yLQ (Inv := fun k i τ => ∃ u : Nat, i = u ∧ u + k = q + 2 ∧ p ≤ u ∧ (u ≤ q + 1 ∨ u = p) ∧ W σ τ b s d dk ∧ Go.Sort.scanUp (fun x => lt x dk[a]!) dk q u = i2) ?_ (q + 2 - p) _ τ ⟨p, rfl, by omega, Nat.le_refl _, .inr rfl, w, hi2.symm⟩) ?_
 ·rintro k i τ ⟨u, rfl, hk, hpu, huq, w, ht⟩
  by_cases hpj : u ≤ q
  rotate_left
  ·rw [Go.Sort.scanUp, if_neg (by simp; omega)] at ht
   exact yZB ⟨by rw [ht], by omega, by omega, by omega, w⟩ (by omega)
  have lp := w.dt.ldN (i := (u : Int)) (k := u) rfl (by omega)
  have la := w.dt.ldN (i := (a : Int)) (k := a) rfl (by omega)
  obtain ⟨n, cn, ⟨m1, hl⟩ | ⟨m1, hl⟩⟩ := hc.at_ (τ := τ) hall (i := u) (j := a) (by omega) (by omega)
  ·rw [Go.Sort.scanUp, if_pos (by simp [hl]; omega)] at ht
   exact yZD lp la cn ⟨k - 1, by omega, u + 1, by omega, by omega, by omega, by omega, w, ht⟩
  ·rw [Go.Sort.scanUp, if_neg (by simp [hl])] at ht
   exact yZC lp la cn ⟨by rw [ht], by omega, by omega, by omega, w⟩
 rintro i τ ⟨rfl, hpi, hiq, hiq2, w⟩
 refine yLK (P8 := fun j τ => j = (j2 : Int) ∧ j2 ≤ q ∧ (i2 ≤ j2 + 1 ∨ j2 = q) ∧ W σ τ b s d dk)
  (yLP (Inv := fun k j τ => ∃ v : Nat, j = v ∧ v = k ∧ v ≤ q ∧ (i2 ≤ v + 1 ∨ v = q) ∧ W σ τ b s d dk ∧ Go.Sort.scanDown (fun x => !lt x dk[a]!) dk i2 v = j2) ?_ q _ τ ⟨q, rfl, rfl, Nat.le_refl _, .inr rfl, w, hj2.symm⟩) ?_
 ·rintro k j τ ⟨v, rfl, rfl, hvq, hiv, w, ht⟩
  by_cases hij : i2 ≤ v
  rotate_left
  ·have e : j2 = v := by
    cases v with
    | zero => rw [← ht]; rfl
    | succ v => rw [← ht, Go.Sort.scanDown, if_neg (by simp; omega)]
   exact yYY ⟨by rw [e], by omega, by omega, w⟩ (by omega)
  obtain ⟨v', rfl⟩ : ∃ v', v = v' + 1 := ⟨v - 1, by omega⟩
  have lp := w.dt.ldN (i := ((v' + 1 : Nat) : Int)) (k := v' + 1) rfl (by omega)
  have la := w.dt.ldN (i := (a : Int)) (k := a) rfl (by omega)
  obtain ⟨n, cn, ⟨m1, hl⟩ | ⟨m1, hl⟩⟩ := hc.at_ (τ := τ) hall (i := v' + 1) (j := a) (by omega) (by omega)
  ·rw [Go.Sort.scanDown, if_neg (by simp [hl])] at ht
   exact yZA lp la cn ⟨by rw [ht], by omega, by omega, w⟩
  ·rw [Go.Sort.scanDown, if_pos (by simp [hl]; omega)] at ht
   exact yYZ lp la cn ⟨v', by omega, v', by omega, rfl, by omega, by omega, w, ht⟩
 rintro j τ ⟨rfl, hjq, hij2, w⟩
 by_cases hgt : i2 > j2
 ·rw [if_pos hgt] at hstep
  have e : R = (j2, dk) := by rw [← ht, hstep]
  exact yLJ ⟨by rw [e], by rw [e]; show j2 < B; omega, by rw [e]; show a ≤ j2; omega, by rw [e]; exact hsz, by rw [e]; exact w⟩ (by omega)
 rw [if_neg hgt, if_pos (by omega)] at hstep
 have lj := w.dt.ldN (i := (j2 : Int)) (k := j2) rfl (by omega)
 have li := w.dt.ldN (i := (i2 : Int)) (k := i2) rfl (by omega)
 obtain ⟨τ5, τ6, t1, t2, w6⟩ := w.swapN (i := (i2 : Int)) (j := (j2 : Int)) (p := i2) (q := j2) rfl rfl (by omega) (by omega)
 exact yLI lj li t1 t2 ⟨j2 - 1 + 1 - (i2 + 1), by omega, i2 + 1, j2 - 1, _, by omega, by omega, rfl, by omega, by omega, by omega, by omega, by rw [yK, hsz], hall.swp (by omega) (by omega), w6, by rw [← hstep, ht]⟩
end
end
section
open Go.Sort (swp)
section
variable {σ : St} {b c : Nat} {s : Option Nat} {d : Array Rec} {g : FuncId} {gc : List Value} {lt : Rec → Rec → Bool} {V : Rec → Prop}
theorem yZQ {a B cg : Nat} (h : Dt σ b s d) (hc : Cmp g gc lt V) (hv : yX V d) (ha : a ≤ cg) (hp : cg < B) (hB : B ≤ d.size) (hn : d.size ≤ 1000000) :
  vG 86 [.slice (some ⟨b, 0, s⟩) d.size c, iV (a : Int), iV (B : Int), iV (cg : Int), .func (.func g) ⟨[]⟩ ⟨gc⟩] (iV ((Go.Sort.partitionEqual lt d a B cg).1 : Int)) σ b s d (Go.Sort.partitionEqual lt d a B cg).2 := by
 have w0 := W.start h
 obtain ⟨τ1, τ2, s1, s2, w1⟩ := w0.swapN (i := (a : Int)) (j := (cg : Int)) (p := a) (q := cg) rfl rfl (by omega) (by omega)
 have l0 := w0.dt.ldN (i := (cg : Int)) (k := cg) rfl (by omega)
 have l0' := w0.dt.ldN (i := (a : Int)) (k := a) rfl (by omega)
 obtain ⟨R, hR⟩ : ∃ R, R = Go.Sort.partitionEqual lt d a B cg := ⟨_, rfl⟩
 rw [← hR]
 refine vG.of h (yUI l0 l0' s1 s2 (P0 := fun i τ => i = (R.1 : Int) ∧ W σ τ b s d R.2)
  (yBI (Inv := fun k i j τ => ∃ (p q : Nat) (dk : Array Rec), i = p ∧ j = q ∧ k = q + 1 - p ∧ a + 1 ≤ p ∧ q < B ∧ a ≤ q ∧ p ≤ q + 2 ∧ dk.size = d.size ∧ yX V dk ∧ W σ τ b s d dk ∧ Go.Sort.partEqLoop lt a p q dk = R) ?_ (B - 1 + 1 - (a + 1)) _ _ τ2 ⟨a + 1, B - 1, _, by omega, by omega, rfl, by omega, by omega, by omega, by omega, yK _ _ _, hv.swp (by omega) (by omega), w1, by rw [hR]; rfl⟩)
  (fun i τ h => yBF ⟨by rw [h.1], h.2⟩))
 rintro k i j τ ⟨p, q, dk, rfl, rfl, hk, hap, hqB, haq, hpq, hsz, hall, w, ht⟩
 obtain ⟨i2, hi2⟩ : ∃ i2, i2 = Go.Sort.scanUp (fun x => !lt dk[a]! x) dk q p := ⟨_, rfl⟩
 obtain ⟨j2, hj2⟩ : ∃ j2, j2 = Go.Sort.scanDown (fun x => lt dk[a]! x) dk i2 q := ⟨_, rfl⟩
 have hstep : Go.Sort.partEqLoop lt a p q dk = if i2 > j2 then (i2, dk) else if (j2 - 1) + 1 - (i2 + 1) < q + 1 - p then Go.Sort.partEqLoop lt a (i2 + 1) (j2 - 1) (swp dk i2 j2) else (i2, dk) := by
  conv => lhs; unfold Go.Sort.partEqLoop
  simp only [dite_eq_ite, ← hi2, ← hj2]
 refine yMB (P2 := fun i τ => i = (i2 : Int) ∧ p ≤ i2 ∧ i2 ≤ q + 2 ∧ (i2 ≤ q + 1 ∨ i2 = p) ∧ W σ τ b s d dk)
  (yBH (Inv := fun k i τ => ∃ u : Nat, i = u ∧ u + k = q + 2 ∧ p ≤ u ∧ (u ≤ q + 1 ∨ u = p) ∧ W σ τ b s d dk ∧ Go.Sort.scanUp (fun x => !lt dk[a]! x) dk q u = i2) ?_ (q + 2 - p) _ τ ⟨p, rfl, by omega, Nat.le_refl _, .inr rfl, w, hi2.symm⟩) ?_
 ·rintro k i τ ⟨u, rfl, hk, hpu, huq, w, ht⟩
  by_cases hpj : u ≤ q
  rotate_left
  ·rw [Go.Sort.scanUp, if_neg (by simp; omega)] at ht
   exact yLY ⟨by rw [ht], by omega, by omega, by omega, w⟩ (by omega)
  have lp := w.dt.ldN (i := (u : Int)) (k := u) rfl (by omega)
  have la := w.dt.ldN (i := (a : Int)) (k := a) rfl (by omega)
  obtain ⟨n, cn, ⟨m1, hl⟩ | ⟨m1, hl⟩⟩ := hc.at_ (τ := τ) hall (i := a) (j := u) (by omega) (by omega)
  ·rw [Go.Sort.scanUp, if_neg (by simp [hl])] at ht
   exact yMA la lp cn ⟨by rw [ht], by omega, by omega, by omega, w⟩
  ·rw [Go.Sort.scanUp, if_pos (by simp [hl]; omega)] at ht
   exact yLZ la lp cn ⟨k - 1, by omega, u + 1, by omega, by omega, by omega, by omega, w, ht⟩
 rintro i τ ⟨rfl, hpi, hiq, hiq2, w⟩
 refine yBE (P4 := fun j τ => j = (j2 : Int) ∧ j2 ≤ q ∧ (i2 ≤ j2 + 1 ∨ j2 = q) ∧ W σ τ b s d dk)
  (yBG (Inv := fun k j τ => ∃ v : Nat, j = v ∧ v = k ∧ v ≤ q ∧ (i2 ≤ v + 1 ∨ v = q) ∧ W σ τ b s d dk ∧ Go.Sort.scanDown (fun x => lt dk[a]! x) dk i2 v = j2) ?_ q _ τ ⟨q, rfl, rfl, Nat.le_refl _, .inr rfl, w, hj2.symm⟩) ?_
 ·rintro k j τ ⟨v, rfl, rfl, hvq, hiv, w, ht⟩
  by_cases hij : i2 ≤ v
  rotate_left
  ·have e : j2 = v := by
    cases v with
    | zero => rw [← ht]; rfl
    | succ v => rw [← ht, Go.Sort.scanDown, if_neg (by simp; omega)]
   exact yLV ⟨by rw [e], by omega, by omega, w⟩ (by omega)
  obtain ⟨v', rfl⟩ : ∃ v', v = v' + 1 := ⟨v - 1, by omega⟩
  have lp := w.dt.ldN (i := ((v' + 1 : Nat) : Int)) (k := v' + 1) rfl (by omega)
  have la := w.dt.ldN (i := (a : Int)) (k := a) rfl (by omega)
  obtain ⟨n, cn, ⟨m1, hl⟩ | ⟨m1, hl⟩⟩ := hc.at_ (τ := τ) hall (i := a) (j := v' + 1) (by omega) (by omega)
  ·rw [Go.Sort.scanDown, if_pos (by simp [hl]; omega)] at ht
   exact yLX la lp cn ⟨v', by omega, v', by omega, rfl, by omega, by omega, w, ht⟩
  ·rw [Go.Sort.scanDown, if_neg (by simp [hl])] at ht
   exact yLW la lp cn ⟨by rw [ht], by omega, by omega, w⟩
 rintro j τ ⟨rfl, hjq, hij2, w⟩
 by_cases hgt : i2 > j2
 ·rw [if_pos hgt] at hstep
  have e : R = (i2, dk) := by rw [← ht, hstep]
  exact yBD ⟨by rw [e], by rw [e]; exact w⟩ (by omega)
 rw [if_neg hgt, if_pos (by omega)] at hstep
 have lj := w.dt.ldN (i := (j2 : Int)) (k := j2) rfl (by omega)
 have li := w.dt.ldN (i := (i2 : Int)) (k := i2) rfl (by omega)
 obtain ⟨τ5, τ6, t1, t2, w6⟩ := w.swapN (i := (i2 : Int)) (j := (j2 : Int)) (p := i2) (q := j2) rfl rfl (by omega) (by omega)
 exact yBC lj li t1 t2 ⟨j2 - 1 + 1 - (i2 + 1), by omega, i2 + 1, j2 - 1, _, by omega, by omega, rfl, by omega, by omega, by omega, by omega, by rw [yK, hsz], hall.swp (by omega) (by omega), w6, by rw [← hstep, ht]⟩
theorem zFS (lt : Rec → Rec → Bool) : ∀ (j : Nat) (d : Array Rec), (Go.Sort.shiftDown lt j d).size = d.size
 | 0, d => rfl
 | j + 1, d => by
  unfold Go.Sort.shiftDown
  split
  ·rfl
  ·rw [zFS, yK]
theorem zIW (lt : Rec → Rec → Bool) {V : Rec → Prop} : ∀ (j : Nat) (d : Array Rec), j < d.size → yX V d → yX V (Go.Sort.shiftDown lt j d)
 | 0, d, _, h => h
 | j + 1, d, hj, h => by
  unfold Go.Sort.shiftDown
  split
  ·exact h
  ·exact zIW lt j _ (by rw [yK]; omega) (h.swp hj (by omega))
theorem zBB (lt : Rec → Rec → Bool) {V : Rec → Prop} {B : Nat} : ∀ (k j : Nat) (d : Array Rec), B - j ≤ k → 1 ≤ j → B ≤ d.size → yX V d → (Go.Sort.shiftUp lt B j d).size = d.size ∧ yX V (Go.Sort.shiftUp lt B j d)
 | 0, j, d, hk, hj, hB, h => by rw [Go.Sort.shiftUp, if_neg (by omega)]; exact ⟨rfl, h⟩
 | k + 1, j, d, hk, hj, hB, h => by
  rw [Go.Sort.shiftUp]
  split
  ·split
   ·exact ⟨rfl, h⟩
   ·have := zBB lt (V := V) (B := B) k (j + 1) (swp d j (j - 1)) (by omega) (by omega) (by rw [yK]; exact hB) (h.swp (by omega) (by omega))
    rw [yK] at this
    exact this
  ·exact ⟨rfl, h⟩
theorem zIX (lt : Rec → Rec → Bool) (d : Array Rec) (B : Nat) : ∀ (k i : Nat), B - i ≤ k → i ≤ B → i ≤ Go.Sort.scanSorted lt d B i ∧ Go.Sort.scanSorted lt d B i ≤ B
 | 0, i, hk, hi => by rw [Go.Sort.scanSorted, if_neg (by simp; omega)]; omega
 | k + 1, i, hk, hi => by
  rw [Go.Sort.scanSorted]
  split
  ·rename_i h
   have : i < B := by simp at h; exact h.1
   have := zIX lt d B k (i + 1) (by omega) (by omega)
   omega
  ·omega
theorem yLU {a B i10 : Int} {x i : Nat} {τ : St} {dk : Array Rec} (hc : Cmp g gc lt V) (w : W σ τ b s d dk) (hsz : dk.size = d.size) (hall : yX V dk) (hx : x < d.size) (hn : d.size ≤ 1000000) :
  zTB ⟨b, 0, s⟩ d.size c a B g gc (i : Int) i10 (x : Int) τ (fun τ' => W σ τ' b s d (Go.Sort.shiftDown lt x dk)) := by
 refine yFJ (Inv := fun k j τ' => ∃ (q : Nat) (dq : Array Rec), j = q ∧ q = k ∧ q ≤ x ∧ dq.size = d.size ∧ yX V dq ∧ W σ τ' b s d dq ∧ Go.Sort.shiftDown lt q dq = Go.Sort.shiftDown lt x dk) ?_ x _ τ ⟨x, dk, rfl, rfl, Nat.le_refl _, hsz, hall, w, rfl⟩
 rintro k j τ' ⟨q, dq, rfl, rfl, hq, hsz', hall', w', ht⟩
 cases q with
 | zero => exact yTX (by rw [← ht]; exact w') (by omega)
 | succ q =>
  have l1 := w'.dt.ldN (i := ((q + 1 : Nat) : Int)) (k := q + 1) rfl (by omega)
  have l2 := w'.dt.ldN (i := ((q + 1 : Nat) : Int) - 1) (k := q) (by omega) (by omega)
  obtain ⟨n, cn, ⟨m1, hl⟩ | ⟨m1, hl⟩⟩ := hc.at_ (τ := τ') hall' (i := q + 1) (j := q) (by omega) (by omega)
  ·obtain ⟨τ5, τ6, t1, t2, w6⟩ := w'.swapN (i := ((q + 1 : Nat) : Int)) (j := ((q + 1 : Nat) : Int) - 1) (p := q + 1) (q := q) rfl (by omega) (by omega) (by omega)
   rw [Go.Sort.shiftDown, if_neg (by simp [hl])] at ht
   exact yTZ l1 l2 cn t1 t2 ⟨q, by omega, q, _, by omega, rfl, by omega, by rw [yK, hsz'], hall'.swp (by omega) (by omega), w6, ht⟩
  ·rw [Go.Sort.shiftDown, if_pos (by simp [hl])] at ht
   exact yTY l1 l2 cn (by rw [← ht]; exact w')
theorem yFH {a i10 : Int} {B x i : Nat} {τ : St} {dk : Array Rec} (hc : Cmp g gc lt V) (w : W σ τ b s d dk) (hsz : dk.size = d.size) (hall : yX V dk) (hx : 1 ≤ x) (hxB : x ≤ B + 2) (hB : B ≤ d.size) (hn : d.size ≤ 1000000) :
  zGJ ⟨b, 0, s⟩ d.size c a (B : Int) g gc (i : Int) i10 (x : Int) τ (fun τ' => W σ τ' b s d (Go.Sort.shiftUp lt B x dk)) := by
 refine yFI (Inv := fun k j τ' => ∃ (q : Nat) (dq : Array Rec), j = q ∧ q + k = B + 2 ∧ 1 ≤ q ∧ dq.size = d.size ∧ yX V dq ∧ W σ τ' b s d dq ∧ Go.Sort.shiftUp lt B q dq = Go.Sort.shiftUp lt B x dk) ?_ (B + 2 - x) _ τ ⟨x, dk, rfl, by omega, hx, hsz, hall, w, rfl⟩
 rintro k j τ' ⟨q, dq, rfl, hk, hq, hsz', hall', w', ht⟩
 by_cases hqB : q < B
 rotate_left
 ·rw [Go.Sort.shiftUp, if_neg hqB] at ht
  exact yTU (by rw [← ht]; exact w') (by omega)
 have l1 := w'.dt.ldN (i := (q : Int)) (k := q) rfl (by omega)
 have l2 := w'.dt.ldN (i := (q : Int) - 1) (k := q - 1) (by omega) (by omega)
 obtain ⟨n, cn, ⟨m1, hl⟩ | ⟨m1, hl⟩⟩ := hc.at_ (τ := τ') hall' (i := q) (j := q - 1) (by omega) (by omega)
 ·obtain ⟨τ5, τ6, t1, t2, w6⟩ := w'.swapN (i := (q : Int)) (j := (q : Int) - 1) (p := q) (q := q - 1) rfl (by omega) (by omega) (by omega)
  rw [Go.Sort.shiftUp, if_pos hqB, if_neg (by simp [hl])] at ht
  exact yTW l1 l2 cn t1 t2 ⟨k - 1, by omega, q + 1, _, by omega, by omega, by omega, by rw [yK, hsz'], hall'.swp (by omega) (by omega), w6, ht⟩
 ·rw [Go.Sort.shiftUp, if_pos hqB, if_pos (by simp [hl])] at ht
  exact yTV l1 l2 cn (by rw [← ht]; exact w')
theorem yQE {a B : Nat} (h : Dt σ b s d) (hc : Cmp g gc lt V) (hv : yX V d) (ha : a < B) (hB : B ≤ d.size) (hn : d.size ≤ 1000000) :
  vG 85 [.slice (some ⟨b, 0, s⟩) d.size c, iV (a : Int), iV (B : Int), .func (.func g) ⟨[]⟩ ⟨gc⟩] (.bool (Go.Sort.partialInsertionSort lt d a B).2) σ b s d (Go.Sort.partialInsertionSort lt d a B).1 := by
 obtain ⟨R, hR⟩ : ∃ R, R = Go.Sort.partialInsertionSort lt d a B := ⟨_, rfl⟩
 rw [← hR]
 refine vG.of h (yZP (P0 := fun τ => R.2 = false ∧ W σ τ b s d R.1) (Pr := fun t τ => R.2 = t ∧ W σ τ b s d R.1)
  (yFL (Inv := fun k i j τ => ∃ (p : Nat) (dk : Array Rec), i = p ∧ j = 5 - (k : Int) ∧ k ≤ 5 ∧ a + 1 ≤ p ∧ p ≤ B ∧ dk.size = d.size ∧ yX V dk ∧ W σ τ b s d dk ∧ Go.Sort.partialIns lt a B k p dk = R) ?_ 5 _ _ σ.re ⟨a + 1, d, by omega, by omega, Nat.le_refl _, Nat.le_refl _, by omega, rfl, hv, W.start h, hR.symm⟩)
  (fun τ h => yFG ⟨by rw [h.1], h.2⟩) (fun t τ h => yFF ⟨by rw [h.1], h.2⟩))
 rintro k i j τ ⟨p, dk, rfl, rfl, hk5, hap, hpB, hsz, hall, w, ht⟩
 cases k with
 | zero =>
  rw [Go.Sort.partialIns] at ht
  exact yUD (by rw [← ht]; exact ⟨rfl, w⟩) (by omega)
 | succ k =>
 obtain ⟨i2, hi2⟩ : ∃ i2, i2 = Go.Sort.scanSorted lt dk B p := ⟨_, rfl⟩
 have hrange := zIX lt dk B _ p (Nat.le_refl _) hpB
 rw [← hi2] at hrange
 rw [Go.Sort.partialIns, ← hi2] at ht
 refine yUE (P2 := fun i τ => i = (i2 : Int) ∧ W σ τ b s d dk) (yFK (Inv := fun k i τ => ∃ u : Nat, i = u ∧ u + k = B ∧ p ≤ u ∧ W σ τ b s d dk ∧ Go.Sort.scanSorted lt dk B u = i2) ?_ (B - p) _ τ ⟨p, rfl, by omega, Nat.le_refl _, w, hi2.symm⟩) ?_ (by omega)
 ·rintro k i τ ⟨u, rfl, hk, hpu, w, ht⟩
  by_cases huB : u < B
  rotate_left
  ·rw [Go.Sort.scanSorted, if_neg (by simp; omega)] at ht
   exact yUA ⟨by rw [ht], w⟩ (by omega)
  have l1 := w.dt.ldN (i := (u : Int)) (k := u) rfl (by omega)
  have l2 := w.dt.ldN (i := (u : Int) - 1) (k := u - 1) (by omega) (by omega)
  obtain ⟨n, cn, ⟨m1, hl⟩ | ⟨m1, hl⟩⟩ := hc.at_ (τ := τ) hall (i := u) (j := u - 1) (by omega) (by omega)
  ·rw [Go.Sort.scanSorted, if_neg (by simp [hl])] at ht
   exact yUC l1 l2 cn ⟨by rw [ht], w⟩
  ·rw [Go.Sort.scanSorted, if_pos (by simp [hl]; omega)] at ht
   exact yUB l1 l2 cn ⟨k - 1, by omega, u + 1, by omega, by omega, by omega, w, ht⟩
 rintro i τ ⟨rfl, w⟩
 by_cases hiB : i2 = B
 ·simp only [hiB, if_true] at ht
  exact yFE (by rw [← ht]; exact ⟨rfl, w⟩) (by omega)
 simp only [hiB, if_false] at ht
 by_cases h50 : B - a < 50
 ·rw [if_pos h50] at ht
  exact yFD (by rw [← ht]; exact ⟨rfl, w⟩) (by omega) (by omega) (by omega)
 rw [if_neg h50] at ht
 have l1 := w.dt.ldN (i := (i2 : Int) - 1) (k := i2 - 1) (by omega) (by omega)
 have l2 := w.dt.ldN (i := (i2 : Int)) (k := i2) rfl (by omega)
 obtain ⟨τ5, τ6, t1, t2, w6⟩ := w.swapN (i := (i2 : Int)) (j := (i2 : Int) - 1) (p := i2) (q := i2 - 1) rfl (by omega) (by omega) (by omega)
 have hall6 := hall.swp (i := i2) (j := i2 - 1) (by omega) (by omega)
 have hsz6 : (swp dk i2 (i2 - 1)).size = d.size := by rw [yK, hsz]
 have right : ∀ (dx : Array Rec) (τx : St), W σ τx b s d dx → dx.size = d.size → yX V dx → 2 ≤ B - i2 → zGJ ⟨b, 0, s⟩ d.size c (a : Int) (B : Int) g gc (i2 : Int) (5 - ((k + 1 : Nat) : Int)) ((i2 : Int) + 1) τx (fun τ' => W σ τ' b s d (Go.Sort.shiftUp lt B (i2 + 1) dx)) := fun dx τx wx hx1 hx2 h2 => by
  have := yFH (c := c) (a := (a : Int)) (i10 := 5 - ((k + 1 : Nat) : Int)) (B := B) (x := i2 + 1) (i := i2) hc wx hx1 hx2 (by omega) (by omega) hB hn
  rw [show ((i2 + 1 : Nat) : Int) = (i2 : Int) + 1 by omega] at this
  exact this
 by_cases hl2 : i2 - a ≥ 2
 ·simp only [hl2, if_true] at ht
  have left := yLU (c := c) (a := (a : Int)) (B := (B : Int)) (i10 := 5 - ((k + 1 : Nat) : Int)) (x := i2 - 1) (i := i2) hc w6 hsz6 hall6 (by omega) hn
  rw [show ((i2 - 1 : Nat) : Int) = (i2 : Int) - 1 by omega] at left
  have hszL : (Go.Sort.shiftDown lt (i2 - 1) (swp dk i2 (i2 - 1))).size = d.size := by rw [zFS, hsz6]
  have hallL := zIW lt (V := V) (i2 - 1) (swp dk i2 (i2 - 1)) (by omega) hall6
  refine yFC l1 l2 t1 t2 left (fun τ' w7 => ?_) (by omega) (by omega) (by omega) (by omega) (by omega) (by omega) (by omega) (by omega)
  by_cases hr2 : B - i2 ≥ 2
  ·simp only [hr2, if_true] at ht
   have hU := zBB lt (V := V) (B := B) _ (i2 + 1) _ (Nat.le_refl _) (by omega) (by omega) hallL
   exact yEZ (right _ _ w7 hszL hallL (by omega)) (fun τ'' w8 => zPJ ⟨k, by omega, i2, _, rfl, by omega, by omega, by omega, by omega, by rw [hU.1, hszL], hU.2, w8, ht⟩)
  ·simp only [hr2, if_false] at ht
   exact yEY ⟨k, by omega, i2, _, rfl, by omega, by omega, by omega, by omega, hszL, hallL, w7, ht⟩
 ·simp only [hl2, if_false] at ht
  by_cases hr2 : B - i2 ≥ 2
  ·simp only [hr2, if_true] at ht
   have hU := zBB lt (V := V) (B := B) _ (i2 + 1) _ (Nat.le_refl _) (by omega) (by omega) hall6
   exact yFB l1 l2 t1 t2 (right _ _ w6 hsz6 hall6 (by omega)) (fun τ'' w8 => zPJ ⟨k, by omega, i2, _, rfl, by omega, by omega, by omega, by omega, by rw [hU.1, hsz6], hU.2, w8, ht⟩)
  ·simp only [hr2, if_false] at ht
   exact yFA l1 l2 t1 t2 ⟨k, by omega, i2, _, rfl, by omega, by omega, by omega, by omega, hsz6, hall6, w6, ht⟩
end
end
section
variable {ae af BC:Nat} {a_1 b n1 n2 n3 n4 n5 n6 n7 n8 c n9 aI bE nI nE nA nB nD nF kB aQ zA nK nAB nBB nCB z1 length n10 n11 n13 x z2:Int} {swaps ao r:Addr} {az:FuncId} {aj:List Value} {σ9 σ σ3 σ6 σ2 σ4 σ8 σI σC σF σR σK σ12:St} {Q:Value→St→Prop} {data:Option Addr} {Inv:Nat→Int→Int→St→Prop} {Q0 P0:St→Prop} {Nx:Int→St→Prop}
theorem xEQ (h1:zB Pg σ 47 (zH ao (Int.toNat b*3))=some (.agg ⟨rcd n1 n2 n3⟩)) (h2:zB Pg σ 47 (zH ao (Int.toNat a_1*3))=some (.agg ⟨rcd n4 n5 n6⟩)) (h3:zD Pg az (.agg ⟨rcd n1 n2 n3⟩::.agg ⟨rcd n4 n5 n6⟩::aj) σ (iV n7) σ) (h4:zB Pg σ 3 swaps=some (iV n8)) (h5:zL Pg (evL [.pointer (some swaps),iV (n8+1)]) σ (.store 3 (.tmp 0) (.tmp 1))=some (undef,σ9)) (nx:Q (.tuple ⟨[iV b,iV a_1]⟩) σ9) (u1:Ix b ae:=by omega) (u2:Ix a_1 ae:=by omega) (u3:n7<0:=by omega) (u4:I6 (n8+1):=by omega):zI Pg 104 [.slice (some ao) ae af,iV a_1,iV b,.pointer (some swaps),.func (.func az) ⟨[]⟩ ⟨aj⟩] σ Q :=
 zF [.g,.g,.g,.g,.g,.i,.l (.agg ⟨rcd n1 n2 n3⟩),.g,.g,.i,.l (.agg ⟨rcd n4 n5 n6⟩),.c (iV n7) σ,.b true,.g,.g,.l (iV n8),.n (n8+1),.g,.e undef σ9,.g,.g,.g,.g] (kd (an3 u1 h1 u2 (an6 h2 h3 (zJ u3) h4 (w64 u4) h5 nx)))
theorem xEP (h1:zB Pg σ 47 (zH ao (Int.toNat b*3))=some (.agg ⟨rcd n1 n2 n3⟩)) (h2:zB Pg σ 47 (zH ao (Int.toNat a_1*3))=some (.agg ⟨rcd n4 n5 n6⟩)) (h3:zD Pg az (.agg ⟨rcd n1 n2 n3⟩::.agg ⟨rcd n4 n5 n6⟩::aj) σ (iV n7) σ) (nx:Q (.tuple ⟨[iV a_1,iV b]⟩) σ) (u1:Ix b ae:=by omega) (u2:Ix a_1 ae:=by omega) (u3:¬ n7<0:=by omega):zI Pg 104 [.slice (some ao) ae af,iV a_1,iV b,.pointer (some swaps),.func (.func az) ⟨[]⟩ ⟨aj⟩] σ Q :=
 zF [.g,.g,.g,.g,.g,.i,.l (.agg ⟨rcd n1 n2 n3⟩),.g,.g,.i,.l (.agg ⟨rcd n4 n5 n6⟩),.c (iV n7) σ,.b false,.g,.g,.g,.g] (kd (an6 u1 h1 u2 h2 h3 (zM u3) nx))
theorem xAE (h1:zD Pg 104 [.slice data ae af,iV a_1,iV b,.pointer (some swaps),.func (.func az) ⟨[]⟩ ⟨aj⟩] σ (.tuple ⟨[iV n1,iV n2]⟩) σ3) (h2:zD Pg 104 [.slice data ae af,iV n2,iV c,.pointer (some swaps),.func (.func az) ⟨[]⟩ ⟨aj⟩] σ3 (.tuple ⟨[iV n4,iV n5]⟩) σ6) (h3:zD Pg 104 [.slice data ae af,iV n1,iV n4,.pointer (some swaps),.func (.func az) ⟨[]⟩ ⟨aj⟩] σ6 (.tuple ⟨[iV n7,iV n8]⟩) σ9) (nx:Q (iV n8) σ9):zI Pg 99 [.slice data ae af,iV a_1,iV b,iV c,.pointer (some swaps),.func (.func az) ⟨[]⟩ ⟨aj⟩] σ Q :=
 zF [.g,.g,.g,.g,.g,.g,.c (.tuple ⟨[iV n1,iV n2]⟩) σ3,.g,.g,.g,.g,.g,.g,.g,.g,.g,.g,.c (.tuple ⟨[iV n4,iV n5]⟩) σ6,.g,.g,.g,.g,.g,.g,.g,.g,.g,.g,.c (.tuple ⟨[iV n7,iV n8]⟩) σ9,.g,.g,.g,.g,.g,.g,.g] (kd (an3 h1 h2 h3 nx))
theorem yQI (h1:zD Pg 99 [.slice data ae af,iV (a_1-1),iV a_1,iV (a_1+1),.pointer (some swaps),.func (.func az) ⟨[]⟩ ⟨aj⟩] σ (iV n1) σ2) (nx:Q (iV n1) σ2) (u1:I6 (a_1-1):=by omega) (u2:I6 (a_1+1):=by omega):zI Pg 98 [.slice data ae af,iV a_1,.pointer (some swaps),.func (.func az) ⟨[]⟩ ⟨aj⟩] σ Q :=
 zF [.g,.g,.g,.n (a_1-1),.g,.g,.n (a_1+1),.g,.g,.c (iV n1) σ2,.g] (kd (an3 (w64 u1) (w64 u2) h1 nx))
theorem yNP (h1:IntKind.wrap .i64 (Int.tdiv (b-a_1) 4)=Int.tdiv (b-a_1) 4) (h2:zD Pg 98 [.slice data ae af,iV (a_1+((Int.tdiv (b-a_1) 4)*1)),.pointer (some ⟨σ.y,0,none⟩),.func (.func az) ⟨[]⟩ ⟨aj⟩] (σ.row [iV 0] 1) (iV n1) σ2) (h3:zD Pg 98 [.slice data ae af,iV (a_1+((Int.tdiv (b-a_1) 4)*2)),.pointer (some ⟨σ.y,0,none⟩),.func (.func az) ⟨[]⟩ ⟨aj⟩] σ2 (iV n3) σ4) (h4:zD Pg 98 [.slice data ae af,iV (a_1+((Int.tdiv (b-a_1) 4)*3)),.pointer (some ⟨σ.y,0,none⟩),.func (.func az) ⟨[]⟩ ⟨aj⟩] σ4 (iV n5) σ6) (h5:zD Pg 99 [.slice data ae af,iV n1,iV n3,iV n5,.pointer (some ⟨σ.y,0,none⟩),.func (.func az) ⟨[]⟩ ⟨aj⟩] σ6 (iV n7) σ8) (h6:zB Pg σ8 3 ⟨σ.y,0,none⟩=some (iV n9)) (nx:Q (.tuple ⟨[iV n7,iV 1]⟩) σ8) (u1:I6 (b-a_1):=by omega) (u2:I6 ((Int.tdiv (b-a_1) 4)*1):=by omega) (u3:I6 (a_1+((Int.tdiv (b-a_1) 4)*1)):=by omega) (u4:I6 ((Int.tdiv (b-a_1) 4)*2):=by omega) (u5:I6 (a_1+((Int.tdiv (b-a_1) 4)*2)):=by omega) (u6:I6 ((Int.tdiv (b-a_1) 4)*3):=by omega) (u7:I6 (a_1+((Int.tdiv (b-a_1) 4)*3)):=by omega) (u8:8≤(b-a_1):=by omega) (u9:50≤(b-a_1):=by omega) (u10:n9=0:=by omega):zI Pg 83 [.slice data ae af,iV a_1,iV b,.func (.func az) ⟨[]⟩ ⟨aj⟩] σ Q :=
 let s1:=Int.tdiv (b-a_1) 4;zF [.g,.g,.g,.g,.n (b-a_1),.g,.g,.g,.g,.n s1,.n (s1*1),.n (a_1+(s1*1)),.g,.g,.g,.n s1,.n (s1*2),.n (a_1+(s1*2)),.g,.g,.g,.n s1,.n (s1*3),.n (a_1+(s1*3)),.g,.g,.b true,.g,.b true,.g,.g,.g,.c (iV n1) σ2,.g,.g,.g,.g,.c (iV n3) σ4,.g,.g,.g,.g,.c (iV n5) σ6,.g,.g,.g,.g,.g,.g,.c (iV n7) σ8,.g,.l (iV n9),.b true,.g,.g,.g,.g] (kd (an6 (w64 u1) h1 (w64 u2) (w64 u3) h1 (w64 u4) (an6 (w64 u5) h1 (w64 u6) (w64 u7) (zX u8) (zX u9) (an6 h2 h3 h4 h5 h6 (wJ u10) nx))))
theorem yNO (h1:IntKind.wrap .i64 (Int.tdiv (b-a_1) 4)=Int.tdiv (b-a_1) 4) (h2:zD Pg 98 [.slice data ae af,iV (a_1+((Int.tdiv (b-a_1) 4)*1)),.pointer (some ⟨σ.y,0,none⟩),.func (.func az) ⟨[]⟩ ⟨aj⟩] (σ.row [iV 0] 1) (iV n1) σ2) (h3:zD Pg 98 [.slice data ae af,iV (a_1+((Int.tdiv (b-a_1) 4)*2)),.pointer (some ⟨σ.y,0,none⟩),.func (.func az) ⟨[]⟩ ⟨aj⟩] σ2 (iV n3) σ4) (h4:zD Pg 98 [.slice data ae af,iV (a_1+((Int.tdiv (b-a_1) 4)*3)),.pointer (some ⟨σ.y,0,none⟩),.func (.func az) ⟨[]⟩ ⟨aj⟩] σ4 (iV n5) σ6) (h5:zD Pg 99 [.slice data ae af,iV n1,iV n3,iV n5,.pointer (some ⟨σ.y,0,none⟩),.func (.func az) ⟨[]⟩ ⟨aj⟩] σ6 (iV n7) σ8) (h6:zB Pg σ8 3 ⟨σ.y,0,none⟩=some (iV n9)) (nx:Q (.tuple ⟨[iV n7,iV 2]⟩) σ8) (u1:I6 (b-a_1):=by omega) (u2:I6 ((Int.tdiv (b-a_1) 4)*1):=by omega) (u3:I6 (a_1+((Int.tdiv (b-a_1) 4)*1)):=by omega) (u4:I6 ((Int.tdiv (b-a_1) 4)*2):=by omega) (u5:I6 (a_1+((Int.tdiv (b-a_1) 4)*2)):=by omega) (u6:I6 ((Int.tdiv (b-a_1) 4)*3):=by omega) (u7:I6 (a_1+((Int.tdiv (b-a_1) 4)*3)):=by omega) (u8:8≤(b-a_1):=by omega) (u9:50≤(b-a_1):=by omega) (u10:¬ n9=0:=by omega) (u11:n9=12:=by omega):zI Pg 83 [.slice data ae af,iV a_1,iV b,.func (.func az) ⟨[]⟩ ⟨aj⟩] σ Q :=
 let s1:=Int.tdiv (b-a_1) 4;zF [.g,.g,.g,.g,.n (b-a_1),.g,.g,.g,.g,.n s1,.n (s1*1),.n (a_1+(s1*1)),.g,.g,.g,.n s1,.n (s1*2),.n (a_1+(s1*2)),.g,.g,.g,.n s1,.n (s1*3),.n (a_1+(s1*3)),.g,.g,.b true,.g,.b true,.g,.g,.g,.c (iV n1) σ2,.g,.g,.g,.g,.c (iV n3) σ4,.g,.g,.g,.g,.c (iV n5) σ6,.g,.g,.g,.g,.g,.g,.c (iV n7) σ8,.g,.l (iV n9),.b false,.g,.b true,.g,.g,.g,.g] (kd (ai (w64 u1) (an6 h1 (w64 u2) (w64 u3) h1 (w64 u4) (w64 u5) (an6 h1 (w64 u6) (w64 u7) (zX u8) (zX u9) h2 (an6 h3 h4 h5 h6 (xB u10) (wJ u11) nx)))))
theorem yNN (h1:IntKind.wrap .i64 (Int.tdiv (b-a_1) 4)=Int.tdiv (b-a_1) 4) (h2:zD Pg 98 [.slice data ae af,iV (a_1+((Int.tdiv (b-a_1) 4)*1)),.pointer (some ⟨σ.y,0,none⟩),.func (.func az) ⟨[]⟩ ⟨aj⟩] (σ.row [iV 0] 1) (iV n1) σ2) (h3:zD Pg 98 [.slice data ae af,iV (a_1+((Int.tdiv (b-a_1) 4)*2)),.pointer (some ⟨σ.y,0,none⟩),.func (.func az) ⟨[]⟩ ⟨aj⟩] σ2 (iV n3) σ4) (h4:zD Pg 98 [.slice data ae af,iV (a_1+((Int.tdiv (b-a_1) 4)*3)),.pointer (some ⟨σ.y,0,none⟩),.func (.func az) ⟨[]⟩ ⟨aj⟩] σ4 (iV n5) σ6) (h5:zD Pg 99 [.slice data ae af,iV n1,iV n3,iV n5,.pointer (some ⟨σ.y,0,none⟩),.func (.func az) ⟨[]⟩ ⟨aj⟩] σ6 (iV n7) σ8) (h6:zB Pg σ8 3 ⟨σ.y,0,none⟩=some (iV n9)) (nx:Q (.tuple ⟨[iV n7,iV 0]⟩) σ8) (u1:I6 (b-a_1):=by omega) (u2:I6 ((Int.tdiv (b-a_1) 4)*1):=by omega) (u3:I6 (a_1+((Int.tdiv (b-a_1) 4)*1)):=by omega) (u4:I6 ((Int.tdiv (b-a_1) 4)*2):=by omega) (u5:I6 (a_1+((Int.tdiv (b-a_1) 4)*2)):=by omega) (u6:I6 ((Int.tdiv (b-a_1) 4)*3):=by omega) (u7:I6 (a_1+((Int.tdiv (b-a_1) 4)*3)):=by omega) (u8:8≤(b-a_1):=by omega) (u9:50≤(b-a_1):=by omega) (u10:¬ n9=0:=by omega) (u11:¬ n9=12:=by omega):zI Pg 83 [.slice data ae af,iV a_1,iV b,.func (.func az) ⟨[]⟩ ⟨aj⟩] σ Q :=
 let s1:=Int.tdiv (b-a_1) 4;zF [.g,.g,.g,.g,.n (b-a_1),.g,.g,.g,.g,.n s1,.n (s1*1),.n (a_1+(s1*1)),.g,.g,.g,.n s1,.n (s1*2),.n (a_1+(s1*2)),.g,.g,.g,.n s1,.n (s1*3),.n (a_1+(s1*3)),.g,.g,.b true,.g,.b true,.g,.g,.g,.c (iV n1) σ2,.g,.g,.g,.g,.c (iV n3) σ4,.g,.g,.g,.g,.c (iV n5) σ6,.g,.g,.g,.g,.g,.g,.c (iV n7) σ8,.g,.l (iV n9),.b false,.g,.b false,.g,.g,.g,.g] (kd (ai (w64 u1) (an6 h1 (w64 u2) (w64 u3) h1 (w64 u4) (w64 u5) (an6 h1 (w64 u6) (w64 u7) (zX u8) (zX u9) h2 (an6 h3 h4 h5 h6 (xB u10) (xB u11) nx)))))
theorem yNM (h1:IntKind.wrap .i64 (Int.tdiv (b-a_1) 4)=Int.tdiv (b-a_1) 4) (h2:zD Pg 99 [.slice data ae af,iV (a_1+((Int.tdiv (b-a_1) 4)*1)),iV (a_1+((Int.tdiv (b-a_1) 4)*2)),iV (a_1+((Int.tdiv (b-a_1) 4)*3)),.pointer (some ⟨σ.y,0,none⟩),.func (.func az) ⟨[]⟩ ⟨aj⟩] (σ.row [iV 0] 1) (iV n1) σ2) (h3:zB Pg σ2 3 ⟨σ.y,0,none⟩=some (iV n3)) (nx:Q (.tuple ⟨[iV n1,iV 1]⟩) σ2) (u1:I6 (b-a_1):=by omega) (u2:I6 ((Int.tdiv (b-a_1) 4)*1):=by omega) (u3:I6 (a_1+((Int.tdiv (b-a_1) 4)*1)):=by omega) (u4:I6 ((Int.tdiv (b-a_1) 4)*2):=by omega) (u5:I6 (a_1+((Int.tdiv (b-a_1) 4)*2)):=by omega) (u6:I6 ((Int.tdiv (b-a_1) 4)*3):=by omega) (u7:I6 (a_1+((Int.tdiv (b-a_1) 4)*3)):=by omega) (u8:8≤(b-a_1):=by omega) (u9:¬ 50≤(b-a_1):=by omega) (u10:n3=0:=by omega):zI Pg 83 [.slice data ae af,iV a_1,iV b,.func (.func az) ⟨[]⟩ ⟨aj⟩] σ Q :=
 let s1:=Int.tdiv (b-a_1) 4;zF [.g,.g,.g,.g,.n (b-a_1),.g,.g,.g,.g,.n s1,.n (s1*1),.n (a_1+(s1*1)),.g,.g,.g,.n s1,.n (s1*2),.n (a_1+(s1*2)),.g,.g,.g,.n s1,.n (s1*3),.n (a_1+(s1*3)),.g,.g,.b true,.g,.b false,.g,.g,.g,.g,.g,.c (iV n1) σ2,.g,.l (iV n3),.b true,.g,.g,.g,.g] (kd (an3 (w64 u1) h1 (w64 u2) (an6 (w64 u3) h1 (w64 u4) (w64 u5) h1 (w64 u6) (an6 (w64 u7) (zX u8) (yB u9) h2 h3 (wJ u10) nx))))
theorem yNL (h1:IntKind.wrap .i64 (Int.tdiv (b-a_1) 4)=Int.tdiv (b-a_1) 4) (h2:zD Pg 99 [.slice data ae af,iV (a_1+((Int.tdiv (b-a_1) 4)*1)),iV (a_1+((Int.tdiv (b-a_1) 4)*2)),iV (a_1+((Int.tdiv (b-a_1) 4)*3)),.pointer (some ⟨σ.y,0,none⟩),.func (.func az) ⟨[]⟩ ⟨aj⟩] (σ.row [iV 0] 1) (iV n1) σ2) (h3:zB Pg σ2 3 ⟨σ.y,0,none⟩=some (iV n3)) (nx:Q (.tuple ⟨[iV n1,iV 2]⟩) σ2) (u1:I6 (b-a_1):=by omega) (u2:I6 ((Int.tdiv (b-a_1) 4)*1):=by omega) (u3:I6 (a_1+((Int.tdiv (b-a_1) 4)*1)):=by omega) (u4:I6 ((Int.tdiv (b-a_1) 4)*2):=by omega) (u5:I6 (a_1+((Int.tdiv (b-a_1) 4)*2)):=by omega) (u6:I6 ((Int.tdiv (b-a_1) 4)*3):=by omega) (u7:I6 (a_1+((Int.tdiv (b-a_1) 4)*3)):=by omega) (u8:8≤(b-a_1):=by omega) (u9:¬ 50≤(b-a_1):=by omega) (u10:¬ n3=0:=by omega) (u11:n3=12:=by omega):zI Pg 83 [.slice data ae af,iV a_1,iV b,.func (.func az) ⟨[]⟩ ⟨aj⟩] σ Q :=
 let s1:=Int.tdiv (b-a_1) 4;zF [.g,.g,.g,.g,.n (b-a_1),.g,.g,.g,.g,.n s1,.n (s1*1),.n (a_1+(s1*1)),.g,.g,.g,.n s1,.n (s1*2),.n (a_1+(s1*2)),.g,.g,.g,.n s1,.n (s1*3),.n (a_1+(s1*3)),.g,.g,.b true,.g,.b false,.g,.g,.g,.g,.g,.c (iV n1) σ2,.g,.l (iV n3),.b false,.g,.b true,.g,.g,.g,.g] (kd (an4 (w64 u1) h1 (w64 u2) (w64 u3) (an6 h1 (w64 u4) (w64 u5) h1 (w64 u6) (w64 u7) (an6 (zX u8) (yB u9) h2 h3 (xB u10) (wJ u11) nx))))
theorem yNK (h1:IntKind.wrap .i64 (Int.tdiv (b-a_1) 4)=Int.tdiv (b-a_1) 4) (h2:zD Pg 99 [.slice data ae af,iV (a_1+((Int.tdiv (b-a_1) 4)*1)),iV (a_1+((Int.tdiv (b-a_1) 4)*2)),iV (a_1+((Int.tdiv (b-a_1) 4)*3)),.pointer (some ⟨σ.y,0,none⟩),.func (.func az) ⟨[]⟩ ⟨aj⟩] (σ.row [iV 0] 1) (iV n1) σ2) (h3:zB Pg σ2 3 ⟨σ.y,0,none⟩=some (iV n3)) (nx:Q (.tuple ⟨[iV n1,iV 0]⟩) σ2) (u1:I6 (b-a_1):=by omega) (u2:I6 ((Int.tdiv (b-a_1) 4)*1):=by omega) (u3:I6 (a_1+((Int.tdiv (b-a_1) 4)*1)):=by omega) (u4:I6 ((Int.tdiv (b-a_1) 4)*2):=by omega) (u5:I6 (a_1+((Int.tdiv (b-a_1) 4)*2)):=by omega) (u6:I6 ((Int.tdiv (b-a_1) 4)*3):=by omega) (u7:I6 (a_1+((Int.tdiv (b-a_1) 4)*3)):=by omega) (u8:8≤(b-a_1):=by omega) (u9:¬ 50≤(b-a_1):=by omega) (u10:¬ n3=0:=by omega) (u11:¬ n3=12:=by omega):zI Pg 83 [.slice data ae af,iV a_1,iV b,.func (.func az) ⟨[]⟩ ⟨aj⟩] σ Q :=
 let s1:=Int.tdiv (b-a_1) 4;zF [.g,.g,.g,.g,.n (b-a_1),.g,.g,.g,.g,.n s1,.n (s1*1),.n (a_1+(s1*1)),.g,.g,.g,.n s1,.n (s1*2),.n (a_1+(s1*2)),.g,.g,.g,.n s1,.n (s1*3),.n (a_1+(s1*3)),.g,.g,.b true,.g,.b false,.g,.g,.g,.g,.g,.c (iV n1) σ2,.g,.l (iV n3),.b false,.g,.b false,.g,.g,.g,.g] (kd (an4 (w64 u1) h1 (w64 u2) (w64 u3) (an6 h1 (w64 u4) (w64 u5) h1 (w64 u6) (w64 u7) (an6 (zX u8) (yB u9) h2 h3 (xB u10) (xB u11) nx))))
theorem yNJ (h1:IntKind.wrap .i64 (Int.tdiv (b-a_1) 4)=Int.tdiv (b-a_1) 4) (nx:Q (.tuple ⟨[iV (a_1+((Int.tdiv (b-a_1) 4)*2)),iV 1]⟩) (σ.row [iV 0] 1)) (u1:I6 (b-a_1):=by omega) (u2:I6 ((Int.tdiv (b-a_1) 4)*1):=by omega) (u3:I6 (a_1+((Int.tdiv (b-a_1) 4)*1)):=by omega) (u4:I6 ((Int.tdiv (b-a_1) 4)*2):=by omega) (u5:I6 (a_1+((Int.tdiv (b-a_1) 4)*2)):=by omega) (u6:I6 ((Int.tdiv (b-a_1) 4)*3):=by omega) (u7:I6 (a_1+((Int.tdiv (b-a_1) 4)*3)):=by omega) (u8:¬ 8≤(b-a_1):=by omega):zI Pg 83 [.slice data ae af,iV a_1,iV b,.func (.func az) ⟨[]⟩ ⟨aj⟩] σ Q :=
 let s1:=Int.tdiv (b-a_1) 4;zF [.g,.g,.g,.g,.n (b-a_1),.g,.g,.g,.g,.n s1,.n (s1*1),.n (a_1+(s1*1)),.g,.g,.g,.n s1,.n (s1*2),.n (a_1+(s1*2)),.g,.g,.g,.n s1,.n (s1*3),.n (a_1+(s1*3)),.g,.g,.b false,.l (iV 0),.g,.g,.g,.g,.g] (kd (an6 (w64 u1) h1 (w64 u2) (w64 u3) h1 (w64 u4) (an6 (w64 u5) h1 (w64 u6) (w64 u7) (yB u8) ((zC _ _ _).rw.ld zK (k:=0) rfl:zB Pg (σ.row [iV 0] 1) 3 ⟨σ.y,0,none⟩=some (iV 0)) nx)))
noncomputable def yPO:Code:=(Code.part [1,1,0,0] (zO Pg 84))
def zQP (data:Option Addr) (ae af:Nat) (aI bE:Int):List (Nat × Value):=[(0,.slice data ae af),(8,iV aI),(9,iV bE)]
def yYE (data:Option Addr) (ae af:Nat) (Q:Int→Int→St→Prop):Alt:=⟨Int × Int,.normal,fun t=>zQP data ae af t.1 t.2,fun t=>[],fun t σ=>Q t.1 t.2 σ⟩
def zWS (data:Option Addr) (ae af:Nat):List (Nat × Value):=[]
def zMY (data:Option Addr) (ae af:Nat) (Q:St→Prop):Alt:=⟨Unit,(.exit 0),fun t=>zWS data ae af,fun t=>[],fun t σ=>Q σ⟩
def yAJ (data:Option Addr) (ae af:Nat) (aI bE:Int) (σ:St) (Nx:Int→Int→St→Prop) (Q0:St→Prop):Prop:=yJ Pg (zS Pg) none yPO 34 (zQP data ae af aI bE) [] [yYE data ae af Nx,zMY data ae af Q0] σ
def yPP (data:Option Addr) (ae af:Nat) (aI bE:Int) (σ:St) (Q0:St→Prop):Prop:=yR Pg (zS Pg) none yPO 34 (zQP data ae af aI bE) [] [zMY data ae af Q0] σ
theorem yJW (hb:∀ k aI bE σ,Inv k aI bE σ→yAJ data ae af aI bE σ (NX2 Inv k) Q0):∀ k aI bE σ,Inv k aI bE σ→yPP data ae af aI bE σ Q0 :=
 zNL (ai (wA 0) trivial) hb
theorem yYD {Nx:Int→Int→St→Prop} (h1:zB Pg σ 47 (zH ao (Int.toNat bE*3))=some (.agg ⟨rcd nI nE nA⟩)) (h2:zB Pg σ 47 (zH ao (Int.toNat aI*3))=some (.agg ⟨rcd nB nD nF⟩)) (h3:zL Pg (evL [.pointer (some (zH ao (Int.toNat aI*3))),.agg ⟨rcd nI nE nA⟩]) σ (.store 47 (.tmp 0) (.tmp 1))=some (undef,σI)) (h4:zL Pg (evL [.pointer (some (zH ao (Int.toNat bE*3))),.agg ⟨rcd nB nD nF⟩]) σI (.store 47 (.tmp 0) (.tmp 1))=some (undef,σC)) (nx:Nx (aI+1) (bE-1) σC) (u1:aI<bE:=by omega) (u2:Ix bE ae:=by omega) (u3:Ix aI ae:=by omega) (u4:I6 (aI+1):=by omega) (u5:I6 (bE-1):=by omega):yAJ (some ao) ae af aI bE σ Nx Q0 :=
 kO 0 (aI+1,bE-1) [.g,.g,.b true,.g,.g,.g,.g,.g,.g,.i,.l (.agg ⟨rcd nI nE nA⟩),.g,.g,.i,.l (.agg ⟨rcd nB nD nF⟩),.i,.e undef σI,.i,.e undef σC,.g,.n (aI+1),.g,.g,.n (bE-1),.g] (fun _ f=>(an5 (zJ u1) u2 h1 u3 h2 (an6 u3 h3 u2 h4 (w64 u4) (w64 u5) f))) nx
theorem yYC {Nx:Int→Int→St→Prop} (nx:Q0 σ) (u1:¬ aI<bE:=by omega):yAJ data ae af aI bE σ Nx Q0 :=
 kO 1 () [.g,.g,.b false] (fun _ f=>(ai (zM u1) f)) nx
def zWT (data:Option Addr) (ae af:Nat) (σ:St) (Q:Value→St→Prop):Prop:=∀ g:Nat→Value,∃ an,Hid (kAt Pg (zS Pg) none (zO Pg 84) [1,1,0] (kFn Pg 84 Q) (.exit 0) ⟨Fm 34 (ov (zWS data ae af) g),[]⟩ σ an)
theorem xDY (hL:yPP data ae af a_1 (b-1) σ P0) (k0:∀ σ',P0 σ'→zWT data ae af σ' Q) (u1:I6 (b-1):=by omega):zI Pg 84 [.slice data ae af,iV a_1,iV b,.func (.func az) ⟨[]⟩ ⟨aj⟩] σ Q :=
 let s1:=zQP data ae af a_1 (b-1);zF [.g,.g,.g,.n (b-1),.g,.lf 34 s1 [zMY data ae af P0]] (kd (ai (w64 u1) (ai (ai tt (ai (arf s1) hL)) (ai (kz0 k0) trivial))))
theorem yJV (nx:Q (.tuple ⟨[]⟩) σ):zWT data ae af σ Q :=
 sK [] nx
noncomputable def zZL:Code:=(Code.part [1,1,0,1,1,1,0,0] (zO Pg 82))
def zIL (data:Option Addr) (ae af:Nat) (a_1 kB:Int) (BC:Nat) (n2 aQ:Int):List (Nat × Value):=[(0,.slice data ae af),(1,iV a_1),(8,iV kB),(9,.pointer (some ⟨BC,0,none⟩)),(10,.int .u64 n2),(11,iV aQ)]
def yOI (data:Option Addr) (ae af:Nat) (a_1 kB:Int) (BC:Nat) (n2:Int) (Q:Int→St→Prop):Alt:=⟨Int,.normal,fun t=>zIL data ae af a_1 kB BC n2 t,fun t=>[],fun t σ=>Q t σ⟩
def zQC (data:Option Addr) (ae af:Nat) (a_1 kB:Int) (BC:Nat) (n2:Int):List (Nat × Value):=[]
def zHF (data:Option Addr) (ae af:Nat) (a_1 kB:Int) (BC:Nat) (n2:Int) (Q:St→Prop):Alt:=⟨Unit,(.exit 0),fun t=>zQC data ae af a_1 kB BC n2,fun t=>[],fun t σ=>Q σ⟩
def zIM (data:Option Addr) (ae af:Nat) (a_1 kB:Int) (BC:Nat) (n2 aQ:Int) (σ:St) (Nx:Int→St→Prop) (Q0:St→Prop):Prop:=yJ Pg (zS Pg) none zZL 67 (zIL data ae af a_1 kB BC n2 aQ) [] [yOI data ae af a_1 kB BC n2 Nx,zHF data ae af a_1 kB BC n2 Q0] σ
def zZM (data:Option Addr) (ae af:Nat) (a_1 kB:Int) (BC:Nat) (n2 aQ:Int) (σ:St) (Q0:St→Prop):Prop:=yR Pg (zS Pg) none zZL 67 (zIL data ae af a_1 kB BC n2 aQ) [] [zHF data ae af a_1 kB BC n2 Q0] σ
theorem yCN {Inv:Nat→Int→St→Prop} (hb:∀ k aQ σ,Inv k aQ σ→zIM data ae af a_1 kB BC n2 aQ σ (NX1 Inv k) Q0):∀ k aQ σ,Inv k aQ σ→zZM data ae af a_1 kB BC n2 aQ σ Q0 :=
 yV (ai (wA 0) trivial) hb
theorem yOH (h1:IntKind.wrap .i64 (Int.tdiv kB 4)=Int.tdiv kB 4) (h2:zD Pg 97 [.pointer (some ⟨BC,0,none⟩)] σ (.int .u64 nI) σF) (h3:vU .u64 (Int.sub n2 1)=zA) (h4:wW Pg .and 118 (.tmp 38) (.tmp 40) (.int .u64 nI) (.int .u64 zA)=some (.int .u64 nB)) (h5:zB Pg σF 47 (zH ao (Int.toNat (a_1+(nB-kB))*3))=some (.agg ⟨rcd nD nF nK⟩)) (h6:zB Pg σF 47 (zH ao (Int.toNat aQ*3))=some (.agg ⟨rcd nAB nBB nCB⟩)) (h7:zL Pg (evL [.pointer (some (zH ao (Int.toNat aQ*3))),.agg ⟨rcd nD nF nK⟩]) σF (.store 47 (.tmp 0) (.tmp 1))=some (undef,σR)) (h8:zL Pg (evL [.pointer (some (zH ao (Int.toNat (a_1+(nB-kB))*3))),.agg ⟨rcd nAB nBB nCB⟩]) σR (.store 47 (.tmp 0) (.tmp 1))=some (undef,σK)) (nx:Nx (aQ+1) σK) (u1:I6 ((Int.tdiv kB 4)*2):=by omega) (u2:I6 (a_1+((Int.tdiv kB 4)*2)):=by omega) (u3:I6 ((a_1+((Int.tdiv kB 4)*2))+1):=by omega) (u4:aQ≤((a_1+((Int.tdiv kB 4)*2))+1):=by omega) (u5:I6 nB:=by omega) (u6:kB≤nB:=by omega) (u7:I6 (nB-kB):=by omega) (u8:I6 (a_1+(nB-kB)):=by omega) (u9:Ix (a_1+(nB-kB)) ae:=by omega) (u10:Ix aQ ae:=by omega) (u11:I6 (aQ+1):=by omega):zIM (some ao) ae af a_1 kB BC n2 aQ σ Nx Q0 :=
 let s1:=(Int.tdiv kB 4)*2;let s2:=nB-kB;kO 0 (aQ+1) [.g,.g,.g,.n (Int.tdiv kB 4),.n s1,.n (a_1+s1),.n ((a_1+s1)+1),.b true,.c (.int .u64 nI) σF,.g,.n zA,.v (.int .u64 nB),.n nB,.g,.g,.g,.b true,.g,.g,.n s2,.g,.g,.g,.g,.g,.g,.n (a_1+s2),.g,.g,.g,.n (a_1+s2),.i,.l (.agg ⟨rcd nD nF nK⟩),.g,.g,.i,.l (.agg ⟨rcd nAB nBB nCB⟩),.i,.e undef σR,.i,.e undef σK,.g,.n (aQ+1),.g] (fun _ f=>(an4 h1 (w64 u1) (w64 u2) (w64 u3) (an6 (zX u4) h2 h3 h4 (w64 u5) (zX u6) (an6 (w64 u7) (w64 u8) (w64 u8) u9 h5 u10 (an6 h6 u10 h7 u9 h8 (w64 u11) f))))) nx
theorem yOG (h1:IntKind.wrap .i64 (Int.tdiv kB 4)=Int.tdiv kB 4) (h2:zD Pg 97 [.pointer (some ⟨BC,0,none⟩)] σ (.int .u64 nI) σF) (h3:vU .u64 (Int.sub n2 1)=zA) (h4:wW Pg .and 118 (.tmp 38) (.tmp 40) (.int .u64 nI) (.int .u64 zA)=some (.int .u64 nB)) (h5:zB Pg σF 47 (zH ao (Int.toNat (a_1+nB)*3))=some (.agg ⟨rcd nD nF nK⟩)) (h6:zB Pg σF 47 (zH ao (Int.toNat aQ*3))=some (.agg ⟨rcd nAB nBB nCB⟩)) (h7:zL Pg (evL [.pointer (some (zH ao (Int.toNat aQ*3))),.agg ⟨rcd nD nF nK⟩]) σF (.store 47 (.tmp 0) (.tmp 1))=some (undef,σR)) (h8:zL Pg (evL [.pointer (some (zH ao (Int.toNat (a_1+nB)*3))),.agg ⟨rcd nAB nBB nCB⟩]) σR (.store 47 (.tmp 0) (.tmp 1))=some (undef,σK)) (nx:Nx (aQ+1) σK) (u1:I6 ((Int.tdiv kB 4)*2):=by omega) (u2:I6 (a_1+((Int.tdiv kB 4)*2)):=by omega) (u3:I6 ((a_1+((Int.tdiv kB 4)*2))+1):=by omega) (u4:aQ≤((a_1+((Int.tdiv kB 4)*2))+1):=by omega) (u5:I6 nB:=by omega) (u6:¬ kB≤nB:=by omega) (u7:I6 (a_1+nB):=by omega) (u8:Ix (a_1+nB) ae:=by omega) (u9:Ix aQ ae:=by omega) (u10:I6 (aQ+1):=by omega):zIM (some ao) ae af a_1 kB BC n2 aQ σ Nx Q0 :=
 let s1:=(Int.tdiv kB 4)*2;kO 0 (aQ+1) [.g,.g,.g,.n (Int.tdiv kB 4),.n s1,.n (a_1+s1),.n ((a_1+s1)+1),.b true,.c (.int .u64 nI) σF,.g,.n zA,.v (.int .u64 nB),.n nB,.g,.g,.g,.b false,.g,.g,.g,.g,.g,.n (a_1+nB),.g,.g,.g,.n (a_1+nB),.i,.l (.agg ⟨rcd nD nF nK⟩),.g,.g,.i,.l (.agg ⟨rcd nAB nBB nCB⟩),.i,.e undef σR,.i,.e undef σK,.g,.n (aQ+1),.g] (fun _ f=>(an3 h1 (w64 u1) (w64 u2) (an6 (w64 u3) (zX u4) h2 h3 h4 (w64 u5) (an6 (yB u6) (w64 u7) (w64 u7) u8 h5 u9 (an6 h6 u9 h7 u8 h8 (w64 u10) f))))) nx
theorem yOF (h1:IntKind.wrap .i64 (Int.tdiv kB 4)=Int.tdiv kB 4) (nx:Q0 σ) (u1:I6 ((Int.tdiv kB 4)*2):=by omega) (u2:I6 (a_1+((Int.tdiv kB 4)*2)):=by omega) (u3:I6 ((a_1+((Int.tdiv kB 4)*2))+1):=by omega) (u4:¬ aQ≤((a_1+((Int.tdiv kB 4)*2))+1):=by omega):zIM data ae af a_1 kB BC n2 aQ σ Nx Q0 :=
 let s1:=(Int.tdiv kB 4)*2;kO 1 () [.g,.g,.g,.n (Int.tdiv kB 4),.n s1,.n (a_1+s1),.n ((a_1+s1)+1),.b false] (fun _ f=>(an5 h1 (w64 u1) (w64 u2) (w64 u3) (yB u4) f)) nx
def zQD (data:Option Addr) (ae af:Nat) (a_1 kB:Int) (BC:Nat) (n2:Int) (σ:St) (Q:Value→St→Prop):Prop:=∀ g:Nat→Value,∃ an,Hid (kAt Pg (zS Pg) none (zO Pg 82) [1,1,0,1,1,1,0] (kFn Pg 82 Q) (.exit 0) ⟨Fm 67 (ov (zQC data ae af a_1 kB BC n2) g),[]⟩ σ an)
theorem yVZ (h1:vU .u64 ((b-a_1))=z1) (h2:zD Pg 96 [iV (b-a_1)] ((σ.row [.int .u64 0] 1).own σ.y [.int .u64 z1] 1) (.int .u64 n2) ((σ.row [.int .u64 0] 1).own σ.y [.int .u64 z1] 1)) (h3:IntKind.wrap .i64 (Int.tdiv (b-a_1) 4)=Int.tdiv (b-a_1) 4) (hL:zZM data ae af a_1 (b-a_1) σ.y n2 ((a_1+((Int.tdiv (b-a_1) 4)*2))-1) ((σ.row [.int .u64 0] 1).own σ.y [.int .u64 z1] 1) P0) (k0:∀ σ',P0 σ'→zQD data ae af a_1 (b-a_1) σ.y n2 σ' Q) (u1:I6 (b-a_1):=by omega) (u2:8≤(b-a_1):=by omega) (u3:I6 ((Int.tdiv (b-a_1) 4)*2):=by omega) (u4:I6 (a_1+((Int.tdiv (b-a_1) 4)*2)):=by omega) (u5:I6 ((a_1+((Int.tdiv (b-a_1) 4)*2))-1):=by omega):zI Pg 82 [.slice data ae af,iV a_1,iV b,.func (.func az) ⟨[]⟩ ⟨aj⟩] σ Q :=
 let s1:=σ.row [.int .u64 0] 1;let s2:=s1.own σ.y [.int .u64 z1] 1;let s3:=(Int.tdiv (b-a_1) 4)*2;let s4:=zIL data ae af a_1 (b-a_1) σ.y n2 ((a_1+s3)-1);zF [.g,.g,.n (b-a_1),.g,.g,.b true,.g,.n z1,.g,.e undef s2,.g,.c (.int .u64 n2) s2,.g,.g,.g,.n (Int.tdiv (b-a_1) 4),.n s3,.n (a_1+s3),.n ((a_1+s3)-1),.g,.lf 67 s4 [zHF data ae af a_1 (b-a_1) σ.y n2 P0]] (kd (an3 (w64 u1) (zX u2) h1 (an6 ((zC _ _ _).store (vs:=[.int .u64 z1]) rfl zQO rfl (nle rfl) rfl:zL Pg (evL [.pointer (some ⟨σ.y,0,none⟩),.int .u64 z1]) s1 (.store 147 (.tmp 0) (.tmp 1))=some (undef,s2)) h2 h3 (w64 u3) (w64 u4) (w64 u5) (ai (ai tt (ai (arf s4) hL)) (ai (kz0 k0) trivial)))))
theorem yVY (nx:Q (.tuple ⟨[]⟩) σ) (u1:I6 (b-a_1):=by omega) (u2:¬ 8≤(b-a_1):=by omega):zI Pg 82 [.slice data ae af,iV a_1,iV b,.func (.func az) ⟨[]⟩ ⟨aj⟩] σ Q :=
 zF [.g,.g,.n (b-a_1),.g,.g,.b false] (kd (an2 (w64 u1) (yB u2) nx))
theorem yCM (nx:Q (.tuple ⟨[]⟩) σ):zQD data ae af a_1 kB BC n2 σ Q :=
 sK [] nx
theorem xAD (h1:vU .u64 (length)=z1) (h2:zD Pg 70 [.int .u64 z1] σ (iV n2) σ) (h3:wW Pg .shl 118 (.const (.int .u64 1)) (.tmp 5) (.int .u64 1) (iV n2)=some (.int .u64 n3)) (nx:Q (.int .u64 n3) σ):zI Pg 96 [iV length] σ Q :=
 zF [.g,.g,.n z1,.c (iV n2) σ,.v (.int .u64 n3),.g] (kd (an3 h1 h2 h3 nx))
theorem xDO (h1:zB Pg σ 147 r=some (.int .u64 n1)) (h2:wW Pg .shl 147 (.tmp 8) (.const (.int .u64 13)) (.int .u64 n1) (.int .u64 13)=some (.int .u64 n2)) (h3:wW Pg .xor 147 (.tmp 5) (.tmp 9) (.int .u64 n1) (.int .u64 n2)=some (.int .u64 n3)) (h4:zL Pg (evL [.pointer (some r),.int .u64 n3]) σ (.store 147 (.tmp 0) (.tmp 1))=some (undef,σ4)) (h5:zB Pg σ4 147 r=some (.int .u64 n5)) (h6:wW Pg .shr 147 (.tmp 17) (.const (.int .u64 7)) (.int .u64 n5) (.int .u64 7)=some (.int .u64 n6)) (h7:wW Pg .xor 147 (.tmp 14) (.tmp 18) (.int .u64 n5) (.int .u64 n6)=some (.int .u64 n7)) (h8:zL Pg (evL [.pointer (some r),.int .u64 n7]) σ4 (.store 147 (.tmp 0) (.tmp 1))=some (undef,σ8)) (h9:zB Pg σ8 147 r=some (.int .u64 n9)) (h10:wW Pg .shl 147 (.tmp 26) (.const (.int .u64 17)) (.int .u64 n9) (.int .u64 17)=some (.int .u64 n10)) (h11:wW Pg .xor 147 (.tmp 23) (.tmp 27) (.int .u64 n9) (.int .u64 n10)=some (.int .u64 n11)) (h12:zL Pg (evL [.pointer (some r),.int .u64 n11]) σ8 (.store 147 (.tmp 0) (.tmp 1))=some (undef,σ12)) (h13:zB Pg σ12 147 r=some (.int .u64 n13)) (nx:Q (.int .u64 n13) σ12):zI Pg 97 [.pointer (some r)] σ Q :=
 zF [.g,.g,.g,.l (.int .u64 n1),.g,.g,.l (.int .u64 n1),.v (.int .u64 n2),.v (.int .u64 n3),.g,.e undef σ4,.g,.g,.l (.int .u64 n5),.g,.g,.l (.int .u64 n5),.v (.int .u64 n6),.v (.int .u64 n7),.g,.e undef σ8,.g,.g,.l (.int .u64 n9),.g,.g,.l (.int .u64 n9),.v (.int .u64 n10),.v (.int .u64 n11),.g,.e undef σ12,.g,.g,.l (.int .u64 n13),.g] (kd (an4 h1 h1 h2 h3 (an6 h4 h5 h5 h6 h7 h8 (an6 h9 h9 h10 h11 h12 h13 nx))))
theorem yRF (h1:zD Pg 89 [.int .u64 x] σ (iV n1) σ) (nx:Q (iV n1) σ):zI Pg 70 [.int .u64 x] σ Q :=
 zF [.g,.g,.c (iV n1) σ,.g] (kd (ai h1 nx))
theorem yWE (h1:wW Pg .shr 141 (.tmp 15) (.const (.int .u64 8)) (.int .u64 x) (.int .u64 8)=some (.int .u64 n1)) (h2:vU .u8 (n1)=z2) (h3:zAC Pg 9 (.string ⟨#[0,1,2,2,3,3,3,3,4,4,4,4,4,4,4,4,5,5,5,5,5,5,5,5,5,5,5,5,5,5,5,5,6,6,6,6,6,6,6,6,6,6,6,6,6,6,6,6,6,6,6,6,6,6,6,6,6,6,6,6,6,6,6,6,7,7,7,7,7,7,7,7,7,7,7,7,7,7,7,7,7,7,7,7,7,7,7,7,7,7,7,7,7,7,7,7,7,7,7,7,7,7,7,7,7,7,7,7,7,7,7,7,7,7,7,7,7,7,7,7,7,7,7,7,7,7,7,7,8,8,8,8,8,8,8,8,8,8,8,8,8,8,8,8,8,8,8,8,8,8,8,8,8,8,8,8,8,8,8,8,8,8,8,8,8,8,8,8,8,8,8,8,8,8,8,8,8,8,8,8,8,8,8,8,8,8,8,8,8,8,8,8,8,8,8,8,8,8,8,8,8,8,8,8,8,8,8,8,8,8,8,8,8,8,8,8,8,8,8,8,8,8,8,8,8,8,8,8,8,8,8,8,8,8,8,8,8,8,8,8,8,8,8,8,8,8,8,8,8,8,8,8,8,8,8,8]⟩) (.int .u8 z2)=some (.int .u8 n3)) (nx:Q (iV (8+n3)) σ) (u1:¬ 4294967296≤x:=by omega) (u2:¬ 65536≤x:=by omega) (u3:256≤x:=by omega) (u4:I6 n3:=by omega) (u5:I6 (8+n3):=by omega):zI Pg 89 [.int .u64 x] σ Q :=
 zF [.g,.g,.b false,.g,.b false,.g,.b true,.g,.v (.int .u64 n1),.g,.g,.g,.g,.g,.g,.n z2,.v (.int .u8 n3),.n n3,.n (8+n3),.g] (kd (an2 (yB u1) (yB u2) (an6 (zX u3) h1 h2 h3 (w64 u4) (w64 u5) nx)))
theorem yWD (h1:vU .u8 (x)=z1) (h2:zAC Pg 9 (.string ⟨#[0,1,2,2,3,3,3,3,4,4,4,4,4,4,4,4,5,5,5,5,5,5,5,5,5,5,5,5,5,5,5,5,6,6,6,6,6,6,6,6,6,6,6,6,6,6,6,6,6,6,6,6,6,6,6,6,6,6,6,6,6,6,6,6,7,7,7,7,7,7,7,7,7,7,7,7,7,7,7,7,7,7,7,7,7,7,7,7,7,7,7,7,7,7,7,7,7,7,7,7,7,7,7,7,7,7,7,7,7,7,7,7,7,7,7,7,7,7,7,7,7,7,7,7,7,7,7,7,8,8,8,8,8,8,8,8,8,8,8,8,8,8,8,8,8,8,8,8,8,8,8,8,8,8,8,8,8,8,8,8,8,8,8,8,8,8,8,8,8,8,8,8,8,8,8,8,8,8,8,8,8,8,8,8,8,8,8,8,8,8,8,8,8,8,8,8,8,8,8,8,8,8,8,8,8,8,8,8,8,8,8,8,8,8,8,8,8,8,8,8,8,8,8,8,8,8,8,8,8,8,8,8,8,8,8,8,8,8,8,8,8,8,8,8,8,8,8,8,8,8,8,8,8,8,8,8]⟩) (.int .u8 z1)=some (.int .u8 n2)) (nx:Q (iV (0+n2)) σ) (u1:¬ 4294967296≤x:=by omega) (u2:¬ 65536≤x:=by omega) (u3:¬ 256≤x:=by omega) (u4:I6 n2:=by omega) (u5:I6 (0+n2):=by omega):zI Pg 89 [.int .u64 x] σ Q :=
 zF [.g,.g,.b false,.g,.b false,.g,.b false,.g,.g,.n z1,.v (.int .u8 n2),.n n2,.n (0+n2),.g] (kd (ai (yB u1) (an6 (yB u2) (yB u3) h1 h2 (w64 u4) (w64 u5) nx)))
end
section
open Go.Sort (swp PermIn)
section
variable {σ : St} {b c : Nat} {s : Option Nat} {d : Array Rec} {g : FuncId} {gc : List Value} {lt : Rec → Rec → Bool} {V : Rec → Prop}
theorem xHP {a B : Nat} (h : Dt σ b s d) (hv : yX V d) (ha : a < B) (hB : B ≤ d.size) (hn : d.size ≤ 1000000) :
  vG 84 [.slice (some ⟨b, 0, s⟩) d.size c, iV (a : Int), iV (B : Int), .func (.func g) ⟨[]⟩ ⟨gc⟩] (.tuple ⟨[]⟩) σ b s d (Go.Sort.reverseRange d a B) := by
 refine vG.of h (xDY (P0 := fun τ => W σ τ b s d (Go.Sort.reverseRange d a B)) (yJW (Inv := fun k i j τ => ∃ (p q : Nat) (dk : Array Rec), i = p ∧ j = q ∧ k = q - p ∧ p ≤ B ∧ q < B ∧ W σ τ b s d dk ∧ dk.size = d.size ∧ Go.Sort.reverseLoop p q dk = Go.Sort.reverseRange d a B) ?_ (B - 1 - a) _ _ σ.re ⟨a, B - 1, d, rfl, by omega, rfl, by omega, by omega, W.start h, rfl, rfl⟩) (fun τ hw => yJV ⟨rfl, hw⟩) (by omega))
 rintro k i j τ ⟨p, q, dk, rfl, rfl, hk, hp, hq, w, hsz, ht⟩
 by_cases hpq : p < q
 rotate_left
 ·rw [Go.Sort.reverseLoop, if_neg hpq] at ht
  exact yYC (by rw [← ht]; exact w) (by omega)
 rw [Go.Sort.reverseLoop, if_pos hpq] at ht
 have l1 := w.dt.ldN (i := (q : Int)) (k := q) rfl (by omega)
 have l2 := w.dt.ldN (i := (p : Int)) (k := p) rfl (by omega)
 obtain ⟨τ5, τ6, t1, t2, w6⟩ := w.swapN (i := (p : Int)) (j := (q : Int)) (p := p) (q := q) rfl rfl (by omega) (by omega)
 exact yYD l1 l2 t1 t2 ⟨q - 1 - (p + 1), by omega, p + 1, q - 1, _, by omega, by omega, rfl, by omega, by omega, w6, by rw [yK, hsz], ht⟩
def zCM : List UInt8 := [0, 1, 2, 2, 3, 3, 3, 3, 4, 4, 4, 4, 4, 4, 4, 4, 5, 5, 5, 5, 5, 5, 5, 5, 5, 5, 5, 5, 5, 5, 5, 5] ++ List.replicate 32 6 ++ List.replicate 64 7 ++ List.replicate 128 8
theorem xAL : zCM.length = 256 := by decide
theorem yGB : ∀ n : Fin 256, (zCM.getD n.val 0).toNat ≤ 8 ∧ (0 < n.val → 2 ^ (zCM.getD n.val 0).toNat ≤ 2 * n.val) := by decide +kernel
theorem xII {n : Nat} (hn : n < 256) : zAC Try.prog 9 (.string ⟨⟨zCM⟩⟩) (iV (n : Int)) = some (.int .u8 ((zCM.getD n 0).toNat : Int)) := by
 have hl : n < zCM.length := by rw [xAL]; exact hn
 have e : zAC Try.prog 9 (.string ⟨⟨zCM⟩⟩) (iV (n : Int)) = if 0 ≤ (n : Int) then (((⟨⟨zCM⟩⟩ : ByteArray)[(n : Int).toNat]?).map fun b => Value.int .u8 b.toNat) else none := by
  unfold zAC
  have hu : Try.prog.underlying 9 = some .string := by kernel_rfl
  simp only [hu]
 rw [e, if_pos (by omega), Int.toNat_natCast]
 have hb : (⟨⟨zCM⟩⟩ : ByteArray)[n]? = some (zCM.getD n 0) := by
  rw [getElem?_pos _ n (by show n < zCM.length; exact hl)]
  congr 1
  rw [List.getD_eq_getElem?_getD, List.getElem?_eq_getElem hl]
  rfl
 rw [hb]; rfl
end
end
section
open Go.Sort (swp PermIn)
theorem xID {σ : St} {f : FuncId} {args : List Value} {S : Nat → Prop} {Q : Value → St → Prop} (h : zI Pg f args σ.re fun v s => Only S σ.re s ∧ (s.low < σ.y ∨ zQ RD v = false ∨ Q v σ) ∧ Q v s) (hQ : ∀ v s m, Q v s → Q v ⟨s.heap, s.y, m⟩) : ∃ v σ', zD Pg f args σ v σ' ∧ Only S σ σ' ∧ Q v σ' := by
 obtain ⟨v, s, hN, h1, h2, h3⟩ := h
 by_cases hlow : s.low < σ.y
 ·exact zI.mut ⟨v, s, hN, h1, .inl hlow, h3⟩ hQ
 ·cases hr : zQ RD v with
  | false => exact zI.mut ⟨v, s, hN, h1, .inr hr, h3⟩ hQ
  | true =>
   refine ⟨v, σ, zI.pure ⟨v, s, hN, rfl, by omega⟩ hr, Only.refl _ _, ?_⟩
   rcases h2 with h2 | h2 | h2
   ·exact absurd h2 hlow
   ·rw [hr] at h2; cases h2
   ·exact h2
theorem yXB (n : Int) : vU .u8 n = n % 256 := by
 have e1 : (2 : Int) ^ 8 = 256 := by decide
 rw [wT]
 simp only [IntKind.wrap, IntKind.bits, IntKind.signed, e1, Bool.false_and, Bool.false_eq_true, if_false]
theorem zRK (n : Int) : vU .u64 n = n % 18446744073709551616 := by
 have e1 : (2 : Int) ^ 64 = 18446744073709551616 := by decide
 rw [wT]
 simp only [IntKind.wrap, IntKind.bits, IntKind.signed, e1, Bool.false_and, Bool.false_eq_true, if_false]
theorem xJE {x z : Int} {o1 o2 : Operand} (hz : 0 ≤ z) : ∃ y, wW Pg .shl 147 o1 o2 (.int .u64 x) (.int .u64 z) = some (.int .u64 y) := by
 refine ⟨IntKind.u64.wrap (x * 2 ^ (min z.toNat IntKind.u64.bits)), ?_⟩
 have e : Op.shift .shl .u64 x .u64 z = pure (.int .u64 (IntKind.u64.wrap (x * 2 ^ (min z.toNat IntKind.u64.bits)))) := by unfold Op.shift; rw [if_neg (by omega)]
 show ((zY Pg (do eqGuard .shl 147 o1 o2 (.int .u64 x) (.int .u64 z); Op.shift .shl .u64 x .u64 z)).filter (zQ RD)) = _
 rw [e]; rfl
theorem xKM {x z : Int} {o1 o2 : Operand} (hz : 0 ≤ z) : ∃ y, wW Pg .shr 147 o1 o2 (.int .u64 x) (.int .u64 z) = some (.int .u64 y) := by
 refine ⟨x.fdiv (2 ^ (min z.toNat IntKind.u64.bits)), ?_⟩
 have e : Op.shift .shr .u64 x .u64 z = pure (.int .u64 (x.fdiv (2 ^ (min z.toNat IntKind.u64.bits)))) := by unfold Op.shift; rw [if_neg (by omega)]
 show ((zY Pg (do eqGuard .shr 147 o1 o2 (.int .u64 x) (.int .u64 z); Op.shift .shr .u64 x .u64 z)).filter (zQ RD)) = _
 rw [e]; rfl
theorem xHF {x z : Int} {o1 o2 : Operand} : ∃ y, wW Pg .xor 147 o1 o2 (.int .u64 x) (.int .u64 z) = some (.int .u64 y) := by
 refine ⟨IntKind.u64.wrap ((BitVec.ofInt IntKind.u64.bits x ^^^ BitVec.ofInt IntKind.u64.bits z).toNat : Int), ?_⟩
 have e : Op.intBits .xor .u64 x z = pure (.int .u64 (IntKind.u64.wrap ((BitVec.ofInt IntKind.u64.bits x ^^^ BitVec.ofInt IntKind.u64.bits z).toNat : Int))) := rfl
 show ((zY Pg (do eqGuard .xor 147 o1 o2 (.int .u64 x) (.int .u64 z); Op.intBits .xor .u64 x z)).filter (zQ RD)) = _
 rw [e]; rfl
theorem xKV {x : Int} {m : Nat} {o1 o2 : Operand} (hm : m < 18446744073709551616) : ∃ y : Nat, wW Pg .and 118 o1 o2 (.int .u64 x) (.int .u64 (m : Int)) = some (.int .u64 (y : Int)) ∧ y ≤ m := by
 have e64 : (2 : Nat) ^ IntKind.u64.bits = 18446744073709551616 := by decide
 have hb : (BitVec.ofInt IntKind.u64.bits (m : Int)).toNat = m := by
  rw [BitVec.toNat_ofInt, e64]; omega
 have hle : (BitVec.ofInt IntKind.u64.bits x &&& BitVec.ofInt IntKind.u64.bits (m : Int)).toNat ≤ m := by
  rw [BitVec.toNat_and, hb]; exact Nat.and_le_right
 refine ⟨(BitVec.ofInt IntKind.u64.bits x &&& BitVec.ofInt IntKind.u64.bits (m : Int)).toNat, ?_, hle⟩
 have e : Op.intBits .and .u64 x (m : Int) = pure (.int .u64 (IntKind.u64.wrap ((BitVec.ofInt IntKind.u64.bits x &&& BitVec.ofInt IntKind.u64.bits (m : Int)).toNat : Int))) := rfl
 show ((zY Pg (do eqGuard .and 118 o1 o2 (.int .u64 x) (.int .u64 (m : Int)); Op.intBits .and .u64 x (m : Int))).filter (zQ RD)) = _
 rw [e, ← wT, zRK, Int.emod_eq_of_lt (by omega) (by omega)]
 rfl
theorem xKN {n : Nat} {o1 o2 : Operand} : wW Pg .shr 141 o1 o2 (.int .u64 (n : Int)) (.int .u64 8) = some (.int .u64 ((n / 256 : Nat) : Int)) := by
 have e : Op.shift .shr .u64 (n : Int) .u64 8 = pure (.int .u64 ((n / 256 : Nat) : Int)) := by
  unfold Op.shift
  rw [if_neg (by omega)]
  show pure (Value.int .u64 (Int.fdiv (n : Int) (2 ^ (min (8 : Int).toNat IntKind.u64.bits)))) = _
  rw [show (2 : Int) ^ (min (8 : Int).toNat IntKind.u64.bits) = ((256 : Nat) : Int) by decide, ← Int.ofNat_fdiv]
 show ((zY Pg (do eqGuard .shr 141 o1 o2 (.int .u64 (n : Int)) (.int .u64 8); Op.shift .shr .u64 (n : Int) .u64 8)).filter (zQ RD)) = _
 rw [e]; rfl
theorem xKO {n : Nat} {o1 o2 : Operand} (h : n ≤ 16) : wW Pg .shl 118 o1 o2 (.int .u64 1) (iV (n : Int)) = some (.int .u64 ((2 ^ n : Nat) : Int)) := by
 have e : Op.shift .shl .u64 1 .i64 (n : Int) = pure (.int .u64 (IntKind.u64.wrap (1 * 2 ^ (min (n : Int).toNat IntKind.u64.bits)))) := by unfold Op.shift; rw [if_neg (by omega)]
 have e2 : IntKind.u64.wrap (1 * 2 ^ (min (n : Int).toNat IntKind.u64.bits)) = ((2 ^ n : Nat) : Int) := by
  have hp : 2 ^ n ≤ 2 ^ 16 := Nat.pow_le_pow_right (by omega) h
  have h16 : (2 : Nat) ^ 16 = 65536 := by decide
  rw [Int.toNat_natCast, show min n IntKind.u64.bits = n from Nat.min_eq_left (by show n ≤ 64; omega), ← wT, zRK, Int.one_mul]
  have e3 : (2 : Int) ^ n = ((2 ^ n : Nat) : Int) := by simp
  rw [e3]
  obtain ⟨k, hk⟩ : ∃ k : Nat, k = 2 ^ n := ⟨_, rfl⟩
  rw [← hk] at hp ⊢
  omega
 show ((zY Pg (do eqGuard .shl 118 o1 o2 (.int .u64 1) (iV (n : Int)); Op.shift .shl .u64 1 .i64 (n : Int))).filter (zQ RD)) = _
 rw [e, e2]; rfl
theorem yQQ {n : Nat} (hn : n < 256) : zAC Pg 9 (.string ⟨⟨zCM⟩⟩) (.int .u8 (n : Int)) = some (.int .u8 ((zCM.getD n 0).toNat : Int)) := by
 have h := xII hn
 have e : zAC Pg 9 (.string ⟨⟨zCM⟩⟩) (.int .u8 (n : Int)) = zAC Pg 9 (.string ⟨⟨zCM⟩⟩) (iV (n : Int)) := by
  unfold zAC
  have hu : Pg.underlying 9 = some .string := by kernel_rfl
  simp only [hu]
 rw [e, h]
section
variable {σ : St} {b c : Nat} {s : Option Nat} {d : Array Rec} {g : FuncId} {gc : List Value} {lt : Rec → Rec → Bool} {V : Rec → Prop}
theorem yON {x : Nat} (hx : x < 65536) : ∃ n : Nat, n ≤ 16 ∧ (0 < x → 2 ^ n ≤ 2 * x) ∧ zD Pg 70 [.int .u64 (x : Int)] σ (iV (n : Int)) σ := by
 by_cases h : x < 256
 ·obtain ⟨p1, p2⟩ := yGB ⟨x, h⟩
  refine ⟨(zCM.getD x 0).toNat, by simp only at p1; omega, fun h0 => p2 h0, ?_⟩
  refine (yRF (n1 := ((zCM.getD x 0).toNat : Int)) (yWD (z1 := (x : Int)) (n2 := ((zCM.getD x 0).toNat : Int)) (by rw [yXB]; omega) (yQQ h) ⟨by rw [Int.zero_add], Nat.le_refl _⟩ (by omega) (by omega) (by omega) (by simp only at p1; omega) (by simp only at p1; omega)).pure ⟨rfl, Nat.le_refl _⟩).pure
 ·have h2 : x / 256 < 256 := by omega
  obtain ⟨p1, p2⟩ := yGB ⟨x / 256, h2⟩
  simp only at p1 p2
  refine ⟨8 + (zCM.getD (x / 256) 0).toNat, by omega, fun _ => ?_, ?_⟩
  ·have := p2 (by omega)
   rw [Nat.pow_add, show (2 : Nat) ^ 8 = 256 from rfl]
   omega
  ·refine (yRF (n1 := ((8 + (zCM.getD (x / 256) 0).toNat : Nat) : Int)) (yWE (n1 := ((x / 256 : Nat) : Int)) (z2 := ((x / 256 : Nat) : Int)) (n3 := ((zCM.getD (x / 256) 0).toNat : Int)) xKN (by rw [yXB]; omega) (yQQ h2) ⟨by congr 1, Nat.le_refl _⟩ (by omega) (by omega) (by omega) (by omega) (by omega)).pure ⟨rfl, Nat.le_refl _⟩).pure
theorem xEX {l : Nat} (h0 : 0 < l) (hl : l < 65536) : ∃ m : Nat, 1 ≤ m ∧ m ≤ 2 * l ∧ zD Pg 96 [iV (l : Int)] σ (.int .u64 (m : Int)) σ := by
 obtain ⟨n, h1, h2, h3⟩ := yON (σ := σ.re) (x := l) hl
 exact ⟨2 ^ n, Nat.pow_pos (by omega), h2 h0, (xAD (z1 := (l : Int)) (by rw [zRK]; omega) h3 (xKO h1) ⟨rfl, Nat.le_refl _⟩).pure⟩
theorem xHG {r : Nat} {n : Int} (o : Own σ r [.int .u64 n] 1) : ∃ n' σ', zD Pg 97 [.pointer (some ⟨r, 0, none⟩)] σ (.int .u64 n') σ' ∧ Only (· = r) σ σ' ∧ Own σ' r [.int .u64 n'] 1 := by
 obtain ⟨n2, b2⟩ := xJE (x := n) (z := 13) (o1 := .tmp 8) (o2 := .const (.int .u64 13)) (by omega)
 obtain ⟨n3, b3⟩ := xHF (x := n) (z := n2) (o1 := .tmp 5) (o2 := .tmp 9)
 obtain ⟨n6, b6⟩ := xKM (x := n3) (z := 7) (o1 := .tmp 17) (o2 := .const (.int .u64 7)) (by omega)
 obtain ⟨n7, b7⟩ := xHF (x := n3) (z := n6) (o1 := .tmp 14) (o2 := .tmp 18)
 obtain ⟨n10, b10⟩ := xJE (x := n7) (z := 17) (o1 := .tmp 26) (o2 := .const (.int .u64 17)) (by omega)
 obtain ⟨n11, b11⟩ := xHF (x := n7) (z := n10) (o1 := .tmp 23) (o2 := .tmp 27)
 have o0 : Own σ.re r [.int .u64 n] 1 := o.re
 have s1 := o0.store (P := Pg) (k := 0) (t := 147) (v := .int .u64 n3) (vs := [.int .u64 n3]) (ds := [.int .u64 n3]) rfl zQO rfl (by simp) rfl
 have o1 : Own (σ.re.own r [.int .u64 n3] 1) r [.int .u64 n3] 1 := o0.put
 have s2 := o1.store (P := Pg) (k := 0) (t := 147) (v := .int .u64 n7) (vs := [.int .u64 n7]) (ds := [.int .u64 n7]) rfl zQO rfl (by simp) rfl
 have o2 : Own ((σ.re.own r [.int .u64 n3] 1).own r [.int .u64 n7] 1) r [.int .u64 n7] 1 := o1.put
 have s3 := o2.store (P := Pg) (k := 0) (t := 147) (v := .int .u64 n11) (vs := [.int .u64 n11]) (ds := [.int .u64 n11]) rfl zQO rfl (by simp) rfl
 have o3 : Own (((σ.re.own r [.int .u64 n3] 1).own r [.int .u64 n7] 1).own r [.int .u64 n11] 1) r [.int .u64 n11] 1 := o2.put
 have hr := o.lt
 obtain ⟨v, σ', k1, k2, n', rfl, k3⟩ := zI.mut (P := Pg) (f := 97) (args := [.pointer (some ⟨r, 0, none⟩)]) (σ := σ) (S := (· = r)) (Q := fun v s => ∃ n', v = .int .u64 n' ∧ Own s r [.int .u64 n'] 1)
  (xDO (o0.ld rfl yCT rfl) b2 b3 s1 (o1.ld rfl yCT rfl) b6 b7 s2 (o2.ld rfl yCT rfl) b10 b11 s3 (o3.ld rfl yCT rfl)
   ⟨(((Only.own (S := (· = r)) (.inr rfl)).trans' (Only.own (S := (· = r)) (.inr rfl)) (fun b _ h => .inl h)).trans' (Only.own (S := (· = r)) (.inr rfl)) (fun b _ h => .inl h)), .inl (by simp [St.own]; omega), n11, rfl, o3⟩)
  (by rintro v s m ⟨n', rfl, h⟩; exact ⟨n', rfl, h.low⟩)
 exact ⟨n', σ', k1, k2, k3⟩
theorem W.other {τ τ' : St} {dk : Array Rec} {S : Nat → Prop} (w : W σ τ b s d dk) (hb : b < σ.y) (o : Only S τ τ') (hS : ∀ x, S x → σ.y ≤ x) (hl : τ'.low ≤ τ.low) : W σ τ' b s d dk := by
 refine ⟨w.only.trans' o (fun x _ h => .inr (hS x h)), w.dt.only o (fun h => by have := hS b h; omega), ?_⟩
 rcases w.low with h | h
 ·exact .inl (by omega)
 ·exact .inr h
theorem xCE {a B : Nat} (h : Dt σ b s d) (ha : a ≤ B) (hB : B ≤ d.size) (hn : d.size ≤ 60000) (hv : yX V d) :
  ∃ d', PermIn a B d d' ∧ yX V d' ∧ vG 82 [.slice (some ⟨b, 0, s⟩) d.size c, iV (a : Int), iV (B : Int), .func (.func g) ⟨[]⟩ ⟨gc⟩] (.tuple ⟨[]⟩) σ b s d d' := by
 suffices hmain : zI Pg 82 [.slice (some ⟨b, 0, s⟩) d.size c, iV (a : Int), iV (B : Int), .func (.func g) ⟨[]⟩ ⟨gc⟩] σ.re fun v τ => v = .tuple ⟨[]⟩ ∧ ∃ d', W σ τ b s d d' ∧ PermIn a B d d' ∧ yX V d' by
  obtain ⟨v, τ, hN, e, d', w, r1, r2⟩ := hmain
  exact ⟨d', r1, r2, vG.of h ⟨v, τ, hN, e, w⟩⟩
 by_cases h8 : B - a < 8
 ·exact yVY ⟨rfl, d, W.start h, Go.Sort.permIn_refl _ _ _, hv⟩ (by omega) (by omega)
 obtain ⟨l, hl⟩ : ∃ l, l = B - a := ⟨_, rfl⟩
 have el : (B : Int) - (a : Int) = (l : Int) := by omega
 have e4 : Int.tdiv (l : Int) 4 = ((l / 4 : Nat) : Int) := by rw [Int.tdiv_eq_ediv_of_nonneg (by omega)]; omega
 have w4 : IntKind.wrap .i64 (Int.tdiv (l : Int) 4) = Int.tdiv (l : Int) 4 := by rw [← wT, e4, zRL (by omega) (by omega)]
 have ez : vU .u64 ((B : Int) - (a : Int)) = (l : Int) := by rw [el, zRK]; omega
 have hbn := h.1
 obtain ⟨m, hm1, hm2, km⟩ := xEX (σ := (σ.re.row [.int .u64 0] 1).own σ.re.y [.int .u64 (l : Int)] 1) (l := l) (by omega) (by omega)
 have o1 : Own ((σ.re.row [.int .u64 0] 1).own σ.re.y [.int .u64 (l : Int)] 1) σ.y [.int .u64 (l : Int)] 1 := (zC _ _ _).put
 have O1 : Only (· = σ.y) σ.re ((σ.re.row [.int .u64 0] 1).own σ.re.y [.int .u64 (l : Int)] 1) := (Only.row (S := (· = σ.y)) _ _ _).trans' (Only.own (S := (· = σ.y)) (.inr rfl)) (fun b _ h => .inl h)
 have w1 : W σ ((σ.re.row [.int .u64 0] 1).own σ.re.y [.int .u64 (l : Int)] 1) b s d d := (W.start h).other hbn O1 (fun x hx => by omega) (by simp [St.own])
 refine yVZ ez (by rw [el]; exact km) (by rw [el]; exact w4) (P0 := fun τ => ∃ d', W σ τ b s d d' ∧ PermIn a B d d' ∧ yX V d')
  (by
   rw [el]
   refine yCN (Inv := fun k i τ => ∃ (p : Nat) (dk : Array Rec) (n : Int), i = p ∧ p + k = a + l / 4 * 2 + 2 ∧ a ≤ p ∧ W σ τ b s d dk ∧ PermIn a B d dk ∧ yX V dk ∧ Own τ σ.y [.int .u64 n] 1) ?_ 3 _ _ ⟨a + l / 4 * 2 - 1, d, _, by rw [e4]; omega, by omega, by omega, w1, Go.Sort.permIn_refl _ _ _, hv, o1⟩
   rintro k i τ ⟨p, dk, n, rfl, hk, hap, w, hperm, hall, o⟩
   have hsz : dk.size = d.size := hperm.1
   by_cases hp : p ≤ a + l / 4 * 2 + 1
   rotate_left
   ·exact yOF w4 ⟨dk, w, hperm, hall⟩ (by rw [e4]; omega) (by rw [e4]; omega) (by rw [e4]; omega) (by rw [e4]; omega)
   obtain ⟨n', τ', kx, ox, oo⟩ := xHG o
   have w2 := w.other hbn ox (fun x hx => by omega) (zUZ kx)
   obtain ⟨y, by1, by2⟩ := xKV (x := n') (m := m - 1) (o1 := .tmp 38) (o2 := .tmp 40) (by omega)
   have em : vU .u64 (Int.sub (m : Int) 1) = ((m - 1 : Nat) : Int) := by
    rw [show Int.sub (m : Int) 1 = (m : Int) - 1 from rfl, zRK]; omega
   have key : ∀ (q : Nat) (j : Int), j = (q : Int) → a ≤ q → q < B → ∃ τ1 τ2, zL Pg (evL [.pointer (some (zH ⟨b, 0, s⟩ (Int.toNat (p : Int) * 3))), zCB dk[q]!]) τ' (.store 47 (.tmp 0) (.tmp 1)) = some (undef, τ1) ∧
     zL Pg (evL [.pointer (some (zH ⟨b, 0, s⟩ (Int.toNat j * 3))), zCB dk[p]!]) τ1 (.store 47 (.tmp 0) (.tmp 1)) = some (undef, τ2) ∧
     ∃ k', k' < k ∧ ∃ (p' : Nat) (dk' : Array Rec) (n : Int), (p : Int) + 1 = p' ∧ p' + k' = a + l / 4 * 2 + 2 ∧ a ≤ p' ∧ W σ τ2 b s d dk' ∧ PermIn a B d dk' ∧ yX V dk' ∧ Own τ2 σ.y [.int .u64 n] 1 := by
    intro q j hj h1 h2
    obtain ⟨τ1, e1, d1, q1, l1⟩ := w2.dt.st (i := (p : Int)) dk[q]! (by omega) (by omega)
    obtain ⟨τ2, e2, d2, q2, l2⟩ := d1.st (i := j) dk[p]! (by omega) (by rw [Array.size_setIfInBounds]; omega)
    have es : (dk.setIfInBounds (p : Int).toNat dk[q]!).setIfInBounds j.toNat dk[p]! = swp dk p q := by rw [hj, Int.toNat_natCast, Int.toNat_natCast]; rfl
    rw [es] at d2
    exact ⟨τ1, τ2, e1, e2, k - 1, by omega, p + 1, swp dk p q, n', by omega, by omega, by omega, ⟨(w2.only.trans' q1 (fun b _ h => .inl h)).trans' q2 (fun b _ h => .inl h), d2, .inl l2⟩,
     Go.Sort.permIn_trans _ _ _ a B hperm (Go.Sort.swp_permIn dk a B p q (by omega) (by omega) h1 h2 (by omega)), hall.swp (by omega) (by omega), q2.own' (q1.own' oo (fun e => by omega)) (fun e => by omega)⟩
   have lp := w2.dt.ldN (i := (p : Int)) (k := p) rfl (by omega)
   by_cases hy : l ≤ y
   ·obtain ⟨τ1, τ2, e1, e2, hk'⟩ := key (a + (y - l)) ((a : Int) + ((y : Int) - (l : Int))) (by omega) (by omega) (by omega)
    have lq := w2.dt.ldN (i := (a : Int) + ((y : Int) - (l : Int))) (k := a + (y - l)) (by omega) (by omega)
    exact yOH w4 kx em by1 lq lp e1 e2 hk' (by rw [e4]; omega) (by rw [e4]; omega) (by rw [e4]; omega) (by rw [e4]; omega) (by omega) (by omega) (by omega) (by omega) (by omega) (by omega)
   ·obtain ⟨τ1, τ2, e1, e2, hk'⟩ := key (a + y) ((a : Int) + (y : Int)) (by omega) (by omega) (by omega)
    have lq := w2.dt.ldN (i := (a : Int) + (y : Int)) (k := a + y) (by omega) (by omega)
    exact yOG w4 kx em by1 lq lp e1 e2 hk' (by rw [e4]; omega) (by rw [e4]; omega) (by rw [e4]; omega) (by rw [e4]; omega) (by omega) (by omega) (by omega) (by omega) (by omega))
  (fun τ hw => yCM ⟨rfl, hw⟩) (by omega) (by omega) (by rw [el, e4]; omega) (by rw [el, e4]; omega) (by rw [el, e4]; omega)
end
end
section
variable {σ : St} {b c : Nat} {s : Option Nat} {d : Array Rec} {g : FuncId} {gc : List Value} {lt : Rec → Rec → Bool} {V : Rec → Prop}
theorem yME {bs i j : Nat} {n : Int} (h : Dt σ b s d) (hc : Cmp g gc lt V) (hv : yX V d) (o : Own σ bs [iV n] 1) (hi : i < d.size) (hj : j < d.size) (hn : 0 ≤ n ∧ n ≤ 1000) :
  ∃ (x y : Nat) (n' : Int) (σ' : St), zD Try.prog 104 [.slice (some ⟨b, 0, s⟩) d.size c, iV (i : Int), iV (j : Int), .pointer (some ⟨bs, 0, none⟩), .func (.func g) ⟨[]⟩ ⟨gc⟩] σ (.tuple ⟨[iV (x : Int), iV (y : Int)]⟩) σ' ∧ Only (· = bs) σ σ' ∧
   ((x = i ∧ y = j) ∨ (x = j ∧ y = i)) ∧ n ≤ n' ∧ n' ≤ n + 1 ∧ Own σ' bs [iV n'] 1 := by
 have h0 : Dt σ.re b s d := h
 have l1 := h0.ldN (i := (j : Int)) (k := j) rfl hj
 have l2 := h0.ldN (i := (i : Int)) (k := i) rfl hi
 have hbs := o.lt
 obtain ⟨m, cm, hm⟩ := hc.at_ (τ := σ.re) hv hj hi
 suffices hmain : zI Try.prog 104 [.slice (some ⟨b, 0, s⟩) d.size c, iV (i : Int), iV (j : Int), .pointer (some ⟨bs, 0, none⟩), .func (.func g) ⟨[]⟩ ⟨gc⟩] σ.re fun v τ => Only (· = bs) σ.re τ ∧ (τ.low < σ.y ∨ zQ RD v = false ∨ ∃ (x y : Nat) (n' : Int), v = .tuple ⟨[iV (x : Int), iV (y : Int)]⟩ ∧ ((x = i ∧ y = j) ∨ (x = j ∧ y = i)) ∧ n ≤ n' ∧ n' ≤ n + 1 ∧ Own σ bs [iV n'] 1) ∧
   ∃ (x y : Nat) (n' : Int), v = .tuple ⟨[iV (x : Int), iV (y : Int)]⟩ ∧ ((x = i ∧ y = j) ∨ (x = j ∧ y = i)) ∧ n ≤ n' ∧ n' ≤ n + 1 ∧ Own τ bs [iV n'] 1 by
  obtain ⟨v, σ', k1, k2, x, y, n', rfl, k3, k4, k5, k6⟩ := xID (Q := fun v τ => ∃ (x y : Nat) (n' : Int), v = .tuple ⟨[iV (x : Int), iV (y : Int)]⟩ ∧ ((x = i ∧ y = j) ∨ (x = j ∧ y = i)) ∧ n ≤ n' ∧ n' ≤ n + 1 ∧ Own τ bs [iV n'] 1) hmain
   (by rintro v s m ⟨x, y, n', rfl, a1, a2, a3, a4⟩; exact ⟨x, y, n', rfl, a1, a2, a3, a4.low⟩)
  exact ⟨x, y, n', σ', k1, k2, k3, k4, k5, k6⟩
 rcases hm with ⟨m1, _⟩ | ⟨m1, _⟩
 ·have o0 : Own σ.re bs [iV n] 1 := o.re
  have st := o0.store (P := Try.prog) (k := 0) (t := 3) (v := iV (n + 1)) (vs := [iV (n + 1)]) (ds := [iV (n + 1)]) rfl zEZ rfl (by simp) rfl
  exact xEQ l1 l2 cm (o0.ld rfl zK rfl) st ⟨Only.own (.inr rfl), .inl (by simp [St.own]; omega), j, i, n + 1, rfl, .inr ⟨rfl, rfl⟩, by omega, by omega, o0.put⟩
 ·exact xEP l1 l2 cm ⟨Only.refl _ _, .inr (.inr ⟨i, j, n, rfl, .inl ⟨rfl, rfl⟩, by omega, by omega, o⟩), i, j, n, rfl, .inl ⟨rfl, rfl⟩, by omega, by omega, o.re⟩
theorem xAF {bs i j k : Nat} {n : Int} (h : Dt σ b s d) (hc : Cmp g gc lt V) (hv : yX V d) (o : Own σ bs [iV n] 1) (hb : b ≠ bs) (hi : i < d.size) (hj : j < d.size) (hk : k < d.size) (hn : 0 ≤ n ∧ n ≤ 900) :
    ∃ (x : Nat) (n' : Int) (σ' : St), zD Try.prog 99 [.slice (some ⟨b, 0, s⟩) d.size c, iV (i : Int), iV (j : Int), iV (k : Int), .pointer (some ⟨bs, 0, none⟩), .func (.func g) ⟨[]⟩ ⟨gc⟩] σ (iV (x : Int)) σ' ∧ Only (· = bs) σ σ' ∧
      (x = i ∨ x = j ∨ x = k) ∧ n ≤ n' ∧ n' ≤ n + 3 ∧ Own σ' bs [iV n'] 1 := by
  have hbs := o.lt
  obtain ⟨x1, y1, n1, σ1, k1, q1, z1, e1, f1, o1⟩ := yME (c := c) (σ := σ.re) h hc hv o.re hi hj (by omega)
  have h1 : Dt σ1 b s d := (show Dt σ.re b s d from h).only q1 (by omega)
  obtain ⟨x2, y2, n2, σ2, k2, q2, z2, e2, f2, o2⟩ := yME (c := c) h1 hc hv o1 (i := y1) (j := k) (by omega) hk (by omega)
  have h2 := h1.only q2 (by omega)
  obtain ⟨x3, y3, n3, σ3, k3, q3, z3, e3, f3, o3⟩ := yME (c := c) h2 hc hv o2 (i := x1) (j := x2) (by omega) (by omega) (by omega)
  have Q3 := (q1.trans' q2 (fun b _ h => .inl h)).trans' q3 (fun b _ h => .inl h)
  have hz : y3 = i ∨ y3 = j ∨ y3 = k := by omega
  by_cases hlow : σ3.low < σ.y
  · obtain ⟨v, σ', r1, r2, x, n', rfl, r3, r4, r5, r6⟩ := xID (σ := σ) (f := 99) (args := [.slice (some ⟨b, 0, s⟩) d.size c, iV (i : Int), iV (j : Int), iV (k : Int), .pointer (some ⟨bs, 0, none⟩), .func (.func g) ⟨[]⟩ ⟨gc⟩]) (S := (· = bs)) (Q := fun v τ => ∃ (x : Nat) (n' : Int), v = iV (x : Int) ∧ (x = i ∨ x = j ∨ x = k) ∧ n ≤ n' ∧ n' ≤ n + 3 ∧ Own τ bs [iV n'] 1)
      (xAE k1 k2 k3 ⟨Q3, .inl hlow, y3, n3, rfl, hz, by omega, by omega, o3⟩) (by rintro v s m ⟨x, n', rfl, a1, a2, a3, a4⟩; exact ⟨x, n', rfl, a1, a2, a3, a4.low⟩)
    exact ⟨x, n', σ', r1, r2, r3, r4, r5, r6⟩
  · exact ⟨y3, n, σ, zI.pure (xAE k1 k2 k3 ⟨rfl, by omega⟩), Only.refl _ _, hz, by omega, by omega, o⟩
theorem yMH {bs i : Nat} {n : Int} (h : Dt σ b s d) (hc : Cmp g gc lt V) (hv : yX V d) (o : Own σ bs [iV n] 1) (hb : b ≠ bs) (hi : 1 ≤ i) (hj : i + 1 < d.size) (hsz : d.size ≤ 1000000) (hn : 0 ≤ n ∧ n ≤ 800) :
    ∃ (x : Nat) (n' : Int) (σ' : St), zD Try.prog 98 [.slice (some ⟨b, 0, s⟩) d.size c, iV (i : Int), .pointer (some ⟨bs, 0, none⟩), .func (.func g) ⟨[]⟩ ⟨gc⟩] σ (iV (x : Int)) σ' ∧ Only (· = bs) σ σ' ∧
      (i ≤ x + 1 ∧ x ≤ i + 1) ∧ n ≤ n' ∧ n' ≤ n + 3 ∧ Own σ' bs [iV n'] 1 := by
  have hbs := o.lt
  obtain ⟨x1, n1, σ1, k1, q1, z1, e1, f1, o1⟩ := xAF (c := c) (σ := σ.re) h hc hv o.re hb (i := i - 1) (j := i) (k := i + 1) (by omega) (by omega) hj (by omega)
  rw [show ((i - 1 : Nat) : Int) = (i : Int) - 1 by omega, show ((i + 1 : Nat) : Int) = (i : Int) + 1 by omega] at k1
  have hz : i ≤ x1 + 1 ∧ x1 ≤ i + 1 := by omega
  by_cases hlow : σ1.low < σ.y
  · obtain ⟨v, σ', r1, r2, x, n', rfl, r3, r4, r5, r6⟩ := xID (σ := σ) (f := 98) (args := [.slice (some ⟨b, 0, s⟩) d.size c, iV (i : Int), .pointer (some ⟨bs, 0, none⟩), .func (.func g) ⟨[]⟩ ⟨gc⟩]) (S := (· = bs)) (Q := fun v τ => ∃ (x : Nat) (n' : Int), v = iV (x : Int) ∧ (i ≤ x + 1 ∧ x ≤ i + 1) ∧ n ≤ n' ∧ n' ≤ n + 3 ∧ Own τ bs [iV n'] 1)
      (yQI k1 ⟨q1, .inl hlow, x1, n1, rfl, hz, by omega, by omega, o1⟩) (by rintro v s m ⟨x, n', rfl, a1, a2, a3, a4⟩; exact ⟨x, n', rfl, a1, a2, a3, a4.low⟩)
    exact ⟨x, n', σ', r1, r2, r3, r4, r5, r6⟩
  · exact ⟨x1, n, σ, zI.pure (yQI k1 ⟨rfl, by omega⟩), Only.refl _ _, hz, by omega, by omega, o⟩
theorem yVT {a B : Nat} (h : Dt σ b s d) (hc : Cmp g gc lt V) (hv : yX V d) (ha : a < B) (hB : B ≤ d.size) (hsz : d.size ≤ 1000000) :
  ∃ (x : Nat) (k : Int), a ≤ x ∧ x < B ∧ zD Try.prog 83 [.slice (some ⟨b, 0, s⟩) d.size c, iV (a : Int), iV (B : Int), .func (.func g) ⟨[]⟩ ⟨gc⟩] σ (.tuple ⟨[iV (x : Int), iV k]⟩) σ := by
 obtain ⟨l, hl⟩ : ∃ l, l = B - a := ⟨_, rfl⟩
 have el : (B : Int) - (a : Int) = (l : Int) := by omega
 have e4 : Int.tdiv ((B : Int) - (a : Int)) 4 = ((l / 4 : Nat) : Int) := by rw [el, Int.tdiv_eq_ediv_of_nonneg (by omega)]; omega
 have w4 : IntKind.wrap .i64 (Int.tdiv ((B : Int) - (a : Int)) 4) = Int.tdiv ((B : Int) - (a : Int)) 4 := by rw [← wT, e4, zRL (by omega) (by omega)]
 have hbn := h.1
 have o1 : Own (σ.re.row [iV 0] 1) σ.y [iV 0] 1 := zC _ _ _
 have N1 : New σ.re (σ.re.row [iV 0] 1) := New.row _ _ _
 have h1 : Dt (σ.re.row [iV 0] 1) b s d := (show Dt σ.re b s d from h).le N1.le
 have hS : ∀ x, x = σ.y → σ.y ≤ x := fun x e => by omega
 by_cases h8 : 8 ≤ l
 rotate_left
 ·exact ⟨a + l / 4 * 2, 1, by omega, by omega, zI.pure (yNJ w4 ⟨by rw [e4]; congr 3, N1.lw⟩ (by omega) (by rw [e4]; omega) (by rw [e4]; omega) (by rw [e4]; omega) (by rw [e4]; omega) (by rw [e4]; omega) (by rw [e4]; omega) (by omega))⟩
 have i1 : (a : Int) + Int.tdiv ((B : Int) - (a : Int)) 4 * 1 = ((a + l / 4 * 1 : Nat) : Int) := by rw [e4]; omega
 have i2 : (a : Int) + Int.tdiv ((B : Int) - (a : Int)) 4 * 2 = ((a + l / 4 * 2 : Nat) : Int) := by rw [e4]; omega
 have i3 : (a : Int) + Int.tdiv ((B : Int) - (a : Int)) 4 * 3 = ((a + l / 4 * 3 : Nat) : Int) := by rw [e4]; omega
 by_cases h50 : 50 ≤ l
 rotate_left
 ·obtain ⟨x, n', σ2, k2, q2, z2, m1, m2, o2⟩ := xAF (c := c) h1 hc hv o1 (by omega) (i := a + l / 4 * 1) (j := a + l / 4 * 2) (k := a + l / 4 * 3) (by omega) (by omega) (by omega) (by omega)
  rw [← i1, ← i2, ← i3] at k2
  have N2 := N1.of_only q2 hS
  by_cases g0 : n' = 0
  ·exact ⟨x, 1, by omega, by omega, zI.pure (yNM w4 k2 (o2.ld rfl zK rfl) ⟨rfl, N2.lw⟩ (by omega) (by rw [e4]; omega) (by rw [e4]; omega) (by rw [e4]; omega) (by rw [e4]; omega) (by rw [e4]; omega) (by rw [e4]; omega) (by omega) (by omega) (by omega))⟩
  by_cases g12 : n' = 12
  ·exact ⟨x, 2, by omega, by omega, zI.pure (yNL w4 k2 (o2.ld rfl zK rfl) ⟨rfl, N2.lw⟩ (by omega) (by rw [e4]; omega) (by rw [e4]; omega) (by rw [e4]; omega) (by rw [e4]; omega) (by rw [e4]; omega) (by rw [e4]; omega) (by omega) (by omega) (by omega) (by omega))⟩
  ·exact ⟨x, 0, by omega, by omega, zI.pure (yNK w4 k2 (o2.ld rfl zK rfl) ⟨rfl, N2.lw⟩ (by omega) (by rw [e4]; omega) (by rw [e4]; omega) (by rw [e4]; omega) (by rw [e4]; omega) (by rw [e4]; omega) (by rw [e4]; omega) (by omega) (by omega) (by omega) (by omega))⟩
 obtain ⟨x1, n1, σ2, k2, q2, z2, m1, m2, o2⟩ := yMH (c := c) h1 hc hv o1 (by omega) (i := a + l / 4 * 1) (by omega) (by omega) hsz (by omega)
 have N2 := N1.of_only q2 hS
 have h2 := h1.only q2 (by omega)
 obtain ⟨x2, n2, σ3, k3, q3, z3, m3, m4, o3⟩ := yMH (c := c) h2 hc hv o2 (by omega) (i := a + l / 4 * 2) (by omega) (by omega) hsz (by omega)
 have N3 := N2.of_only q3 hS
 have h3 := h2.only q3 (by omega)
 obtain ⟨x3, n3, σ4, k4, q4, z4, m5, m6, o4⟩ := yMH (c := c) h3 hc hv o3 (by omega) (i := a + l / 4 * 3) (by omega) (by omega) hsz (by omega)
 have N4 := N3.of_only q4 hS
 have h4 := h3.only q4 (by omega)
 obtain ⟨x, n', σ5, k5, q5, z5, m7, m8, o5⟩ := xAF (c := c) h4 hc hv o4 (by omega) (i := x1) (j := x2) (k := x3) (by omega) (by omega) (by omega) (by omega)
 have N5 := N4.of_only q5 hS
 rw [← i1] at k2
 rw [← i2] at k3
 rw [← i3] at k4
 by_cases g0 : n' = 0
 ·exact ⟨x, 1, by omega, by omega, zI.pure (yNP w4 k2 k3 k4 k5 (o5.ld rfl zK rfl) ⟨rfl, N5.lw⟩ (by omega) (by rw [e4]; omega) (by rw [e4]; omega) (by rw [e4]; omega) (by rw [e4]; omega) (by rw [e4]; omega) (by rw [e4]; omega) (by omega) (by omega) (by omega))⟩
 by_cases g12 : n' = 12
 ·exact ⟨x, 2, by omega, by omega, zI.pure (yNO w4 k2 k3 k4 k5 (o5.ld rfl zK rfl) ⟨rfl, N5.lw⟩ (by omega) (by rw [e4]; omega) (by rw [e4]; omega) (by rw [e4]; omega) (by rw [e4]; omega) (by rw [e4]; omega) (by rw [e4]; omega) (by omega) (by omega) (by omega) (by omega))⟩
 ·exact ⟨x, 0, by omega, by omega, zI.pure (yNN w4 k2 k3 k4 k5 (o5.ld rfl zK rfl) ⟨rfl, N5.lw⟩ (by omega) (by rw [e4]; omega) (by rw [e4]; omega) (by rw [e4]; omega) (by rw [e4]; omega) (by rw [e4]; omega) (by rw [e4]; omega) (by omega) (by omega) (by omega) (by omega))⟩
end
section
variable {data x:Option Addr} {ae af x_l x_c:Nat} {az:FuncId} {aj:List Value} {Inv:Nat→Int→Int→Int→Bool→Bool→St→Prop} {Qr Pr:St→Prop} {aR aJ bg kA aP aD cj nJB nHB du nY nT nU nV nW nX nBJ nBK nDB nEB kD kE kC nL eg ee a_1 b limit z1 n2:Int} {ed a9 bN ep dJ dH dG dN bA d6 t10_5:Bool} {σL σ σNB σOB σA σPB σG σS σ3:St} {Nx:Int→Int→Int→Bool→Bool→St→Prop} {Qn Pn Q1 P1:Int→St→Prop} {ao:Addr} {Q:Value→St→Prop}
noncomputable def zJX:Code:=(Code.part [1,1,0,0] (zO Pg 69))
def zSQ (data:Option Addr) (ae af:Nat) (az:FuncId) (aj:List Value) (aR aJ bg:Int) (ed a9:Bool):List (Nat × Value):=[(0,.slice data ae af),(1,iV aR),(2,iV aJ),(3,iV bg),(4,.func (.func az) ⟨[]⟩ ⟨aj⟩),(10,.bool ed),(11,.bool a9)]
def zHZ (data:Option Addr) (ae af:Nat) (az:FuncId) (aj:List Value) (Q:Int→Int→Int→Bool→Bool→St→Prop):Alt:=⟨Int × Int × Int × Bool × Bool,.normal,fun t=>zSQ data ae af az aj t.1 t.2.1 t.2.2.1 t.2.2.2.1 t.2.2.2.2,fun t=>[],fun t σ=>Q t.1 t.2.1 t.2.2.1 t.2.2.2.1 t.2.2.2.2 σ⟩
def yEV (data:Option Addr) (ae af:Nat) (az:FuncId) (aj:List Value):List (Nat × Value):=[]
def zAS (data:Option Addr) (ae af:Nat) (az:FuncId) (aj:List Value) (Q:St→Prop):Alt:=⟨Unit,.ret,fun t=>yEV data ae af az aj,fun t=>[],fun t σ=>Q σ⟩
def zND (data:Option Addr) (ae af:Nat) (az:FuncId) (aj:List Value) (aR aJ bg:Int) (ed a9:Bool) (σ:St) (Nx:Int→Int→Int→Bool→Bool→St→Prop) (Qr:St→Prop):Prop:=yJ Pg (zS Pg) none zJX 148 (zSQ data ae af az aj aR aJ bg ed a9) [] [zHZ data ae af az aj Nx,zAS data ae af az aj Qr] σ
def yYW (data:Option Addr) (ae af:Nat) (az:FuncId) (aj:List Value) (aR aJ bg:Int) (ed a9:Bool) (σ:St) (Qr:St→Prop):Prop:=yR Pg (zS Pg) none zJX 148 (zSQ data ae af az aj aR aJ bg ed a9) [] [zAS data ae af az aj Qr] σ
theorem zXF (hb:∀ k aR aJ bg ed a9 σ,Inv k aR aJ bg ed a9 σ→zND data ae af az aj aR aJ bg ed a9 σ (NX5 Inv k) Qr):∀ k aR aJ bg ed a9 σ,Inv k aR aJ bg ed a9 σ→yYW data ae af az aj aR aJ bg ed a9 σ Qr :=
 xIF (ai zAQ trivial) hb
theorem yPT (h1:zD Pg 80 [.slice data ae af,iV aR,iV aJ,.func (.func az) ⟨[]⟩ ⟨aj⟩] σ (.tuple ⟨[]⟩) σL) (nx:Qr σL) (u1:I6 (aJ-aR):=by omega) (u2:(aJ-aR)≤12:=by omega):zND data ae af az aj aR aJ bg ed a9 σ Nx Qr :=
 kO 1 () [.g,.g,.n (aJ-aR),.g,.g,.b true,.g,.g,.g,.g,.c (.tuple ⟨[]⟩) σL] (fun _ f=>(an3 (w64 u1) (zX u2) h1 f)) nx
theorem xEM (h1:zD Pg 81 [.slice data ae af,iV aR,iV aJ,.func (.func az) ⟨[]⟩ ⟨aj⟩] σ (.tuple ⟨[]⟩) σL) (nx:Qr σL) (u1:I6 (aJ-aR):=by omega) (u2:¬ (aJ-aR)≤12:=by omega) (u3:bg=0:=by omega):zND data ae af az aj aR aJ bg ed a9 σ Nx Qr :=
 kO 1 () [.g,.g,.n (aJ-aR),.g,.g,.b false,.g,.b true,.g,.g,.g,.g,.c (.tuple ⟨[]⟩) σL] (fun _ f=>(an4 (w64 u1) (yB u2) (wJ u3) h1 f)) nx
noncomputable def xHY:Code:=(Code.part [1,1,0,0,0,1,1,1,0,1] (zO Pg 69))
def yLH (data:Option Addr) (ae af:Nat) (aR aJ:Int) (az:FuncId) (aj:List Value) (bN a9:Bool) (kA:Int) (ep:Bool) (aP:Int):List (Nat × Value):=[(0,.slice data ae af),(1,iV aR),(2,iV aJ),(3,iV aP),(4,.func (.func az) ⟨[]⟩ ⟨aj⟩),(10,.bool bN),(11,.bool a9),(12,iV kA),(39,.bool ep)]
def yEU (data:Option Addr) (ae af:Nat) (aR aJ:Int) (az:FuncId) (aj:List Value) (bN a9:Bool) (kA:Int) (ep:Bool) (aP:Int):List (Nat × Value):=[(0,.slice data ae af),(1,iV aR),(2,iV aJ),(3,iV aP),(4,.func (.func az) ⟨[]⟩ ⟨aj⟩),(10,.bool bN),(11,.bool a9),(12,iV kA)]
def zST (data:Option Addr) (ae af:Nat) (aR aJ:Int) (az:FuncId) (aj:List Value) (bN a9:Bool) (kA:Int) (ep:Bool) (Q:Int→St→Prop):Alt:=⟨Int,.normal,fun t=>yEU data ae af aR aJ az aj bN a9 kA ep t,fun t=>[],fun t σ=>Q t σ⟩
def yBB (data:Option Addr) (ae af:Nat) (aR aJ:Int) (az:FuncId) (aj:List Value) (bN a9:Bool) (kA:Int) (ep:Bool) (aP:Int) (σ:St) (Qn:Int→St→Prop):Prop:=yJ Pg (zS Pg) none xHY 148 (yLH data ae af aR aJ az aj bN a9 kA ep aP) [] [zST data ae af aR aJ az aj bN a9 kA ep Qn] σ
theorem xEJ (h1:zD Pg 82 [.slice data ae af,iV aR,iV aJ,.func (.func az) ⟨[]⟩ ⟨aj⟩] σ (.tuple ⟨[]⟩) σNB) (nx:Qn (aP-1) σNB) (u1:I6 (aP-1):=by omega):yBB data ae af aR aJ az aj bN a9 kA true aP σ Qn :=
 kO 0 (aP-1) [.g,.g,.g,.g,.c (.tuple ⟨[]⟩) σNB,.g,.n (aP-1),.g] (fun _ f=>(an2 h1 (w64 u1) f)) nx
theorem xEI (nx:Qn aP σ):yBB data ae af aR aJ az aj bN a9 kA false aP σ Qn :=
 kO 0 aP [] (fun _ f=>f) nx
def zGF (data:Option Addr) (ae af:Nat) (aR aJ:Int) (az:FuncId) (aj:List Value) (bN a9:Bool) (kA:Int) (ep:Bool) (aP:Int) (σ:St) (Nx:Int→Int→Int→Bool→Bool→St→Prop) (Qr:St→Prop):Prop:=∀ g:Nat→Value,∃ an,Hid (kAt Pg (zS Pg) none zJX [0,1,1,1,0,1] (zDP 148 [zHZ data ae af az aj Nx,zAS data ae af az aj Qr]) .normal ⟨Fm 148 (ov (yEU data ae af aR aJ az aj bN a9 kA ep aP) g),[]⟩ σ an)
theorem xEL (hL:yBB data ae af aR aJ az aj true a9 (aJ-aR) false bg σ Pn) (kn:∀ i3_2' σ',Pn i3_2' σ'→zGF data ae af aR aJ az aj true a9 (aJ-aR) false i3_2' σ' Nx Qr) (u1:I6 (aJ-aR):=by omega) (u2:¬ (aJ-aR)≤12:=by omega) (u3:¬ bg=0:=by omega):zND data ae af az aj aR aJ bg true a9 σ Nx Qr :=
 let s1:=yLH data ae af aR aJ az aj true a9 (aJ-aR) false bg;zBG [.g,.g,.n (aJ-aR),.g,.g,.b false,.g,.b false,.g,.g,.cut 148 s1 [zST data ae af aR aJ az aj true a9 (aJ-aR) false Pn]] (fun g=>kd (an3 (w64 u1) (yB u2) (xB u3) (ai (ai tt (ai (arf s1) hL)) (ai (kz1 kn) trivial))))
theorem xEK (hL:yBB data ae af aR aJ az aj false a9 (aJ-aR) true bg σ Pn) (kn:∀ i3_2' σ',Pn i3_2' σ'→zGF data ae af aR aJ az aj false a9 (aJ-aR) true i3_2' σ' Nx Qr) (u1:I6 (aJ-aR):=by omega) (u2:¬ (aJ-aR)≤12:=by omega) (u3:¬ bg=0:=by omega):zND data ae af az aj aR aJ bg false a9 σ Nx Qr :=
 let s1:=yLH data ae af aR aJ az aj false a9 (aJ-aR) true bg;zBG [.g,.g,.n (aJ-aR),.g,.g,.b false,.g,.b false,.g,.g,.cut 148 s1 [zST data ae af aR aJ az aj false a9 (aJ-aR) true Pn]] (fun g=>kd (an3 (w64 u1) (yB u2) (xB u3) (ai (ai tt (ai (arf s1) hL)) (ai (kz1 kn) trivial))))
noncomputable def xHX:Code:=(Code.part [1,1,0,0,0,1,1,1,1,1,0,1] (zO Pg 69))
def zSP (data:Option Addr) (ae af:Nat) (aR aJ aP:Int) (az:FuncId) (aj:List Value) (bN a9:Bool) (kA:Int) (dJ:Bool) (aD cj:Int):List (Nat × Value):=[(0,.slice data ae af),(1,iV aR),(2,iV aJ),(3,iV aP),(4,.func (.func az) ⟨[]⟩ ⟨aj⟩),(10,.bool bN),(11,.bool a9),(12,iV kA),(13,iV aD),(14,iV cj),(56,.bool dJ)]
def yET (data:Option Addr) (ae af:Nat) (aR aJ aP:Int) (az:FuncId) (aj:List Value) (bN a9:Bool) (kA:Int) (dJ:Bool) (aD cj:Int):List (Nat × Value):=[(0,.slice data ae af),(1,iV aR),(2,iV aJ),(3,iV aP),(4,.func (.func az) ⟨[]⟩ ⟨aj⟩),(10,.bool bN),(11,.bool a9),(12,iV kA),(13,iV aD),(14,iV cj)]
def zSS (data:Option Addr) (ae af:Nat) (aR aJ aP:Int) (az:FuncId) (aj:List Value) (bN a9:Bool) (kA:Int) (dJ:Bool) (Q:Int→Int→St→Prop):Alt:=⟨Int × Int,.normal,fun t=>yET data ae af aR aJ aP az aj bN a9 kA dJ t.1 t.2,fun t=>[],fun t σ=>Q t.1 t.2 σ⟩
def yBA (data:Option Addr) (ae af:Nat) (aR aJ aP:Int) (az:FuncId) (aj:List Value) (bN a9:Bool) (kA:Int) (dJ:Bool) (aD cj:Int) (σ:St) (Qn:Int→Int→St→Prop):Prop:=yJ Pg (zS Pg) none xHX 148 (zSP data ae af aR aJ aP az aj bN a9 kA dJ aD cj) [] [zSS data ae af aR aJ aP az aj bN a9 kA dJ Qn] σ
theorem xEH {Qn:Int→Int→St→Prop} (h1:zD Pg 84 [.slice data ae af,iV aR,iV aJ,.func (.func az) ⟨[]⟩ ⟨aj⟩] σ (.tuple ⟨[]⟩) σOB) (nx:Qn ((aJ-1)-(aD-aR)) (1:Int) σOB) (u1:I6 (aJ-1):=by omega) (u2:I6 (aD-aR):=by omega) (u3:I6 ((aJ-1)-(aD-aR)):=by omega):yBA data ae af aR aJ aP az aj bN a9 kA true aD cj σ Qn :=
 let s1:=aD-aR;kO 0 ((aJ-1)-s1,(1:Int)) [.g,.g,.g,.g,.c (.tuple ⟨[]⟩) σOB,.g,.n (aJ-1),.g,.g,.n s1,.n ((aJ-1)-s1),.g,.g] (fun _ f=>(an4 h1 (w64 u1) (w64 u2) (w64 u3) f)) nx
theorem xEG {Qn:Int→Int→St→Prop} (nx:Qn aD cj σ):yBA data ae af aR aJ aP az aj bN a9 kA false aD cj σ Qn :=
 kO 0 (aD,cj) [] (fun _ f=>f) nx
def xE (data:Option Addr) (ae af:Nat) (aR aJ aP:Int) (az:FuncId) (aj:List Value) (bN a9:Bool) (kA:Int) (dJ:Bool) (aD cj:Int) (σ:St) (Nx:Int→Int→Int→Bool→Bool→St→Prop) (Qr:St→Prop):Prop:=∀ g:Nat→Value,∃ an,Hid (kAt Pg (zS Pg) none zJX [0,1,1,1,1,1,0,1] (zDP 148 [zHZ data ae af az aj Nx,zAS data ae af az aj Qr]) .normal ⟨Fm 148 (ov (yET data ae af aR aJ aP az aj bN a9 kA dJ aD cj) g),[]⟩ σ an)
theorem yTT {Pn:Int→Int→St→Prop} (h1:zD Pg 83 [.slice data ae af,iV aR,iV aJ,.func (.func az) ⟨[]⟩ ⟨aj⟩] σ (.tuple ⟨[iV nJB,iV nHB]⟩) σ) (hL:yBA data ae af aR aJ aP az aj bN a9 kA true nJB nHB σ Pn) (kn:∀ i13_3' i14_3' σ',Pn i13_3' i14_3' σ'→xE data ae af aR aJ aP az aj bN a9 kA true i13_3' i14_3' σ' Nx Qr) (u1:nHB=2:=by omega):zGF data ae af aR aJ az aj bN a9 kA ep aP σ Nx Qr :=
 sK [.g,.g,.g,.g,.c (.tuple ⟨[iV nJB,iV nHB]⟩) σ,.g,.g,.g,.g,.g,.g,.b true,.cut 148 (zSP data ae af aR aJ aP az aj bN a9 kA true nJB nHB) [zSS data ae af aR aJ aP az aj bN a9 kA true Pn]] (an2 h1 (wJ u1) (ai (ai tt (ai (arf (zSP data ae af aR aJ aP az aj bN a9 kA true nJB nHB)) hL)) (ai (kz2 kn) trivial)))
theorem yTS {Pn:Int→Int→St→Prop} (h1:zD Pg 83 [.slice data ae af,iV aR,iV aJ,.func (.func az) ⟨[]⟩ ⟨aj⟩] σ (.tuple ⟨[iV nJB,iV nHB]⟩) σ) (hL:yBA data ae af aR aJ aP az aj bN a9 kA false nJB nHB σ Pn) (kn:∀ i13_3' i14_3' σ',Pn i13_3' i14_3' σ'→xE data ae af aR aJ aP az aj bN a9 kA false i13_3' i14_3' σ' Nx Qr) (u1:¬ nHB=2:=by omega):zGF data ae af aR aJ az aj bN a9 kA ep aP σ Nx Qr :=
 sK [.g,.g,.g,.g,.c (.tuple ⟨[iV nJB,iV nHB]⟩) σ,.g,.g,.g,.g,.g,.g,.b false,.cut 148 (zSP data ae af aR aJ aP az aj bN a9 kA false nJB nHB) [zSS data ae af aR aJ aP az aj bN a9 kA false Pn]] (an2 h1 (xB u1) (ai (ai tt (ai (arf (zSP data ae af aR aJ aP az aj bN a9 kA false nJB nHB)) hL)) (ai (kz2 kn) trivial)))
theorem zXD (h1:zD Pg 85 [.slice data ae af,iV aR,iV aJ,.func (.func az) ⟨[]⟩ ⟨aj⟩] σ (.bool true) σA) (nx:Qr σA) (u1:cj=1:=by omega):xE data ae af aR aJ aP az aj true true kA dJ aD cj σ Nx Qr :=
 sF 1 () [.g,.g,.g,.g,.g,.g,.b true,.g,.g,.g,.g,.g,.c (.bool true) σA] (fun _ f=>(an2 (wJ u1) h1 f)) nx
noncomputable def xHW:Code:=(Code.part [1,1,0,0,0,1,1,1,1,1,1,1,0,1] (zO Pg 69))
def xJ (data:Option Addr) (ae af:Nat) (aJ aP:Int) (az:FuncId) (aj:List Value) (dH dG:Bool) (kA aD:Int) (dN:Bool) (du:Int):List (Nat × Value):=[(0,.slice data ae af),(1,iV du),(2,iV aJ),(3,iV aP),(4,.func (.func az) ⟨[]⟩ ⟨aj⟩),(10,.bool dH),(11,.bool dG),(12,iV kA),(13,iV aD),(97,.bool dN)]
def yES (data:Option Addr) (ae af:Nat) (aJ aP:Int) (az:FuncId) (aj:List Value) (dH dG:Bool) (kA aD:Int) (dN:Bool) (du:Int):List (Nat × Value):=[(0,.slice data ae af),(1,iV du),(2,iV aJ),(3,iV aP),(4,.func (.func az) ⟨[]⟩ ⟨aj⟩),(10,.bool dH),(11,.bool dG)]
def wN (data:Option Addr) (ae af:Nat) (aJ aP:Int) (az:FuncId) (aj:List Value) (dH dG:Bool) (kA aD:Int) (dN:Bool) (Q:Int→St→Prop):Alt:=⟨Int,(.exit 1),fun t=>yES data ae af aJ aP az aj dH dG kA aD dN t,fun t=>[],fun t σ=>Q t σ⟩
def yER (data:Option Addr) (ae af:Nat) (aJ aP:Int) (az:FuncId) (aj:List Value) (dH dG:Bool) (kA aD:Int) (dN:Bool) (du:Int):List (Nat × Value):=[(0,.slice data ae af),(1,iV du),(2,iV aJ),(3,iV aP),(4,.func (.func az) ⟨[]⟩ ⟨aj⟩),(12,iV kA),(13,iV aD)]
def wM (data:Option Addr) (ae af:Nat) (aJ aP:Int) (az:FuncId) (aj:List Value) (dH dG:Bool) (kA aD:Int) (dN:Bool) (Q:Int→St→Prop):Alt:=⟨Int,.normal,fun t=>yER data ae af aJ aP az aj dH dG kA aD dN t,fun t=>[],fun t σ=>Q t σ⟩
def vP (data:Option Addr) (ae af:Nat) (aJ aP:Int) (az:FuncId) (aj:List Value) (dH dG:Bool) (kA aD:Int) (dN:Bool) (du:Int) (σ:St) (Q1:Int→St→Prop) (Qn:Int→St→Prop):Prop:=yJ Pg (zS Pg) none xHW 148 (xJ data ae af aJ aP az aj dH dG kA aD dN du) [] [wN data ae af aJ aP az aj dH dG kA aD dN Q1,wM data ae af aJ aP az aj dH dG kA aD dN Qn] σ
theorem xEF (h1:zD Pg 86 [.slice data ae af,iV du,iV aJ,iV aD,.func (.func az) ⟨[]⟩ ⟨aj⟩] σ (iV nY) σPB) (nx:Q1 nY σPB):vP data ae af aJ aP az aj dH dG kA aD true du σ Q1 Qn :=
 kO 0 nY [.g,.g,.g,.g,.g,.c (iV nY) σPB,.g,.g,.g] (fun _ f=>(ai h1 f)) nx
theorem xEE (nx:Qn du σ):vP data ae af aJ aP az aj dH dG kA aD false du σ Q1 Qn :=
 kO 1 du [] (fun _ f=>f) nx
def wB (data:Option Addr) (ae af:Nat) (aJ aP:Int) (az:FuncId) (aj:List Value) (dH dG:Bool) (kA aD:Int) (dN:Bool) (du:Int) (σ:St) (Nx:Int→Int→Int→Bool→Bool→St→Prop) (Qr:St→Prop):Prop:=∀ g:Nat→Value,∃ an,Hid (kAt Pg (zS Pg) none zJX [0,1,1,1,1,1,1,1,0,1] (zDP 148 [zHZ data ae af az aj Nx,zAS data ae af az aj Qr]) (.exit 1) ⟨Fm 148 (ov (yES data ae af aJ aP az aj dH dG kA aD dN du) g),[]⟩ σ an)
def xM (data:Option Addr) (ae af:Nat) (aJ aP:Int) (az:FuncId) (aj:List Value) (dH dG:Bool) (kA aD:Int) (dN:Bool) (du:Int) (σ:St) (Nx:Int→Int→Int→Bool→Bool→St→Prop) (Qr:St→Prop):Prop:=∀ g:Nat→Value,∃ an,Hid (kAt Pg (zS Pg) none zJX [0,1,1,1,1,1,1,1,0,1] (zDP 148 [zHZ data ae af az aj Nx,zAS data ae af az aj Qr]) .normal ⟨Fm 148 (ov (yER data ae af aJ aP az aj dH dG kA aD dN du) g),[]⟩ σ an)
theorem yTR (h1:zD Pg 85 [.slice (some ao) ae af,iV aR,iV aJ,.func (.func az) ⟨[]⟩ ⟨aj⟩] σ (.bool false) σA) (h2:zB Pg σA 47 (zH ao (Int.toNat (aR-1)*3))=some (.agg ⟨rcd nT nU nV⟩)) (h3:zB Pg σA 47 (zH ao (Int.toNat aD*3))=some (.agg ⟨rcd nW nX nBJ⟩)) (h4:zD Pg az (.agg ⟨rcd nT nU nV⟩::.agg ⟨rcd nW nX nBJ⟩::aj) σA (iV nBK) σA) (hL:vP (some ao) ae af aJ aP az aj true true kA aD false aR σA P1 Pn) (k1:∀ i1_4' σ',P1 i1_4' σ'→wB (some ao) ae af aJ aP az aj true true kA aD false i1_4' σ' Nx Qr) (kn:∀ i1_4' σ',Pn i1_4' σ'→xM (some ao) ae af aJ aP az aj true true kA aD false i1_4' σ' Nx Qr) (u1:cj=1:=by omega) (u2:0<aR:=by omega) (u3:I6 (aR-1):=by omega) (u4:Ix (aR-1) ae:=by omega) (u5:Ix aD ae:=by omega) (u6:nBK<0:=by omega):xE (some ao) ae af aR aJ aP az aj true true kA dJ aD cj σ Nx Qr :=
 sK [.g,.g,.g,.g,.g,.g,.b true,.g,.g,.g,.g,.g,.c (.bool false) σA,.g,.b true,.g,.g,.g,.g,.n (aR-1),.i,.l (.agg ⟨rcd nT nU nV⟩),.g,.g,.i,.l (.agg ⟨rcd nW nX nBJ⟩),.c (iV nBK) σA,.b true,.g,.g,.cut 148 (xJ (some ao) ae af aJ aP az aj true true kA aD false aR) [wN (some ao) ae af aJ aP az aj true true kA aD false P1,wM (some ao) ae af aJ aP az aj true true kA aD false Pn]] (an4 (wJ u1) h1 (zJ u2) (w64 u3) (an6 u4 h2 u5 h3 h4 (zJ u6) (ai (ai tt (ai (arf (xJ (some ao) ae af aJ aP az aj true true kA aD false aR)) hL)) (ai (kz1 k1) (ai (kz1 kn) trivial)))))
theorem yTQ (h1:zD Pg 85 [.slice (some ao) ae af,iV aR,iV aJ,.func (.func az) ⟨[]⟩ ⟨aj⟩] σ (.bool false) σA) (h2:zB Pg σA 47 (zH ao (Int.toNat (aR-1)*3))=some (.agg ⟨rcd nT nU nV⟩)) (h3:zB Pg σA 47 (zH ao (Int.toNat aD*3))=some (.agg ⟨rcd nW nX nBJ⟩)) (h4:zD Pg az (.agg ⟨rcd nT nU nV⟩::.agg ⟨rcd nW nX nBJ⟩::aj) σA (iV nBK) σA) (hL:vP (some ao) ae af aJ aP az aj true true kA aD true aR σA P1 Pn) (k1:∀ i1_4' σ',P1 i1_4' σ'→wB (some ao) ae af aJ aP az aj true true kA aD true i1_4' σ' Nx Qr) (kn:∀ i1_4' σ',Pn i1_4' σ'→xM (some ao) ae af aJ aP az aj true true kA aD true i1_4' σ' Nx Qr) (u1:cj=1:=by omega) (u2:0<aR:=by omega) (u3:I6 (aR-1):=by omega) (u4:Ix (aR-1) ae:=by omega) (u5:Ix aD ae:=by omega) (u6:¬ nBK<0:=by omega):xE (some ao) ae af aR aJ aP az aj true true kA dJ aD cj σ Nx Qr :=
 sK [.g,.g,.g,.g,.g,.g,.b true,.g,.g,.g,.g,.g,.c (.bool false) σA,.g,.b true,.g,.g,.g,.g,.n (aR-1),.i,.l (.agg ⟨rcd nT nU nV⟩),.g,.g,.i,.l (.agg ⟨rcd nW nX nBJ⟩),.c (iV nBK) σA,.b false,.g,.g,.cut 148 (xJ (some ao) ae af aJ aP az aj true true kA aD true aR) [wN (some ao) ae af aJ aP az aj true true kA aD true P1,wM (some ao) ae af aJ aP az aj true true kA aD true Pn]] (an4 (wJ u1) h1 (zJ u2) (w64 u3) (an6 u4 h2 u5 h3 h4 (zM u6) (ai (ai tt (ai (arf (xJ (some ao) ae af aJ aP az aj true true kA aD true aR)) hL)) (ai (kz1 k1) (ai (kz1 kn) trivial)))))
theorem yTP (h1:zD Pg 85 [.slice data ae af,iV aR,iV aJ,.func (.func az) ⟨[]⟩ ⟨aj⟩] σ (.bool false) σA) (hL:vP data ae af aJ aP az aj true true kA aD false aR σA P1 Pn) (k1:∀ i1_4' σ',P1 i1_4' σ'→wB data ae af aJ aP az aj true true kA aD false i1_4' σ' Nx Qr) (kn:∀ i1_4' σ',Pn i1_4' σ'→xM data ae af aJ aP az aj true true kA aD false i1_4' σ' Nx Qr) (u1:cj=1:=by omega) (u2:¬ 0<aR:=by omega):xE data ae af aR aJ aP az aj true true kA dJ aD cj σ Nx Qr :=
 sK [.g,.g,.g,.g,.g,.g,.b true,.g,.g,.g,.g,.g,.c (.bool false) σA,.g,.b false,.g,.g,.cut 148 (xJ data ae af aJ aP az aj true true kA aD false aR) [wN data ae af aJ aP az aj true true kA aD false P1,wM data ae af aJ aP az aj true true kA aD false Pn]] (an3 (wJ u1) h1 (zM u2) (ai (ai tt (ai (arf (xJ data ae af aJ aP az aj true true kA aD false aR)) hL)) (ai (kz1 k1) (ai (kz1 kn) trivial))))
theorem yTO (h1:zB Pg σ 47 (zH ao (Int.toNat (aR-1)*3))=some (.agg ⟨rcd nDB nEB nT⟩)) (h2:zB Pg σ 47 (zH ao (Int.toNat aD*3))=some (.agg ⟨rcd nU nV nW⟩)) (h3:zD Pg az (.agg ⟨rcd nDB nEB nT⟩::.agg ⟨rcd nU nV nW⟩::aj) σ (iV nX) σ) (hL:vP (some ao) ae af aJ aP az aj true true kA aD false aR σ P1 Pn) (k1:∀ i1_4' σ',P1 i1_4' σ'→wB (some ao) ae af aJ aP az aj true true kA aD false i1_4' σ' Nx Qr) (kn:∀ i1_4' σ',Pn i1_4' σ'→xM (some ao) ae af aJ aP az aj true true kA aD false i1_4' σ' Nx Qr) (u1:¬ cj=1:=by omega) (u2:0<aR:=by omega) (u3:I6 (aR-1):=by omega) (u4:Ix (aR-1) ae:=by omega) (u5:Ix aD ae:=by omega) (u6:nX<0:=by omega):xE (some ao) ae af aR aJ aP az aj true true kA dJ aD cj σ Nx Qr :=
 sK [.g,.g,.g,.g,.g,.g,.b false,.g,.g,.b true,.g,.g,.g,.g,.n (aR-1),.i,.l (.agg ⟨rcd nDB nEB nT⟩),.g,.g,.i,.l (.agg ⟨rcd nU nV nW⟩),.c (iV nX) σ,.b true,.g,.g,.cut 148 (xJ (some ao) ae af aJ aP az aj true true kA aD false aR) [wN (some ao) ae af aJ aP az aj true true kA aD false P1,wM (some ao) ae af aJ aP az aj true true kA aD false Pn]] (an3 (xB u1) (zJ u2) (w64 u3) (an6 u4 h1 u5 h2 h3 (zJ u6) (ai (ai tt (ai (arf (xJ (some ao) ae af aJ aP az aj true true kA aD false aR)) hL)) (ai (kz1 k1) (ai (kz1 kn) trivial)))))
theorem yTN (h1:zB Pg σ 47 (zH ao (Int.toNat (aR-1)*3))=some (.agg ⟨rcd nDB nEB nT⟩)) (h2:zB Pg σ 47 (zH ao (Int.toNat aD*3))=some (.agg ⟨rcd nU nV nW⟩)) (h3:zD Pg az (.agg ⟨rcd nDB nEB nT⟩::.agg ⟨rcd nU nV nW⟩::aj) σ (iV nX) σ) (hL:vP (some ao) ae af aJ aP az aj true true kA aD true aR σ P1 Pn) (k1:∀ i1_4' σ',P1 i1_4' σ'→wB (some ao) ae af aJ aP az aj true true kA aD true i1_4' σ' Nx Qr) (kn:∀ i1_4' σ',Pn i1_4' σ'→xM (some ao) ae af aJ aP az aj true true kA aD true i1_4' σ' Nx Qr) (u1:¬ cj=1:=by omega) (u2:0<aR:=by omega) (u3:I6 (aR-1):=by omega) (u4:Ix (aR-1) ae:=by omega) (u5:Ix aD ae:=by omega) (u6:¬ nX<0:=by omega):xE (some ao) ae af aR aJ aP az aj true true kA dJ aD cj σ Nx Qr :=
 sK [.g,.g,.g,.g,.g,.g,.b false,.g,.g,.b true,.g,.g,.g,.g,.n (aR-1),.i,.l (.agg ⟨rcd nDB nEB nT⟩),.g,.g,.i,.l (.agg ⟨rcd nU nV nW⟩),.c (iV nX) σ,.b false,.g,.g,.cut 148 (xJ (some ao) ae af aJ aP az aj true true kA aD true aR) [wN (some ao) ae af aJ aP az aj true true kA aD true P1,wM (some ao) ae af aJ aP az aj true true kA aD true Pn]] (an3 (xB u1) (zJ u2) (w64 u3) (an6 u4 h1 u5 h2 h3 (zM u6) (ai (ai tt (ai (arf (xJ (some ao) ae af aJ aP az aj true true kA aD true aR)) hL)) (ai (kz1 k1) (ai (kz1 kn) trivial)))))
theorem yTM (hL:vP data ae af aJ aP az aj true true kA aD false aR σ P1 Pn) (k1:∀ i1_4' σ',P1 i1_4' σ'→wB data ae af aJ aP az aj true true kA aD false i1_4' σ' Nx Qr) (kn:∀ i1_4' σ',Pn i1_4' σ'→xM data ae af aJ aP az aj true true kA aD false i1_4' σ' Nx Qr) (u1:¬ cj=1:=by omega) (u2:¬ 0<aR:=by omega):xE data ae af aR aJ aP az aj true true kA dJ aD cj σ Nx Qr :=
 sK [.g,.g,.g,.g,.g,.g,.b false,.g,.g,.b false,.g,.g,.cut 148 (xJ data ae af aJ aP az aj true true kA aD false aR) [wN data ae af aJ aP az aj true true kA aD false P1,wM data ae af aJ aP az aj true true kA aD false Pn]] (an2 (xB u1) (zM u2) (ai (ai tt (ai (arf (xJ data ae af aJ aP az aj true true kA aD false aR)) hL)) (ai (kz1 k1) (ai (kz1 kn) trivial))))
theorem yTL (h1:zB Pg σ 47 (zH ao (Int.toNat (aR-1)*3))=some (.agg ⟨rcd nDB nEB nT⟩)) (h2:zB Pg σ 47 (zH ao (Int.toNat aD*3))=some (.agg ⟨rcd nU nV nW⟩)) (h3:zD Pg az (.agg ⟨rcd nDB nEB nT⟩::.agg ⟨rcd nU nV nW⟩::aj) σ (iV nX) σ) (hL:vP (some ao) ae af aJ aP az aj true false kA aD false aR σ P1 Pn) (k1:∀ i1_4' σ',P1 i1_4' σ'→wB (some ao) ae af aJ aP az aj true false kA aD false i1_4' σ' Nx Qr) (kn:∀ i1_4' σ',Pn i1_4' σ'→xM (some ao) ae af aJ aP az aj true false kA aD false i1_4' σ' Nx Qr) (u1:0<aR:=by omega) (u2:I6 (aR-1):=by omega) (u3:Ix (aR-1) ae:=by omega) (u4:Ix aD ae:=by omega) (u5:nX<0:=by omega):xE (some ao) ae af aR aJ aP az aj true false kA dJ aD cj σ Nx Qr :=
 sK [.g,.g,.g,.g,.g,.g,.g,.b true,.g,.g,.g,.g,.n (aR-1),.i,.l (.agg ⟨rcd nDB nEB nT⟩),.g,.g,.i,.l (.agg ⟨rcd nU nV nW⟩),.c (iV nX) σ,.b true,.g,.g,.cut 148 (xJ (some ao) ae af aJ aP az aj true false kA aD false aR) [wN (some ao) ae af aJ aP az aj true false kA aD false P1,wM (some ao) ae af aJ aP az aj true false kA aD false Pn]] (an2 (zJ u1) (w64 u2) (an6 u3 h1 u4 h2 h3 (zJ u5) (ai (ai tt (ai (arf (xJ (some ao) ae af aJ aP az aj true false kA aD false aR)) hL)) (ai (kz1 k1) (ai (kz1 kn) trivial)))))
theorem yTK (h1:zB Pg σ 47 (zH ao (Int.toNat (aR-1)*3))=some (.agg ⟨rcd nDB nEB nT⟩)) (h2:zB Pg σ 47 (zH ao (Int.toNat aD*3))=some (.agg ⟨rcd nU nV nW⟩)) (h3:zD Pg az (.agg ⟨rcd nDB nEB nT⟩::.agg ⟨rcd nU nV nW⟩::aj) σ (iV nX) σ) (hL:vP (some ao) ae af aJ aP az aj true false kA aD true aR σ P1 Pn) (k1:∀ i1_4' σ',P1 i1_4' σ'→wB (some ao) ae af aJ aP az aj true false kA aD true i1_4' σ' Nx Qr) (kn:∀ i1_4' σ',Pn i1_4' σ'→xM (some ao) ae af aJ aP az aj true false kA aD true i1_4' σ' Nx Qr) (u1:0<aR:=by omega) (u2:I6 (aR-1):=by omega) (u3:Ix (aR-1) ae:=by omega) (u4:Ix aD ae:=by omega) (u5:¬ nX<0:=by omega):xE (some ao) ae af aR aJ aP az aj true false kA dJ aD cj σ Nx Qr :=
 sK [.g,.g,.g,.g,.g,.g,.g,.b true,.g,.g,.g,.g,.n (aR-1),.i,.l (.agg ⟨rcd nDB nEB nT⟩),.g,.g,.i,.l (.agg ⟨rcd nU nV nW⟩),.c (iV nX) σ,.b false,.g,.g,.cut 148 (xJ (some ao) ae af aJ aP az aj true false kA aD true aR) [wN (some ao) ae af aJ aP az aj true false kA aD true P1,wM (some ao) ae af aJ aP az aj true false kA aD true Pn]] (an2 (zJ u1) (w64 u2) (an6 u3 h1 u4 h2 h3 (zM u5) (ai (ai tt (ai (arf (xJ (some ao) ae af aJ aP az aj true false kA aD true aR)) hL)) (ai (kz1 k1) (ai (kz1 kn) trivial)))))
theorem yTJ (hL:vP data ae af aJ aP az aj true false kA aD false aR σ P1 Pn) (k1:∀ i1_4' σ',P1 i1_4' σ'→wB data ae af aJ aP az aj true false kA aD false i1_4' σ' Nx Qr) (kn:∀ i1_4' σ',Pn i1_4' σ'→xM data ae af aJ aP az aj true false kA aD false i1_4' σ' Nx Qr) (u1:¬ 0<aR:=by omega):xE data ae af aR aJ aP az aj true false kA dJ aD cj σ Nx Qr :=
 sK [.g,.g,.g,.g,.g,.g,.g,.b false,.g,.g,.cut 148 (xJ data ae af aJ aP az aj true false kA aD false aR) [wN data ae af aJ aP az aj true false kA aD false P1,wM data ae af aJ aP az aj true false kA aD false Pn]] (ai (zM u1) (ai (ai tt (ai (arf (xJ data ae af aJ aP az aj true false kA aD false aR)) hL)) (ai (kz1 k1) (ai (kz1 kn) trivial))))
theorem yTI (h1:zB Pg σ 47 (zH ao (Int.toNat (aR-1)*3))=some (.agg ⟨rcd nDB nEB nT⟩)) (h2:zB Pg σ 47 (zH ao (Int.toNat aD*3))=some (.agg ⟨rcd nU nV nW⟩)) (h3:zD Pg az (.agg ⟨rcd nDB nEB nT⟩::.agg ⟨rcd nU nV nW⟩::aj) σ (iV nX) σ) (hL:vP (some ao) ae af aJ aP az aj false a9 kA aD false aR σ P1 Pn) (k1:∀ i1_4' σ',P1 i1_4' σ'→wB (some ao) ae af aJ aP az aj false a9 kA aD false i1_4' σ' Nx Qr) (kn:∀ i1_4' σ',Pn i1_4' σ'→xM (some ao) ae af aJ aP az aj false a9 kA aD false i1_4' σ' Nx Qr) (u1:0<aR:=by omega) (u2:I6 (aR-1):=by omega) (u3:Ix (aR-1) ae:=by omega) (u4:Ix aD ae:=by omega) (u5:nX<0:=by omega):xE (some ao) ae af aR aJ aP az aj false a9 kA dJ aD cj σ Nx Qr :=
 sK [.g,.g,.g,.g,.g,.g,.b true,.g,.g,.g,.g,.n (aR-1),.i,.l (.agg ⟨rcd nDB nEB nT⟩),.g,.g,.i,.l (.agg ⟨rcd nU nV nW⟩),.c (iV nX) σ,.b true,.g,.g,.cut 148 (xJ (some ao) ae af aJ aP az aj false a9 kA aD false aR) [wN (some ao) ae af aJ aP az aj false a9 kA aD false P1,wM (some ao) ae af aJ aP az aj false a9 kA aD false Pn]] (an2 (zJ u1) (w64 u2) (an6 u3 h1 u4 h2 h3 (zJ u5) (ai (ai tt (ai (arf (xJ (some ao) ae af aJ aP az aj false a9 kA aD false aR)) hL)) (ai (kz1 k1) (ai (kz1 kn) trivial)))))
theorem yTH (h1:zB Pg σ 47 (zH ao (Int.toNat (aR-1)*3))=some (.agg ⟨rcd nDB nEB nT⟩)) (h2:zB Pg σ 47 (zH ao (Int.toNat aD*3))=some (.agg ⟨rcd nU nV nW⟩)) (h3:zD Pg az (.agg ⟨rcd nDB nEB nT⟩::.agg ⟨rcd nU nV nW⟩::aj) σ (iV nX) σ) (hL:vP (some ao) ae af aJ aP az aj false a9 kA aD true aR σ P1 Pn) (k1:∀ i1_4' σ',P1 i1_4' σ'→wB (some ao) ae af aJ aP az aj false a9 kA aD true i1_4' σ' Nx Qr) (kn:∀ i1_4' σ',Pn i1_4' σ'→xM (some ao) ae af aJ aP az aj false a9 kA aD true i1_4' σ' Nx Qr) (u1:0<aR:=by omega) (u2:I6 (aR-1):=by omega) (u3:Ix (aR-1) ae:=by omega) (u4:Ix aD ae:=by omega) (u5:¬ nX<0:=by omega):xE (some ao) ae af aR aJ aP az aj false a9 kA dJ aD cj σ Nx Qr :=
 sK [.g,.g,.g,.g,.g,.g,.b true,.g,.g,.g,.g,.n (aR-1),.i,.l (.agg ⟨rcd nDB nEB nT⟩),.g,.g,.i,.l (.agg ⟨rcd nU nV nW⟩),.c (iV nX) σ,.b false,.g,.g,.cut 148 (xJ (some ao) ae af aJ aP az aj false a9 kA aD true aR) [wN (some ao) ae af aJ aP az aj false a9 kA aD true P1,wM (some ao) ae af aJ aP az aj false a9 kA aD true Pn]] (an2 (zJ u1) (w64 u2) (an6 u3 h1 u4 h2 h3 (zM u5) (ai (ai tt (ai (arf (xJ (some ao) ae af aJ aP az aj false a9 kA aD true aR)) hL)) (ai (kz1 k1) (ai (kz1 kn) trivial)))))
theorem yTG (hL:vP data ae af aJ aP az aj false a9 kA aD false aR σ P1 Pn) (k1:∀ i1_4' σ',P1 i1_4' σ'→wB data ae af aJ aP az aj false a9 kA aD false i1_4' σ' Nx Qr) (kn:∀ i1_4' σ',Pn i1_4' σ'→xM data ae af aJ aP az aj false a9 kA aD false i1_4' σ' Nx Qr) (u1:¬ 0<aR:=by omega):xE data ae af aR aJ aP az aj false a9 kA dJ aD cj σ Nx Qr :=
 sK [.g,.g,.g,.g,.g,.g,.b false,.g,.g,.cut 148 (xJ data ae af aJ aP az aj false a9 kA aD false aR) [wN data ae af aJ aP az aj false a9 kA aD false P1,wM data ae af aJ aP az aj false a9 kA aD false Pn]] (ai (zM u1) (ai (ai tt (ai (arf (xJ data ae af aJ aP az aj false a9 kA aD false aR)) hL)) (ai (kz1 k1) (ai (kz1 kn) trivial))))
theorem yTF (nx:Nx du aJ aP dH dG σ):wB data ae af aJ aP az aj dH dG kA aD dN du σ Nx Qr :=
 sF 0 (du,aJ,aP,dH,dG) [] (fun _ f=>f) nx
noncomputable def xHV:Code:=(Code.part [1,1,0,0,0,1,1,1,1,1,1,1,1,1,1,1,1,1] (zO Pg 69))
def yLG (data:Option Addr) (ae af:Nat) (aP:Int) (az:FuncId) (aj:List Value) (bA:Bool) (nL kD kE kC:Int) (d6:Bool) (eg ee:Int):List (Nat × Value):=[(0,.slice data ae af),(1,iV eg),(2,iV ee),(3,iV aP),(4,.func (.func az) ⟨[]⟩ ⟨aj⟩),(11,.bool bA),(16,iV nL),(18,iV kD),(19,iV kE),(20,iV kC),(125,.bool d6)]
def yEQ (data:Option Addr) (ae af:Nat) (aP:Int) (az:FuncId) (aj:List Value) (bA:Bool) (nL kD kE kC:Int) (d6:Bool) (eg ee:Int) (t10_5:Bool):List (Nat × Value):=[(0,.slice data ae af),(1,iV eg),(2,iV ee),(3,iV aP),(4,.func (.func az) ⟨[]⟩ ⟨aj⟩),(10,.bool t10_5),(11,.bool bA)]
def zSR (data:Option Addr) (ae af:Nat) (aP:Int) (az:FuncId) (aj:List Value) (bA:Bool) (nL kD kE kC:Int) (d6:Bool) (Q:Int→Int→Bool→St→Prop):Alt:=⟨Int × Int × Bool,.normal,fun t=>yEQ data ae af aP az aj bA nL kD kE kC d6 t.1 t.2.1 t.2.2,fun t=>[],fun t σ=>Q t.1 t.2.1 t.2.2 σ⟩
def zNC (data:Option Addr) (ae af:Nat) (aP:Int) (az:FuncId) (aj:List Value) (bA:Bool) (nL kD kE kC:Int) (d6:Bool) (eg ee:Int) (σ:St) (Qn:Int→Int→Bool→St→Prop):Prop:=yJ Pg (zS Pg) none xHV 148 (yLG data ae af aP az aj bA nL kD kE kC d6 eg ee) [] [zSR data ae af aP az aj bA nL kD kE kC d6 Qn] σ
theorem xED {Qn:Int→Int→Bool→St→Prop} (h1:zD Pg 69 [.slice data ae af,iV eg,iV nL,iV aP,.func (.func az) ⟨[]⟩ ⟨aj⟩] σ (.tuple ⟨[]⟩) σG) (nx:Qn (nL+1) ee true σG) (u1:kC≤kD:=by omega) (u2:I6 (nL+1):=by omega):zNC data ae af aP az aj bA nL kD kE kC true eg ee σ Qn :=
 kO 0 (nL+1,ee,true) [.g,.g,.b true,.g,.g,.g,.g,.g,.g,.c (.tuple ⟨[]⟩) σG,.g,.n (nL+1),.g] (fun _ f=>(an3 (zX u1) h1 (w64 u2) f)) nx
theorem xEC {Qn:Int→Int→Bool→St→Prop} (h1:zD Pg 69 [.slice data ae af,iV eg,iV nL,iV aP,.func (.func az) ⟨[]⟩ ⟨aj⟩] σ (.tuple ⟨[]⟩) σG) (nx:Qn (nL+1) ee false σG) (u1:¬ kC≤kD:=by omega) (u2:I6 (nL+1):=by omega):zNC data ae af aP az aj bA nL kD kE kC true eg ee σ Qn :=
 kO 0 (nL+1,ee,false) [.g,.g,.b false,.g,.g,.g,.g,.g,.g,.c (.tuple ⟨[]⟩) σG,.g,.n (nL+1),.g] (fun _ f=>(an3 (yB u1) h1 (w64 u2) f)) nx
theorem xEB {Qn:Int→Int→Bool→St→Prop} (h1:zD Pg 69 [.slice data ae af,iV (nL+1),iV ee,iV aP,.func (.func az) ⟨[]⟩ ⟨aj⟩] σ (.tuple ⟨[]⟩) σG) (nx:Qn eg nL true σG) (u1:kC≤kE:=by omega) (u2:I6 (nL+1):=by omega):zNC data ae af aP az aj bA nL kD kE kC false eg ee σ Qn :=
 kO 0 (eg,nL,true) [.g,.g,.b true,.g,.g,.g,.n (nL+1),.g,.g,.g,.c (.tuple ⟨[]⟩) σG,.g,.g] (fun _ f=>(an3 (zX u1) (w64 u2) h1 f)) nx
theorem xEA {Qn:Int→Int→Bool→St→Prop} (h1:zD Pg 69 [.slice data ae af,iV (nL+1),iV ee,iV aP,.func (.func az) ⟨[]⟩ ⟨aj⟩] σ (.tuple ⟨[]⟩) σG) (nx:Qn eg nL false σG) (u1:¬ kC≤kE:=by omega) (u2:I6 (nL+1):=by omega):zNC data ae af aP az aj bA nL kD kE kC false eg ee σ Qn :=
 kO 0 (eg,nL,false) [.g,.g,.b false,.g,.g,.g,.n (nL+1),.g,.g,.g,.c (.tuple ⟨[]⟩) σG,.g,.g] (fun _ f=>(an3 (yB u1) (w64 u2) h1 f)) nx
def zSU (data:Option Addr) (ae af:Nat) (aP:Int) (az:FuncId) (aj:List Value) (bA:Bool) (nL kD kE kC:Int) (d6:Bool) (eg ee:Int) (t10_5:Bool) (σ:St) (Nx:Int→Int→Int→Bool→Bool→St→Prop) (Qr:St→Prop):Prop:=∀ g:Nat→Value,∃ an,Hid (kAt Pg (zS Pg) none zJX [0,1,1,1,1,1,1,1,1,1,1,1,1,1] (zDP 148 [zHZ data ae af az aj Nx,zAS data ae af az aj Qr]) .normal ⟨Fm 148 (ov (yEQ data ae af aP az aj bA nL kD kE kC d6 eg ee t10_5) g),[]⟩ σ an)
theorem yTE {Pn:Int→Int→Bool→St→Prop} (h1:zD Pg 87 [.slice data ae af,iV du,iV aJ,iV aD,.func (.func az) ⟨[]⟩ ⟨aj⟩] σ (.tuple ⟨[iV nL,.bool bA]⟩) σS) (h2:IntKind.wrap .i64 (Int.tdiv kA 8)=Int.tdiv kA 8) (hL:zNC data ae af aP az aj bA nL (nL-du) (aJ-nL) (Int.tdiv kA 8) true du aJ σS Pn) (kn:∀ i1_5' i2_5' t10_5' σ',Pn i1_5' i2_5' t10_5' σ'→zSU data ae af aP az aj bA nL (nL-du) (aJ-nL) (Int.tdiv kA 8) true i1_5' i2_5' t10_5' σ' Nx Qr) (u1:I6 (nL-du):=by omega) (u2:I6 (aJ-nL):=by omega) (u3:(nL-du)<(aJ-nL):=by omega):xM data ae af aJ aP az aj dH dG kA aD dN du σ Nx Qr :=
 let s1:=yLG data ae af aP az aj bA nL (nL-du) (aJ-nL) (Int.tdiv kA 8) true du aJ;sK [.g,.g,.g,.g,.g,.c (.tuple ⟨[iV nL,.bool bA]⟩) σS,.g,.g,.g,.g,.g,.g,.g,.g,.g,.n (nL-du),.g,.g,.n (aJ-nL),.g,.g,.g,.n (Int.tdiv kA 8),.g,.g,.g,.b true,.cut 148 s1 [zSR data ae af aP az aj bA nL (nL-du) (aJ-nL) (Int.tdiv kA 8) true Pn]] (an5 h1 (w64 u1) (w64 u2) h2 (zJ u3) (ai (ai tt (ai (arf s1) hL)) (ai (kz3 kn) trivial)))
theorem yTD {Pn:Int→Int→Bool→St→Prop} (h1:zD Pg 87 [.slice data ae af,iV du,iV aJ,iV aD,.func (.func az) ⟨[]⟩ ⟨aj⟩] σ (.tuple ⟨[iV nL,.bool bA]⟩) σS) (h2:IntKind.wrap .i64 (Int.tdiv kA 8)=Int.tdiv kA 8) (hL:zNC data ae af aP az aj bA nL (nL-du) (aJ-nL) (Int.tdiv kA 8) false du aJ σS Pn) (kn:∀ i1_5' i2_5' t10_5' σ',Pn i1_5' i2_5' t10_5' σ'→zSU data ae af aP az aj bA nL (nL-du) (aJ-nL) (Int.tdiv kA 8) false i1_5' i2_5' t10_5' σ' Nx Qr) (u1:I6 (nL-du):=by omega) (u2:I6 (aJ-nL):=by omega) (u3:¬ (nL-du)<(aJ-nL):=by omega):xM data ae af aJ aP az aj dH dG kA aD dN du σ Nx Qr :=
 let s1:=yLG data ae af aP az aj bA nL (nL-du) (aJ-nL) (Int.tdiv kA 8) false du aJ;sK [.g,.g,.g,.g,.g,.c (.tuple ⟨[iV nL,.bool bA]⟩) σS,.g,.g,.g,.g,.g,.g,.g,.g,.g,.n (nL-du),.g,.g,.n (aJ-nL),.g,.g,.g,.n (Int.tdiv kA 8),.g,.g,.g,.b false,.cut 148 s1 [zSR data ae af aP az aj bA nL (nL-du) (aJ-nL) (Int.tdiv kA 8) false Pn]] (an5 h1 (w64 u1) (w64 u2) h2 (zM u3) (ai (ai tt (ai (arf s1) hL)) (ai (kz3 kn) trivial)))
theorem zXC (nx:Nx eg ee aP t10_5 bA σ):zSU data ae af aP az aj bA nL kD kE kC d6 eg ee t10_5 σ Nx Qr :=
 sF 0 (eg,ee,aP,t10_5,bA) [] (fun _ f=>f) nx
def yEW (data:Option Addr) (ae af:Nat) (az:FuncId) (aj:List Value) (σ:St) (Q:Value→St→Prop):Prop:=∀ g:Nat→Value,∃ an,Hid (kAt Pg (zS Pg) none (zO Pg 69) [1,1,0] (kFn Pg 69 Q) .ret ⟨Fm 148 (ov (yEV data ae af az aj) g),[]⟩ σ an)
theorem yYV (hL:yYW data ae af az aj a_1 b limit true true σ Pr) (kr:∀ σ',Pr σ'→yEW data ae af az aj σ' Q):zI Pg 69 [.slice data ae af,iV a_1,iV b,iV limit,.func (.func az) ⟨[]⟩ ⟨aj⟩] σ Q :=
 zF [.g,.g,.lf 148 (zSQ data ae af az aj a_1 b limit true true) [zAS data ae af az aj Pr]] (kd (ai (ai tt (ai (arf (zSQ data ae af az aj a_1 b limit true true)) hL)) (ai (kz0 kr) trivial)))
theorem zXE (nx:Q (.tuple ⟨[]⟩) σ):yEW data ae af az aj σ Q :=
 sK [] nx
theorem yDT (h1:vU .u64 (((x_l:Nat):Int))=z1) (h2:zD Pg 70 [.int .u64 z1] σ (iV n2) σ) (h3:zD Pg 69 [.slice x x_l x_c,iV 0,iV ((x_l:Nat):Int),iV n2,.func (.func az) ⟨[]⟩ ⟨aj⟩] σ (.tuple ⟨[]⟩) σ3) (nx:Q (.tuple ⟨[]⟩) σ3):zI Pg 49 [.slice x x_l x_c,.func (.func az) ⟨[]⟩ ⟨aj⟩] σ Q :=
 zF [.g,.g,.g,.g,.g,.g,.n z1,.c (iV n2) σ,.g,.c (.tuple ⟨[]⟩) σ3] (kd (an3 h1 h2 h3 nx))
end
section
open Go.Sort (swp PermIn SortedIn Below SWO)
theorem yX.perm {V : Rec → Prop} {d d' : Array Rec} {a B : Nat} (h : yX V d) (hB : B ≤ d.size) (hp : PermIn a B d d') : yX V d' := by
 intro i hi
 rw [hp.1] at hi
 by_cases hr : a ≤ i ∧ i < B
 ·exact Go.Sort.permIn_all d d' a B V hB hp (fun j h1 h2 => h j (by omega)) i hr.1 hr.2
 ·rw [hp.2.1 i (by omega)]; exact h i hi
section
variable {b c : Nat} {s : Option Nat} {g : FuncId} {gc : List Value} {lt : Rec → Rec → Bool} {V : Rec → Prop}
theorem xJG (hS : SWO lt) (hc : Cmp g gc lt V) : ∀ (n : Nat) (σ : St) (d : Array Rec) (a B : Nat) (limit : Int), B - a ≤ n → Dt σ b s d → yX V d → a ≤ B → B ≤ d.size → d.size ≤ 60000 → Below lt a B d → 0 ≤ limit ∧ limit ≤ 100 →
  ∃ d', PermIn a B d d' ∧ SortedIn lt a B d' ∧ vG 69 [.slice (some ⟨b, 0, s⟩) d.size c, iV (a : Int), iV (B : Int), iV limit, .func (.func g) ⟨[]⟩ ⟨gc⟩] (.tuple ⟨[]⟩) σ b s d d' := by
 intro n
 induction n using Nat.strongRecOn with
 | _ n ih =>
 intro σ d a B limit hn hd hv ha hB hsz hbel hlim
 suffices hmain : zI Try.prog 69 [.slice (some ⟨b, 0, s⟩) d.size c, iV (a : Int), iV (B : Int), iV limit, .func (.func g) ⟨[]⟩ ⟨gc⟩] σ.re fun v τ => v = .tuple ⟨[]⟩ ∧ ∃ d', W σ τ b s d d' ∧ PermIn a B d d' ∧ SortedIn lt a B d' by
  obtain ⟨v, τ, hN, e, d', w, r1, r2⟩ := hmain
  exact ⟨d', r1, r2, vG.of hd ⟨v, τ, hN, e, w⟩⟩
 refine yYV (Pr := fun τ => ∃ d', W σ τ b s d d' ∧ PermIn a B d d' ∧ SortedIn lt a B d') (zXF (Inv := fun k i1 i2 i3 t10 t11 τ => ∃ (p q : Nat) (dk : Array Rec), i1 = p ∧ i2 = q ∧ k = q - p ∧ a ≤ p ∧ p ≤ q ∧ q ≤ B ∧ (0 ≤ i3 ∧ i3 ≤ 100) ∧ W σ τ b s d dk ∧ dk.size = d.size ∧ yX V dk ∧ Below lt p q dk ∧ (∀ R, PermIn p q dk R → SortedIn lt p q R → PermIn a B d R ∧ SortedIn lt a B R)) ?_ (B - a) _ _ _ _ _ σ.re ⟨a, B, d, rfl, rfl, rfl, Nat.le_refl _, ha, Nat.le_refl _, hlim, W.start hd, rfl, hv, hbel, fun R h1 h2 => ⟨h1, h2⟩⟩) (fun τ h => zXE ⟨rfl, h⟩)
 rintro k i1 i2 i3 t10 t11 τ ⟨p, q, dk, rfl, rfl, hk, hap, hpq, hqB, hi3, w, hdk, hall, hbk, hJ⟩
 suffices hgo : ∀ (NX : Int → Int → Int → Bool → Bool → St → Prop) (QR : St → Prop), (∀ (p' q' : Nat) (dk' : Array Rec) (i3' : Int) (t10' t11' : Bool) (τ' : St), q' - p' < k → a ≤ p' → p' ≤ q' → q' ≤ B → (0 ≤ i3' ∧ i3' ≤ 100) → W σ τ' b s d dk' → dk'.size = d.size → yX V dk' → Below lt p' q' dk' → (∀ R, PermIn p' q' dk' R → SortedIn lt p' q' R → PermIn a B d R ∧ SortedIn lt a B R) → NX (p' : Int) (q' : Int) i3' t10' t11' τ') →
   (∀ (τ' : St) (d' : Array Rec), W σ τ' b s d d' → PermIn a B d d' ∧ SortedIn lt a B d' → QR τ') → zND (some ⟨b, 0, s⟩) d.size c g gc (p : Int) (q : Int) i3 t10 t11 τ NX QR from
  hgo _ _ (fun p' q' dk' i3' t10' t11' τ' h1 h2 h3 h4 h5 h6 h7 h8 h9 h10 => ⟨q' - p', h1, p', q', dk', rfl, rfl, rfl, h2, h3, h4, h5, h6, h7, h8, h9, h10⟩) (fun τ' d' h1 h2 => ⟨d', h1, h2.1, h2.2⟩)
 intro NX QR hNX hQR
 have hqs : q ≤ dk.size := by omega
 by_cases h12 : q - p ≤ 12
 ·have hins := Go.Sort.insertionSort_holds (lt := lt) hS dk p q hpq hqs
  obtain ⟨τ', k1, w1⟩ := w.call (xIH (c := c) (a := p) (B := q) w.dt hc hall hqs (by omega) (by omega))
  rw [hdk] at k1
  exact yPT k1 (hQR _ _ w1 (hJ _ hins.1 hins.2)) (by omega) (by omega)
 by_cases h0 : i3 = 0
 ·have hheap := Go.Sort.heapSort_holds (lt := lt) hS dk p q hpq hqs
  obtain ⟨τ', k1, w1⟩ := w.call (xFE (c := c) (a := p) (B := q) w.dt hc hall hpq hqs (by omega))
  rw [hdk] at k1
  exact xEM k1 (hQR _ _ w1 (hJ _ hheap.1 hheap.2)) (by omega) (by omega) h0
 have k8 : IntKind.wrap .i64 (Int.tdiv ((q : Int) - (p : Int)) 8) = Int.tdiv ((q : Int) - (p : Int)) 8 := by
  have e8 : Int.tdiv ((q : Int) - (p : Int)) 8 = (((q - p) / 8 : Nat) : Int) := by rw [Int.tdiv_eq_ediv_of_nonneg (by omega)]; omega
  rw [← wT, e8, zRL (by omega) (by omega)]
 have stepN : ∀ (i3' : Int) (t10 t11 : Bool) (x : Nat) (h97 : Bool) (d3 : Array Rec) (τ3 : St), (0 ≤ i3' ∧ i3' ≤ 100) → p ≤ x → x < q → W σ τ3 b s d d3 → PermIn p q dk d3 → yX V d3 →
   xM (some ⟨b, 0, s⟩) d.size c (q : Int) i3' g gc t10 t11 ((q : Int) - (p : Int)) (x : Int) h97 (p : Int) τ3 NX QR := by
  intro i3' t10 t11 x h97 d3 τ3 hi3' hx1 hx2 w3 hp3 hall3
  have hd3 : d3.size = d.size := by rw [hp3.1, hdk]
  have hq3 : q ≤ d3.size := by omega
  have hb3 : Below lt p q d3 := Go.Sort.Below.permA Go.Sort.permIn_all hqs hbk hp3
  have hJ3 : ∀ R, PermIn p q d3 R → SortedIn lt p q R → PermIn a B d R ∧ SortedIn lt a B R := fun R h1 h2 => hJ R (Go.Sort.permIn_trans _ _ _ p q hp3 h1) h2
  obtain ⟨mid, hmid⟩ : ∃ mid, mid = (Go.Sort.partition lt d3 p q x).1 := ⟨_, rfl⟩
  obtain ⟨ap, hap'⟩ : ∃ ap, ap = (Go.Sort.partition lt d3 p q x).2.1 := ⟨_, rfl⟩
  obtain ⟨d4, hd4⟩ : ∃ d4, d4 = (Go.Sort.partition lt d3 p q x).2.2 := ⟨_, rfl⟩
  have hpt : Go.Sort.partition lt d3 p q x = (mid, ap, d4) := by rw [hmid, hap', hd4]
  obtain ⟨m1, m2, m3, m4, m5, m6, m7⟩ := Go.Sort.round_part hS (Go.Sort.partition_holds lt) hx1 hx2 hq3 hb3 hpt
  have hpc := xHZ (c := c) w3.dt hc hall3 hx1 hx2 hq3 (by omega)
  rw [← hmid, ← hap', ← hd4] at hpc
  obtain ⟨τ4, kp, w4⟩ := w3.call hpc
  rw [hd3] at kp
  have hd4s : d4.size = d.size := by omega
  have hall4 : yX V d4 := by
   have := (Go.Sort.partition_holds lt hS d3 p q x hx1 hx2 hq3).2.2.1
   rw [hpt] at this
   exact hall3.perm hq3 this
  by_cases hlr : mid - p < q - mid
  ·obtain ⟨L, hL1, hL2, hL3⟩ := ih (mid - p) (by omega) τ4 d4 p mid i3' (Nat.le_refl _) w4.dt hall4 m1 (by omega) (by omega) m4 hi3'
   obtain ⟨τ5, k5, w5⟩ := w4.call hL3
   rw [hd4s] at k5
   obtain ⟨n1, n2⟩ := m6 L hL1 hL2
   have go : ∀ t, NX ((mid : Int) + 1) (q : Int) i3' t ap τ5 := fun t => by
    rw [show (mid : Int) + 1 = ((mid + 1 : Nat) : Int) by omega]
    exact hNX _ _ L _ _ _ _ (by omega) (by omega) (by omega) hqB hi3' w5 (by rw [hL1.1, hd4s]) (hall4.perm (by omega) hL1) n1 (fun R h1 h2 => hJ3 R (n2 R h1 h2).1 (n2 R h1 h2).2)
   refine yTE kp k8 (Pn := fun i1 i2 t τ' => i1 = (mid : Int) + 1 ∧ i2 = (q : Int) ∧ τ' = τ5) ?_ (fun i1 i2 t τ' ⟨e1, e2, e3⟩ => by subst e1 e2 e3; exact zXC (go t)) (by omega)
   by_cases hT : Int.tdiv ((q : Int) - (p : Int)) 8 ≤ (mid : Int) - (p : Int)
   ·exact xED k5 ⟨rfl, rfl, rfl⟩ hT
   ·exact xEC k5 ⟨rfl, rfl, rfl⟩ hT
  ·obtain ⟨L, hL1, hL2, hL3⟩ := ih (q - (mid + 1)) (by omega) τ4 d4 (mid + 1) q i3' (Nat.le_refl _) w4.dt hall4 (by omega) (by omega) (by omega) m5 hi3'
   obtain ⟨τ5, k5, w5⟩ := w4.call hL3
   rw [hd4s, show ((mid + 1 : Nat) : Int) = (mid : Int) + 1 by omega] at k5
   obtain ⟨n1, n2⟩ := m7 L hL1 hL2
   have go : ∀ t, NX (p : Int) (mid : Int) i3' t ap τ5 := fun t => hNX _ _ L _ _ _ _ (by omega) (by omega) (by omega) (by omega) hi3' w5 (by rw [hL1.1, hd4s]) (hall4.perm (by omega) hL1) n1 (fun R h1 h2 => hJ3 R (n2 R h1 h2).1 (n2 R h1 h2).2)
   refine yTD kp k8 (Pn := fun i1 i2 t τ' => i1 = (p : Int) ∧ i2 = (mid : Int) ∧ τ' = τ5) ?_ (fun i1 i2 t τ' ⟨e1, e2, e3⟩ => by subst e1 e2 e3; exact zXC (go t)) (by omega)
   by_cases hT : Int.tdiv ((q : Int) - (p : Int)) 8 ≤ (q : Int) - (mid : Int)
   ·exact xEB k5 ⟨rfl, rfl, rfl⟩ hT
   ·exact xEA k5 ⟨rfl, rfl, rfl⟩ hT
 have stepE : ∀ (i3' : Int) (t10 t11 : Bool) (x : Nat) (d3 : Array Rec) (τ3 : St), (0 ≤ i3' ∧ i3' ≤ 100) → p ≤ x → x < q → W σ τ3 b s d d3 → PermIn p q dk d3 → yX V d3 → 0 < p → lt d3[p - 1]! d3[x]! = false →
   ∃ (me : Nat) (τ5 : St), zD Try.prog 86 [.slice (some ⟨b, 0, s⟩) d.size c, iV (p : Int), iV (q : Int), iV (x : Int), .func (.func g) ⟨[]⟩ ⟨gc⟩] τ3 (iV (me : Int)) τ5 ∧ NX (me : Int) (q : Int) i3' t10 t11 τ5 := by
  intro i3' t10 t11 x d3 τ3 hi3' hx1 hx2 w3 hp3 hall3 hp0 hl
  have hd3 : d3.size = d.size := by rw [hp3.1, hdk]
  have hq3 : q ≤ d3.size := by omega
  have hb3 : Below lt p q d3 := Go.Sort.Below.permA Go.Sort.permIn_all hqs hbk hp3
  have hJ3 : ∀ R, PermIn p q d3 R → SortedIn lt p q R → PermIn a B d R ∧ SortedIn lt a B R := fun R h1 h2 => hJ R (Go.Sort.permIn_trans _ _ _ p q hp3 h1) h2
  obtain ⟨me, hme⟩ : ∃ me, me = (Go.Sort.partitionEqual lt d3 p q x).1 := ⟨_, rfl⟩
  obtain ⟨de, hde⟩ : ∃ de, de = (Go.Sort.partitionEqual lt d3 p q x).2 := ⟨_, rfl⟩
  have hpe : Go.Sort.partitionEqual lt d3 p q x = (me, de) := by rw [hme, hde]
  obtain ⟨e1, e2, e3, e4, e5⟩ := Go.Sort.round_eq hS (Go.Sort.partitionEqual_holds lt) hp0 hx1 hx2 hq3 hb3 hl hpe
  have hpc := yZQ (c := c) w3.dt hc hall3 hx1 hx2 hq3 (by omega)
  rw [← hme, ← hde] at hpc
  obtain ⟨τ5, k5, w5⟩ := w3.call hpc
  rw [hd3] at k5
  have hge : ∀ i, p ≤ i → i < q → lt d3[i]! d3[x]! = false := fun i hi hi' => by
   rcases hb3 with h0 | hB'
   ·omega
   ·exact hS.ntrans _ _ _ (hB' i hi hi') hl
  have hperm := (Go.Sort.partitionEqual_holds lt hS d3 p q x hx1 hx2 hq3 hge).2.2.1
  rw [hpe] at hperm
  exact ⟨me, τ5, k5, hNX _ _ de _ _ _ _ (by omega) (by omega) e2 hqB hi3' w5 (by omega) (hall3.perm hq3 hperm) e4 (fun R h1 h2 => hJ3 R (e5 R h1 h2).1 (e5 R h1 h2).2)⟩
 have stepK : ∀ (i3' : Int) (t10 t11 h56 : Bool) (x : Nat) (i14 : Int) (d2 : Array Rec) (τ2 : St), (0 ≤ i3' ∧ i3' ≤ 100) → p ≤ x → x < q → W σ τ2 b s d d2 → PermIn p q dk d2 → yX V d2 →
   xE (some ⟨b, 0, s⟩) d.size c (p : Int) (q : Int) i3' g gc t10 t11 ((q : Int) - (p : Int)) h56 (x : Int) i14 τ2 NX QR := by
  intro i3' t10 t11 h56 x i14 d2 τ2 hi3' hx1 hx2 w2 hp2 hall2
  have hd2 : d2.size = d.size := by rw [hp2.1, hdk]
  have hq2 : q ≤ d2.size := by omega
  have hb2 : Below lt p q d2 := Go.Sort.Below.permA Go.Sort.permIn_all hqs hbk hp2
  have out1 : ∀ (t10 t11 h97 : Bool) (i1 : Int) (τ' : St), NX i1 (q : Int) i3' t10 t11 τ' → wB (some ⟨b, 0, s⟩) d.size c (q : Int) i3' g gc t10 t11 ((q : Int) - (p : Int)) (x : Int) h97 i1 τ' NX QR := fun t10 t11 h97 i1 τ' h => yTF h
  have eq : ∀ (t10 t11 : Bool) (d3 : Array Rec) (τ3 : St), W σ τ3 b s d d3 → PermIn p q dk d3 → yX V d3 → 0 < p → lt d3[p - 1]! d3[x]! = false → vP (some ⟨b, 0, s⟩) d.size c (q : Int) i3' g gc t10 t11 ((q : Int) - (p : Int)) (x : Int) true (p : Int) τ3 (fun i1 τ' => NX i1 (q : Int) i3' t10 t11 τ') (fun i1 τ' => i1 = (p : Int) ∧ τ' = τ3) := by
   intro t10 t11 d3 τ3 w3 hp3 hall3 hp0 hl
   obtain ⟨me, τ5, k5, h5⟩ := stepE i3' t10 t11 x d3 τ3 hi3' hx1 hx2 w3 hp3 hall3 hp0 hl
   exact xEF k5 h5
  have nq : ∀ (t10 t11 : Bool) (τ3 : St), vP (some ⟨b, 0, s⟩) d.size c (q : Int) i3' g gc t10 t11 ((q : Int) - (p : Int)) (x : Int) false (p : Int) τ3 (fun i1 τ' => NX i1 (q : Int) i3' t10 t11 τ') (fun i1 τ' => i1 = (p : Int) ∧ τ' = τ3) := fun t10 t11 τ3 => xEE ⟨rfl, rfl⟩
  have outN : ∀ (t10 t11 h97 : Bool) (d3 : Array Rec) (τ3 : St), W σ τ3 b s d d3 → PermIn p q dk d3 → yX V d3 → ∀ (i1 : Int) (τ' : St), (i1 = (p : Int) ∧ τ' = τ3) → xM (some ⟨b, 0, s⟩) d.size c (q : Int) i3' g gc t10 t11 ((q : Int) - (p : Int)) (x : Int) h97 i1 τ' NX QR := by
   rintro t10 t11 h97 d3 τ3 w3 hp3 hall3 i1 τ' ⟨rfl, rfl⟩
   exact stepN i3' t10 t11 x h97 d3 _ hi3' hx1 hx2 w3 hp3 hall3
  have ldp : ∀ (d3 : Array Rec) (τ3 : St), W σ τ3 b s d d3 → d3.size = d.size → 0 < p → zB Try.prog τ3 47 (zH ⟨b, 0, s⟩ (Int.toNat ((p : Int) - 1) * 3)) = some (zCB d3[p - 1]!) := fun d3 τ3 w3 hd3 hp0 => w3.dt.ldN (by omega) (by omega)
  have ldx : ∀ (d3 : Array Rec) (τ3 : St), W σ τ3 b s d d3 → d3.size = d.size → zB Try.prog τ3 47 (zH ⟨b, 0, s⟩ (Int.toNat (x : Int) * 3)) = some (zCB d3[x]!) := fun d3 τ3 w3 hd3 => w3.dt.ldN rfl (by omega)
  by_cases hp0 : 0 < p
  ·cases t10 with
   | false =>
    obtain ⟨m, cm, ⟨g1, hl⟩ | ⟨g1, hl⟩⟩ := hc.at_ (τ := τ2) hall2 (i := p - 1) (j := x) (by omega) (by omega)
    ·exact yTI (ldp _ _ w2 hd2 hp0) (ldx _ _ w2 hd2) cm (nq _ _ _) (fun i1 τ' h => out1 _ _ _ _ _ h) (outN _ _ _ _ _ w2 hp2 hall2)
    ·exact yTH (ldp _ _ w2 hd2 hp0) (ldx _ _ w2 hd2) cm (eq _ _ _ _ w2 hp2 hall2 hp0 hl) (fun i1 τ' h => out1 _ _ _ _ _ h) (outN _ _ _ _ _ w2 hp2 hall2)
   | true =>
   cases t11 with
   | false =>
    obtain ⟨m, cm, ⟨g1, hl⟩ | ⟨g1, hl⟩⟩ := hc.at_ (τ := τ2) hall2 (i := p - 1) (j := x) (by omega) (by omega)
    ·exact yTL (ldp _ _ w2 hd2 hp0) (ldx _ _ w2 hd2) cm (nq _ _ _) (fun i1 τ' h => out1 _ _ _ _ _ h) (outN _ _ _ _ _ w2 hp2 hall2)
    ·exact yTK (ldp _ _ w2 hd2 hp0) (ldx _ _ w2 hd2) cm (eq _ _ _ _ w2 hp2 hall2 hp0 hl) (fun i1 τ' h => out1 _ _ _ _ _ h) (outN _ _ _ _ _ w2 hp2 hall2)
   | true =>
   by_cases h14 : i14 = 1
   rotate_left
   ·obtain ⟨m, cm, ⟨g1, hl⟩ | ⟨g1, hl⟩⟩ := hc.at_ (τ := τ2) hall2 (i := p - 1) (j := x) (by omega) (by omega)
    ·exact yTO (ldp _ _ w2 hd2 hp0) (ldx _ _ w2 hd2) cm (nq _ _ _) (fun i1 τ' h => out1 _ _ _ _ _ h) (outN _ _ _ _ _ w2 hp2 hall2)
    ·exact yTN (ldp _ _ w2 hd2 hp0) (ldx _ _ w2 hd2) cm (eq _ _ _ _ w2 hp2 hall2 hp0 hl) (fun i1 τ' h => out1 _ _ _ _ _ h) (outN _ _ _ _ _ w2 hp2 hall2)
   have hpi := Go.Sort.partialInsertionSort_holds (lt := lt) hS d2 p q (by omega) hq2 hb2
   have hpc := yQE (c := c) (a := p) (B := q) w2.dt hc hall2 (by omega) hq2 (by omega)
   obtain ⟨R, hR⟩ : ∃ R, R = Go.Sort.partialInsertionSort lt d2 p q := ⟨_, rfl⟩
   rw [← hR] at hpi hpc
   obtain ⟨τ3, k3, w3⟩ := w2.call hpc
   rw [hd2] at k3
   have hp3 := Go.Sort.permIn_trans _ _ _ p q hp2 hpi.1
   have hall3 := hall2.perm hq2 hpi.1
   have hd3 : R.1.size = d.size := by rw [hp3.1, hdk]
   cases hR2 : R.2 with
   | true => rw [hR2] at k3 hpi; exact zXD k3 (hQR _ _ w3 (hJ _ hp3 (hpi.2 rfl))) h14
   | false =>
    rw [hR2] at k3
    obtain ⟨m, cm, ⟨g1, hl⟩ | ⟨g1, hl⟩⟩ := hc.at_ (τ := τ3) hall3 (i := p - 1) (j := x) (by omega) (by omega)
    ·exact yTR k3 (ldp _ _ w3 hd3 hp0) (ldx _ _ w3 hd3) cm (nq _ _ _) (fun i1 τ' h => out1 _ _ _ _ _ h) (outN _ _ _ _ _ w3 hp3 hall3)
    ·exact yTQ k3 (ldp _ _ w3 hd3 hp0) (ldx _ _ w3 hd3) cm (eq _ _ _ _ w3 hp3 hall3 hp0 hl) (fun i1 τ' h => out1 _ _ _ _ _ h) (outN _ _ _ _ _ w3 hp3 hall3)
  ·cases t10 with
   | false => exact yTG (nq _ _ _) (fun i1 τ' h => out1 _ _ _ _ _ h) (outN _ _ _ _ _ w2 hp2 hall2)
   | true =>
   cases t11 with
   | false => exact yTJ (nq _ _ _) (fun i1 τ' h => out1 _ _ _ _ _ h) (outN _ _ _ _ _ w2 hp2 hall2)
   | true =>
   by_cases h14 : i14 = 1
   rotate_left
   ·exact yTM (nq _ _ _) (fun i1 τ' h => out1 _ _ _ _ _ h) (outN _ _ _ _ _ w2 hp2 hall2) h14
   have hpi := Go.Sort.partialInsertionSort_holds (lt := lt) hS d2 p q (by omega) hq2 hb2
   have hpc := yQE (c := c) (a := p) (B := q) w2.dt hc hall2 (by omega) hq2 (by omega)
   obtain ⟨R, hR⟩ : ∃ R, R = Go.Sort.partialInsertionSort lt d2 p q := ⟨_, rfl⟩
   rw [← hR] at hpi hpc
   obtain ⟨τ3, k3, w3⟩ := w2.call hpc
   rw [hd2] at k3
   have hp3 := Go.Sort.permIn_trans _ _ _ p q hp2 hpi.1
   have hall3 := hall2.perm hq2 hpi.1
   cases hR2 : R.2 with
   | true => rw [hR2] at k3 hpi; exact zXD k3 (hQR _ _ w3 (hJ _ hp3 (hpi.2 rfl))) h14
   | false =>
    rw [hR2] at k3
    exact yTP k3 (nq _ _ _) (fun i1 τ' h => out1 _ _ _ _ _ h) (outN _ _ _ _ _ w3 hp3 hall3) h14
 have stepP : ∀ (i3' : Int) (t10 t11 h39 : Bool) (d1 : Array Rec) (τ1 : St), (0 ≤ i3' ∧ i3' ≤ 100) → W σ τ1 b s d d1 → PermIn p q dk d1 → yX V d1 →
   zGF (some ⟨b, 0, s⟩) d.size c (p : Int) (q : Int) g gc t10 t11 ((q : Int) - (p : Int)) h39 i3' τ1 NX QR := by
  intro i3' t10 t11 h39 d1 τ1 hi3' w1 hp1 hall1
  have hd1 : d1.size = d.size := by rw [hp1.1, hdk]
  have hq1 : q ≤ d1.size := by omega
  obtain ⟨x, kk, hx1, hx2, kc⟩ := yVT (c := c) (a := p) (B := q) w1.dt hc hall1 (by omega) hq1 (by omega)
  rw [hd1] at kc
  have go : ∀ (i13 i14 : Int) (h56 : Bool) (τ2 : St), (∃ (x : Nat) (d2 : Array Rec), i13 = x ∧ p ≤ x ∧ x < q ∧ W σ τ2 b s d d2 ∧ PermIn p q dk d2 ∧ yX V d2) → xE (some ⟨b, 0, s⟩) d.size c (p : Int) (q : Int) i3' g gc t10 t11 ((q : Int) - (p : Int)) h56 i13 i14 τ2 NX QR := by
   rintro i13 i14 h56 τ2 ⟨x, d2, rfl, hx1, hx2, w2, hp2, hall2⟩
   exact stepK _ _ _ _ _ _ _ _ hi3' hx1 hx2 w2 hp2 hall2
  by_cases hk2 : kk = 2
  ·have hrev := Go.Sort.reverseRange_holds (α := Rec) d1 p q hpq hq1
   obtain ⟨τ2, k2, w2⟩ := w1.call (xHP (c := c) (g := g) (gc := gc) (a := p) (B := q) w1.dt hall1 (by omega) hq1 (by omega))
   rw [hd1] at k2
   exact yTT kc (Pn := fun i13 i14 τ2 => ∃ (x : Nat) (d2 : Array Rec), i13 = x ∧ p ≤ x ∧ x < q ∧ W σ τ2 b s d d2 ∧ PermIn p q dk d2 ∧ yX V d2) (xEH k2 ⟨(q - 1) - (x - p), _, by omega, by omega, by omega, w2, Go.Sort.permIn_trans _ _ _ p q hp1 hrev, hall1.perm hq1 hrev⟩ (by omega) (by omega) (by omega)) (fun i13 i14 τ2 h => go _ _ _ _ h) hk2
  ·exact yTS kc (Pn := fun i13 i14 τ2 => ∃ (x : Nat) (d2 : Array Rec), i13 = x ∧ p ≤ x ∧ x < q ∧ W σ τ2 b s d d2 ∧ PermIn p q dk d2 ∧ yX V d2) (xEG ⟨x, d1, rfl, hx1, hx2, w1, hp1, hall1⟩) (fun i13 i14 τ2 h => go _ _ _ _ h) hk2
 cases t10 with
 | true => exact xEL (Pn := fun i3' τ' => (0 ≤ i3' ∧ i3' ≤ 100) ∧ ∃ d1, W σ τ' b s d d1 ∧ PermIn p q dk d1 ∧ yX V d1) (xEI ⟨hi3, dk, w, Go.Sort.permIn_refl _ _ _, hall⟩) (fun i3' τ' ⟨h1, d1, h2, h3, h4⟩ => stepP _ _ _ _ _ _ h1 h2 h3 h4) (by omega) (by omega) h0
 | false =>
  obtain ⟨d1, hp1, hall1, hs1⟩ := xCE (c := c) (g := g) (gc := gc) (a := p) (B := q) w.dt hpq hqs (by omega) hall
  obtain ⟨τ1, k1, w1⟩ := w.call hs1
  rw [hdk] at k1
  exact xEK (Pn := fun i3' τ' => (0 ≤ i3' ∧ i3' ≤ 100) ∧ ∃ d1, W σ τ' b s d d1 ∧ PermIn p q dk d1 ∧ yX V d1) (xEJ k1 ⟨by omega, d1, w1, hp1, hall1⟩ (by omega)) (fun i3' τ' ⟨h1, d1, h2, h3, h4⟩ => stepP _ _ _ _ _ _ h1 h2 h3 h4) (by omega) (by omega) h0
end
end
section
open Go.Sort (swp PermIn SortedIn Below SWO)
section
variable {σ : St} {b c : Nat} {s : Option Nat} {d : Array Rec} {g : FuncId} {gc : List Value} {lt : Rec → Rec → Bool} {V : Rec → Prop}
theorem xDW (hS : SWO lt) (hc : Cmp g gc lt V) (hd : Dt σ b s d) (hv : yX V d) (hsz : d.size ≤ 60000) :
  ∃ d', PermIn 0 d.size d d' ∧ SortedIn lt 0 d.size d' ∧ vG 49 [.slice (some ⟨b, 0, s⟩) d.size c, .func (.func g) ⟨[]⟩ ⟨gc⟩] (.tuple ⟨[]⟩) σ b s d d' := by
 obtain ⟨n, n1, n2, n3⟩ := yON (σ := σ.re) (x := d.size) (by omega)
 obtain ⟨d', p1, p2, p3⟩ := xJG (c := c) (s := s) hS hc d.size σ.re d 0 d.size (n : Int) (by omega) hd hv (Nat.zero_le _) (Nat.le_refl _) hsz (.inl rfl) (by omega)
 have w0 : W σ σ.re b s d d := W.start hd
 obtain ⟨τ', k1, w1⟩ := w0.call p3
 exact ⟨d', p1, p2, vG.of hd (yDT (z1 := (d.size : Int)) (by rw [zRK]; omega) n3 k1 ⟨rfl, w1⟩)⟩
theorem xAT : zD Try.prog 80 [.slice none 0 c, iV 0, iV 0, .func (.func g) ⟨[]⟩ ⟨gc⟩] σ (.tuple ⟨[]⟩) σ :=
 zI.pure (yQM (P0 := fun τ => τ = σ.re) (zTZ (Inv := fun k i τ => i = 1 ∧ τ = σ.re) (fun k i τ h => by obtain ⟨rfl, rfl⟩ := h; exact yGK rfl (by omega)) 0 _ σ.re ⟨rfl, rfl⟩) (fun τ h => zTY ⟨rfl, by rw [h]; exact Nat.le_refl _⟩) (by omega))
theorem xEN {n : Int} : zD Try.prog 69 [.slice none 0 c, iV 0, iV 0, iV n, .func (.func g) ⟨[]⟩ ⟨gc⟩] σ (.tuple ⟨[]⟩) σ :=
 zI.pure (yYV (Pr := fun τ => τ = σ.re) (zXF (Inv := fun k i1 i2 i3 t10 t11 τ => i1 = 0 ∧ i2 = 0 ∧ τ = σ.re) (fun k i1 i2 i3 t10 t11 τ h => by obtain ⟨rfl, rfl, rfl⟩ := h; exact yPT xAT rfl (by omega) (by omega)) 0 _ _ _ _ _ σ.re ⟨rfl, rfl, rfl⟩) (fun τ h => zXE ⟨rfl, by rw [h]; exact Nat.le_refl _⟩))
theorem yRZ : zD Try.prog 49 [.slice none 0 c, .func (.func g) ⟨[]⟩ ⟨gc⟩] σ (.tuple ⟨[]⟩) σ := by
 obtain ⟨n, n1, n2, n3⟩ := yON (σ := σ.re) (x := 0) (by omega)
 exact zI.pure (yDT (x_l := 0) (z1 := ((0 : Nat) : Int)) (by rw [zRK]; rfl) n3 xEN ⟨rfl, Nat.le_refl _⟩)
end
end
abbrev yRX (s : Std) : Value := .agg ⟨zP s.free s.row s.used s.day⟩
structure StOk (s : Std) : Prop where
 free : -1000000 ≤ s.free ∧ s.free ≤ 1000000
 row : 0 ≤ s.row ∧ s.row ≤ 1000000
 used : -1000000 ≤ s.used ∧ s.used ≤ 1000000
 day : -1 ≤ s.day ∧ s.day ≤ 6
structure DtOk (d : Dty) : Prop where
 day : 0 ≤ d.day ∧ d.day ≤ 6
 on : 0 ≤ d.on ∧ d.on ≤ 1439
section
variable {σ : St} {w : Wk} {p q : Option Addr} {l m c d : Nat} {k : Nat}
theorem xCA {p : Option Addr} {l c : Nat} {xs : List Int} {n : Int} (h : yP σ p l xs) (hl : l ≤ 1073741824) : zD Pg 37 [.slice p l c, iV n] σ (.bool (xs.contains n)) σ := by
 have h1 := (SlV.re h).re
 have e1 := h.len
 have ci : ∃ r : Int, zD Pg 55 [.slice p l c, iV n] σ.re (iV r) σ.re ∧ (0 ≤ r ↔ n ∈ xs) := by
  have key : zI Pg 55 [.slice p l c, iV n] σ.re.re fun v s => (∃ r : Int, v = iV r ∧ (0 ≤ r ↔ n ∈ xs)) ∧ s = σ.re.re := by
   refine xAV (yGO (Inv := fun k i τ => τ = σ.re.re ∧ ∃ j : Nat, i = j ∧ j + k = l ∧ n ∉ xs.take j) (Qr := fun i τ => τ = σ.re.re ∧ 0 ≤ i ∧ n ∈ xs) (Q0 := fun τ => τ = σ.re.re ∧ n ∉ xs) ?_ l 0 _ ⟨rfl, 0, rfl, by omega, by simp⟩) ?_ ?_
   ·rintro k i τ ⟨rfl, j, rfl, hk, he⟩
    by_cases hj : j < l
    ·obtain ⟨a, rfl, x, hx, l1⟩ := wU h1 hj
     by_cases hxy : n = x
     ·exact yVD l1 ⟨rfl, by omega, hxy ▸ List.mem_of_getElem? hx⟩ (by omega) (by omega) hxy
     ·exact yVC l1 ⟨k - 1, by omega, rfl, j + 1, by omega, by omega, by rw [vI hx, List.mem_append]; simp; exact ⟨he, hxy⟩⟩ (by omega) (by omega) hxy (by omega)
    ·rw [List.take_of_length_le (by omega)] at he
     exact yVB ⟨rfl, he⟩ (by omega)
   ·rintro i τ ⟨rfl, h2, hn⟩
    exact yGM ⟨⟨i, rfl, by simp [h2, hn]⟩, rfl⟩
   ·rintro τ ⟨rfl, hn⟩
    exact yGN ⟨⟨-1, rfl, by simp [hn]⟩, rfl⟩
  obtain ⟨v, s, h3, ⟨r, rfl, h2⟩, rfl⟩ := key
  exact ⟨r, zNB h3 (Nat.le_refl _) rfl, h2⟩
 obtain ⟨r, c1, c2⟩ := ci
 by_cases hn : n ∈ xs
 ·rw [show xs.contains n = true by simp [hn]]
  exact (xFR c1 ⟨rfl, Nat.le_refl _⟩ (c2.2 hn)).pure
 ·rw [show xs.contains n = false by simp [hn]]
  exact (xFQ c1 ⟨rfl, Nat.le_refl _⟩ (fun h => hn (c2.1 h))).pure
theorem yPK {s : Std} {x : Dty} {e : Int} (hs : StOk s) (hx : DtOk x) (he : -1000000 ≤ e ∧ e ≤ 1000000) : zD Pg 48 [yRX s, vC x, iV e] σ (yRX (take s x e)) σ := by
 have h1 := hs.used; have h2 := hs.row; have h3 := hs.day; have h4 := hx.day; have h5 := hx.on
 unfold take
 by_cases e1 : s.day = x.day
 ·rw [if_pos e1]
  exact (yXO ⟨rfl, by simp⟩ (by omega) (by omega) e1).pure
 ·rw [if_neg e1]
  by_cases e2 : s.day = x.day - 1
  ·rw [if_pos e2]
   exact (yXM ⟨rfl, by simp⟩ (by omega) (by omega) e1 (by omega) e2 (by omega) (by omega) (by omega)).pure
  ·rw [if_neg e2]
   exact (yXN ⟨rfl, by simp⟩ (by omega) (by omega) e1 (by omega) e2 (by omega) (by omega)).pure
theorem xKD (h : WkP σ 69 61 w p l q m) (hsh : zFD w) (hk : k < m) {s : Std} {x : Dty} (hs : StOk s) (hx : DtOk x) {n : Nat} (hn : n < 5) : zD Pg (64 + n) [.agg ⟨wkc w.M p l c q m d w.rest w.run w.j⟩, iV (k : Int), vC x, yRX s] σ (.bool (holds w n (drv w k) x s)) σ := by
 have h1 := hs.free; have h4 := hx.day; have h5 := hx.on
 have L : Le σ (((σ.re.row (wkc w.M p l c q m d w.rest w.run w.j) 6).row (zE x.day x.on x.lo x.hi x.route) 5).row (zP s.free s.row s.used s.day) 4) := (((le0 σ).trans (Le.row _ _ _)).trans (Le.row _ _ _)).trans (Le.row _ _ _)
 obtain ⟨a, rfl, p', l', c', r', n', d', s', j', e', _, hkn, hlv, _, hf⟩ := (h.le L).vld yII zMV hk
 have hm := h.len.2
 have hmem : drv w k ∈ w.L := by
  unfold drv
  rw [List.getD_eq_getElem?_getD, List.getElem?_eq_getElem (by omega)]
  exact List.getElem_mem _
 have hsx := hsh _ hmem
 match n, hn with
 | 0, _ => exact (ySY (hf 0 _ rfl 29 yT) (xCA hkn (by have := hkn.len; omega)) ⟨rfl, Nat.le_refl _⟩ (by omega)).pure
 | 1, _ =>
  have cc := xCA (c := d') (n := x.day) hlv (by have := hlv.len; omega)
  show zD Pg 65 _ σ (.bool (!(drv w k).qa.contains x.day)) σ
  cases hc : (drv w k).qa.contains x.day with
  | true => rw [hc] at cc; exact (yYR (hf 1 _ rfl 29 yT) cc ⟨rfl, Nat.le_refl _⟩ (by omega)).pure
  | false => rw [hc] at cc; exact (yYQ (hf 1 _ rfl 29 yT) cc ⟨rfl, Nat.le_refl _⟩ (by omega)).pure
 | 2, _ =>
  show zD Pg 66 _ σ (.bool (decide (s.day ≠ x.day))) σ
  by_cases e : s.day = x.day
  ·rw [decide_eq_false (by simp [e])]; exact (yLA ⟨rfl, Nat.le_refl _⟩ e).pure
  ·rw [decide_eq_true e]; exact (yLB ⟨rfl, Nat.le_refl _⟩ e).pure
 | 3, _ =>
  show zD Pg 67 _ σ (.bool (decide (s.day = x.day) || decide (w.rest ≤ x.day * 1440 + x.on - s.free))) σ
  by_cases e : s.day = x.day
  ·rw [decide_eq_true e]; exact (yLE ⟨rfl, Nat.le_refl _⟩ e).pure
  ·rw [decide_eq_false e, Bool.false_or]
   by_cases e2 : w.rest ≤ x.day * 1440 + x.on - s.free
   ·rw [decide_eq_true e2]; exact (yLD ⟨rfl, Nat.le_refl _⟩ e (by omega) (by omega) (by omega) e2).pure
   ·rw [decide_eq_false e2]; exact (yLC ⟨rfl, Nat.le_refl _⟩ e (by omega) (by omega) (by omega) e2).pure
 | 4, _ =>
  show zD Pg 68 _ σ (.bool (decide (s.day = x.day) || decide ((take s x x.on).row ≤ w.run))) σ
  by_cases e : s.day = x.day
  ·rw [decide_eq_true e]; exact (yTB ⟨rfl, Nat.le_refl _⟩ e).pure
  ·rw [decide_eq_false e, Bool.false_or]
   have ct := yPK (σ := ((σ.re.row (wkc w.M p l c (some a) m d w.rest w.run w.j) 6).row (zE x.day x.on x.lo x.hi x.route) 5).row (zP s.free s.row s.used s.day) 4) (e := x.on) hs hx (by omega)
   by_cases e2 : (take s x x.on).row ≤ w.run
   ·rw [decide_eq_true e2]; exact (yTA ct ⟨rfl, Nat.le_refl _⟩ e e2).pure
   ·rw [decide_eq_false e2]; exact (ySZ ct ⟨rfl, Nat.le_refl _⟩ e e2).pure
end
section
open Go.Sort (swp PermIn SortedIn Below SWO)
def bLt (x y : Rec) : Prop := x.a < y.a ∨ x.a = y.a ∧ (x.k < y.k ∨ x.k = y.k ∧ x.b < y.b)
instance (x y : Rec) : Decidable (bLt x y) := by unfold bLt; infer_instance
def yHU (x y : Rec) : Bool := decide (bLt x y)
theorem xJC : SWO yHU := by
 refine ⟨fun x => ?_, fun x y z h1 h2 => ?_, fun x y z h1 h2 => ?_⟩
 ·simp only [yHU, decide_eq_false_iff_not]; unfold bLt; omega
 ·simp only [yHU, decide_eq_true_eq] at *
  unfold bLt at *; omega
 ·simp only [yHU, decide_eq_false_iff_not] at *
  unfold bLt at *; omega
def BOk (x : Rec) : Prop := 0 ≤ x.k ∧ x.k ≤ 5 ∧ 0 ≤ x.a ∧ x.a ≤ 100 ∧ 0 ≤ x.b ∧ x.b ≤ 100
section
variable {σ : St}
theorem xFU {x y z : Int} {b c : Nat} (o : Own σ b [iV x, iV y, iV z] 1) : zD Try.prog 51 [.slice (some ⟨b, 0, none⟩) 3 c] σ (iV (if x = 0 then (if y = 0 then z else y) else x)) σ := by
 have h0 := o.re
 have l0 := h0.ldI (P := Try.prog) (t := 3) (i := 0) (v := iV x) zK rfl
 have l1 := h0.ldI (P := Try.prog) (t := 3) (i := 1) (v := iV y) zK rfl
 have l2 := h0.ldI (P := Try.prog) (t := 3) (i := 2) (v := iV z) zK rfl
 refine zI.pure (xCB (Pr := fun n τ => τ = σ.re ∧ n = if x = 0 then (if y = 0 then z else y) else x) (P0 := fun τ => τ = σ.re ∧ x = 0 ∧ y = 0 ∧ z = 0)
  (yHM (Inv := fun k i τ => τ = σ.re ∧ ((i = 0 ∧ k = 3) ∨ (i = 1 ∧ k = 2 ∧ x = 0) ∨ (i = 2 ∧ k = 1 ∧ x = 0 ∧ y = 0) ∨ (i = 3 ∧ x = 0 ∧ y = 0 ∧ z = 0))) ?_ 3 0 σ.re ⟨rfl, .inl ⟨rfl, rfl⟩⟩)
  (fun n τ h => yHK ⟨by rw [h.2], by rw [h.1]; exact Nat.le_refl _⟩) (fun τ h => yHL ⟨by simp [h.2.1, h.2.2.1, h.2.2.2], by rw [h.1]; exact Nat.le_refl _⟩))
 rintro k i τ ⟨rfl, ⟨rfl, rfl⟩ | ⟨rfl, rfl, hx⟩ | ⟨rfl, rfl, hx, hy⟩ | ⟨rfl, hx, hy, hz⟩⟩
 ·by_cases hx : x = 0
  ·exact zOB l0 ⟨2, by omega, rfl, .inr (.inl ⟨rfl, rfl, hx⟩)⟩
  ·exact zOC l0 ⟨rfl, by rw [if_neg hx]⟩
 ·by_cases hy : y = 0
  ·exact zOB l1 ⟨1, by omega, rfl, .inr (.inr (.inl ⟨rfl, rfl, hx, hy⟩))⟩
  ·exact zOC l1 ⟨rfl, by rw [if_pos hx, if_neg hy]⟩
 ·by_cases hz : z = 0
  ·exact zOB l2 ⟨0, by omega, rfl, .inr (.inr (.inr ⟨rfl, hx, hy, hz⟩))⟩
  ·exact zOC l2 ⟨rfl, by rw [if_pos hx, if_pos hy]⟩
 ·exact yVQ ⟨rfl, hx, hy, hz⟩
theorem xKC : Cmp 50 [] yHU BOk := by
 intro τ x y hx hy
 unfold BOk at hx hy
 refine ⟨if x.a - y.a = 0 then (if x.k - y.k = 0 then x.b - y.b else x.k - y.k) else x.a - y.a, ?_, ?_⟩
 ·have N : New τ.re (((τ.re.row (uM x) 3).row (uM y) 3).row [iV (x.a - y.a), iV (x.k - y.k), iV (x.b - y.b)] 1) := ((New.row _ _ _).row').row'
  exact zI.pure (xFV (xFU (zC _ _ _)) ⟨rfl, N.lw⟩ (by omega) (by omega) (by omega) (by omega) (by omega))
 ·simp only [yHU, decide_eq_true_eq]
  unfold bLt
  by_cases h : x.a - y.a = 0
  ·rw [if_pos h]
   by_cases h2 : x.k - y.k = 0
   ·rw [if_pos h2]; omega
   ·rw [if_neg h2]; omega
  ·rw [if_neg h]; omega
end
end
end Go.Proofs.Ytgfiniccfpfplaa
