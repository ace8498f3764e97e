
import Derived.Test.YtgfiniccfpfplaaGreatTy
namespace Go.Proofs.YtgfiniccfpfplaaGreat
open Go Go.Lay
open Tryz renaming prog -> Pg
set_option linter.unusedVariables false
set_option maxRecDepth 20000
section
variable (BA BB:Nat) (s1 slices:oAa) (o:lVa) (dg aR dJ a7:Nat) (aC aS:Int) (s2 eI:oAa) (qC:(Option Addr)->Nat->Nat->St->Prop) (qB:(Option Addr)->Nat->Nat->Int->St->Prop) (q7:Int->Int->St->Prop) (dz eK dL eM:Nat) (q0:Int->St->Prop) (bt aB dV:Int) (q4:St->Prop) (Z:St) (Q:vPa) (q8:Int->Int->St->Prop) (qD:(Option Addr)->Nat->Nat->Int->St->Prop) (Nx q9 Qr:Int->St->Prop) (Q2:(Option Addr)->Nat->Nat->St->Prop) (Q0:St->Prop)
noncomputable def yNS:Code:=(Code.part [1,0,1,0,0] (zU Pg 102))
def zKZ:lNa:=[(2,pt BA 0),(4,pt BB 0),(7,qf o),(8,iV aC)]
def gplus_a1n:Alt:=⟨Int,.normal,fun t=>zKZ BA BB o t,fun t=>[],fun t Z=>q0 t Z⟩
def zZB (BA BB:Nat) (o:lVa):lNa:=[(2,pt BA 0),(4,pt BB 0)]
def zIQ:Alt:=⟨Unit,(.exit 0),fun t=>zZB BA BB o,fun t=>[],fun t Z=>q4 Z⟩
def zZD:Prop:=yR Pg (zX Pg) none yNS 20 (zKZ BA BB o aC) [] [gplus_a1n BA BB o Nx,zIQ BA BB o Q0] Z
def yNT:Prop:=xD Pg (zX Pg) none yNS 20 (zKZ BA BB o aC) [] [zIQ BA BB o Q0] Z
def zZC:Prop:=kZ (zX Pg) (zU Pg 102) [1,0,1,0] (kFn Pg 102 Q) (.exit 0) 20 (zZB BA BB o) Z
noncomputable def zZV:Code:=(Code.part [1,0,1,0,0] (zU Pg 119))
def zBV:lNa:=[(0,.slice s1 dg dJ),(1,.slice s2 dz dL),(9,.slice s1 dg dJ),(10,iV (dg:Int)),(11,iV aB)]
def yOT:Alt:=⟨Int,.normal,fun t=>zBV s1 dg dJ s2 dz dL t,fun t=>[],fun t Z=>q0 t Z⟩
def zQZ (s1:oAa) (dg dJ:Nat) (s2:oAa) (dz dL:Nat) (bt:Int):lNa:=[(4,iV bt)]
def zDC:Alt:=⟨Int,.ret,fun t=>zQZ s1 dg dJ s2 dz dL t,fun t=>[],fun t Z=>q0 t Z⟩
def zRA:lNa:=[(0,.slice s1 dg dJ),(1,.slice s2 dz dL)]
def zDD:Alt:=⟨Unit,(.exit 0),fun t=>zRA s1 dg dJ s2 dz dL,fun t=>[],fun t Z=>q4 Z⟩
def zIZ:Prop:=yR Pg (zX Pg) none zZV 36 (zBV s1 dg dJ s2 dz dL aB) [] [yOT s1 dg dJ s2 dz dL Nx,zDC s1 dg dJ s2 dz dL Qr,zDD s1 dg dJ s2 dz dL Q0] Z
def zZW:Prop:=xD Pg (zX Pg) none zZV 36 (zBV s1 dg dJ s2 dz dL aB) [] [zDC s1 dg dJ s2 dz dL Qr,zDD s1 dg dJ s2 dz dL Q0] Z
def zRB:Prop:=kZ (zX Pg) (zU Pg 119) [1,0,1,0] (kFn Pg 119 Q) .ret 36 (zQZ s1 dg dJ s2 dz dL bt) Z
def zRC:Prop:=kZ (zX Pg) (zU Pg 119) [1,0,1,0] (kFn Pg 119 Q) (.exit 0) 36 (zRA s1 dg dJ s2 dz dL) Z
noncomputable def yOO:Code:=(Code.part [1,1,0,1,0,0] (zU Pg 104))
def zHA:lNa:=[(0,.slice slices aR a7),(3,iV aS),(9,.slice slices aR a7),(10,iV (aR:Int)),(11,iV aB)]
def concI_a1n:Alt:=⟨Int × Int,.normal,fun t=>zHA slices aR a7 t.1 t.2,fun t=>[],fun t Z=>q7 t.1 t.2 Z⟩
def zZQ:lNa:=[(0,.slice slices aR a7),(3,iV aS)]
def zIY:Alt:=⟨Int,(.exit 0),fun t=>zZQ slices aR a7 t,fun t=>[],fun t Z=>q0 t Z⟩
def zZU:Prop:=yR Pg (zX Pg) none yOO 36 (zHA slices aR a7 aS aB) [] [concI_a1n slices aR a7 q8,zIY slices aR a7 q9] Z
def yOQ:Prop:=xD Pg (zX Pg) none yOO 36 (zHA slices aR a7 aS aB) [] [zIY slices aR a7 q9] Z
def zZS:Prop:=kZ (zX Pg) (zU Pg 104) [1,1,0,1,0] (kFn Pg 104 Q) (.exit 0) 36 (zZQ slices aR a7 aS) Z
noncomputable def yON:Code:=(Code.part [1,1,1,1,0,1,0,0] (zU Pg 104))
def zGZ:lNa:=[(6,.slice eI eK eM),(25,.slice slices aR a7),(26,iV (aR:Int)),(27,iV dV)]
def concI_a2n:Alt:=⟨(Option Addr) × Nat × Nat × Int,.normal,fun t=>zGZ slices aR a7 t.1 t.2.1 t.2.2.1 t.2.2.2,fun t=>[],fun t Z=>qB t.1 t.2.1 t.2.2.1 t.2.2.2 Z⟩
def zZP (slices:oAa) (aR a7:Nat) (eI:oAa) (eK eM:Nat):lNa:=[(6,.slice eI eK eM)]
def zIX:Alt:=⟨(Option Addr) × Nat × Nat,(.exit 2),fun t=>zZP slices aR a7 t.1 t.2.1 t.2.2,fun t=>[],fun t Z=>qC t.1 t.2.1 t.2.2 Z⟩
def zZT:Prop:=yR Pg (zX Pg) none yON 36 (zGZ slices aR a7 eI eK eM dV) [] [concI_a2n slices aR a7 qD,zIX slices aR a7 Q2] Z
def yOP:Prop:=xD Pg (zX Pg) none yON 36 (zGZ slices aR a7 eI eK eM dV) [] [zIX slices aR a7 Q2] Z
def zZR:Prop:=kZ (zX Pg) (zU Pg 104) [1,1,1,1,0,1,0] (kFn Pg 104 Q) (.exit 2) 36 (zZP slices aR a7 eI eK eM) Z
end
variable {BA BB l1 c1 l2 c2 dg dJ dz dL aR a7 lF cF eK eM lI cI lA cA lK cN s_l s_c l3 c3 l5 c5 l6 c6:Nat} {o g_0 cs1838 cs1840:lVa} {aC nF nG n3 aB nD bt x y aS dV n n1 n2:Int} {ZTB Z ZE ZUB Z4:St} {Q:vPa} {q1 q2 s1 s2 slices qE eI qG qA qM s q3 q5 q6:oAa} {Qr Pr:Int->St->Prop} {s1_a s2_a fq:Addr} {Q2 P2:(Option Addr)->Nat->Nat->St->Prop}
theorem yNR {Inv:Nat->Int->St->Prop} {Q0:St->Prop} (hb:∀ k aC Z,Inv k aC Z->zZD BA BB o aC Z (fun i8_1' Z'=>∃ k',k' < k/\Inv k' i8_1' Z') Q0):∀ k aC Z,Inv k aC Z->yNT BA BB o aC Z Q0 :=
 fun k aC Z h=>zY (alts:=[zIQ BA BB o Q0]) (T:=Int) (lf:=fun t=>zKZ BA BB o t) (mf:=fun t=>[]) (Inv:=fun k t Z=>Inv k t Z) (ai (xZ 0) trivial) (fun k t Z h=>hb k t Z h) k aC Z h
theorem gplus_s1a {Nx:Int->St->Prop} {Q0:St->Prop} (h1:zAD Pg 98 (qf o) (iV aC)=some (iV nF)) (h2:lz Z 3 ⟨BA,0+Int.toNat aC*1,none⟩ (iV nG)) (h3:zQ Pg (evL [pt BA (0+Int.toNat aC*1),iV (nG+nF)]) Z (.store 3 (.tmp 0) (.tmp 1))=some (undef,ZTB)) (nx:Nx (aC+1) ZTB) (u1:aC<6:=by omega) (u2:Ix aC 6:=by omega) (u3:I6 (nG+nF):=by omega) (u4:I6 (aC+1):=by omega):zZD BA BB o aC Z Nx Q0 :=
 kO 0 (aC+1) [.b true,.g,.v (iV nF),.g,.g,.g,.i,.l (iV nG),.g,.n (nG+nF),.i,.e undef ZTB,.n (aC+1),.g] (fun _ f=>(an2 (zR u1) h1 (an6 u2 h2 (w64 u3) u2 h3 (w64 u4) f))) nx
theorem gplus_s1b {Nx:Int->St->Prop} {Q0:St->Prop} (nx:Q0 Z) (u1:¬ aC<6:=by omega):zZD BA BB o aC Z Nx Q0 :=
 kO 1 () [.b false] (fun _ f=>(ai (zT u1) f)) nx
theorem gplus_ra {P0:St->Prop} (h1:lz (((Z.row g_0 1).row o 1).row (zH 0 0 0 0 0 0) 1) 98 ⟨(Z.next+1),0,none⟩ (qf o)) (hL:yNT Z.next (Z.next+2) o 0 (((Z.row g_0 1).row o 1).row (zH 0 0 0 0 0 0) 1) P0) (k0:∀ Z',P0 Z'->zZC Z.next (Z.next+2) o Z' Q):zO Pg 102 [qf g_0,qf o] Z Q :=
 let s1:=zKZ Z.next (Z.next+2) o 0;zG [.g,.g,.g,.l (qf o),.g,.lf 20 s1 [zIQ Z.next (Z.next+2) o P0]] (kd (ai h1 (ai (ai tt (ai (arf s1) hL)) (ai (kz0 k0) trivial))))
theorem yNQ (h1:lz Z 98 (qe BA 0) (qf cs1838)) (h2:zQ Pg (evL [pt BB 0,qf cs1838]) Z (.store 98 (.tmp 0) (.tmp 1))=some (undef,ZE)) (h3:lz ZE 98 (qe BB 0) (qf cs1840)) (nx:Q (qf cs1840) ZE):zZC BA BB o Z Q :=
 sK [.l (qf cs1838),.e undef ZE,.l (qf cs1840)] (an3 h1 h2 h3 nx)
theorem gmore_ra (h1:lz ((Z.row g_0 1).row o 1) 98 (qe Z.next 0) (qf g_0)) (h2:lz ((Z.row g_0 1).row o 1) 98 ⟨(Z.next+1),0,none⟩ (qf o)) (h3:zBX Pg .neq 98 (.tmp 5) (.tmp 6) (qf g_0) (qf o)=some (.bool true)) (h4:vQ Pg ((Z.row g_0 1).row o 1) 98 (pt Z.next 0) none none none=some (.slice q1 l1 c1)) (h5:vQ Pg ((Z.row g_0 1).row o 1) 98 (pt ((Z.next+1)) 0) none none none=some (.slice q2 l2 c2)) (h6:zD Pg 119 [.slice q1 l1 c1,.slice q2 l2 c2] ((Z.row g_0 1).row o 1) (iV n3) ((Z.row g_0 1).row o 1)) (nx:Q (.bool true) ((Z.row g_0 1).row o 1)) (u1:0<n3:=by omega):zO Pg 103 [qf g_0,qf o] Z Q :=
 zG [.g,.g,.g,.l (qf g_0),.l (qf o),.v (.bool true),.g,.v (.slice q1 l1 c1),.v (.slice q2 l2 c2),.c (iV n3) ((Z.row g_0 1).row o 1),.b true,.g,.g] (kd (ai h1 (an6 h2 h3 h4 h5 h6 (zR u1) nx)))
theorem gmore_rb (h1:lz ((Z.row g_0 1).row o 1) 98 (qe Z.next 0) (qf g_0)) (h2:lz ((Z.row g_0 1).row o 1) 98 ⟨(Z.next+1),0,none⟩ (qf o)) (h3:zBX Pg .neq 98 (.tmp 5) (.tmp 6) (qf g_0) (qf o)=some (.bool true)) (h4:vQ Pg ((Z.row g_0 1).row o 1) 98 (pt Z.next 0) none none none=some (.slice q1 l1 c1)) (h5:vQ Pg ((Z.row g_0 1).row o 1) 98 (pt ((Z.next+1)) 0) none none none=some (.slice q2 l2 c2)) (h6:zD Pg 119 [.slice q1 l1 c1,.slice q2 l2 c2] ((Z.row g_0 1).row o 1) (iV n3) ((Z.row g_0 1).row o 1)) (nx:Q (.bool false) ((Z.row g_0 1).row o 1)) (u1:¬ 0<n3:=by omega):zO Pg 103 [qf g_0,qf o] Z Q :=
 zG [.g,.g,.g,.l (qf g_0),.l (qf o),.v (.bool true),.g,.v (.slice q1 l1 c1),.v (.slice q2 l2 c2),.c (iV n3) ((Z.row g_0 1).row o 1),.b false,.g,.g] (kd (ai h1 (an6 h2 h3 h4 h5 h6 (zT u1) nx)))
theorem gmore_rc (h1:lz ((Z.row g_0 1).row o 1) 98 (qe Z.next 0) (qf g_0)) (h2:lz ((Z.row g_0 1).row o 1) 98 ⟨(Z.next+1),0,none⟩ (qf o)) (h3:zBX Pg .neq 98 (.tmp 5) (.tmp 6) (qf g_0) (qf o)=some (.bool false)) (nx:Q (.bool false) ((Z.row g_0 1).row o 1)):zO Pg 103 [qf g_0,qf o] Z Q :=
 zG [.g,.g,.g,.l (qf g_0),.l (qf o),.v (.bool false),.g,.g,.g] (kd (an3 h1 h2 h3 nx))
theorem yBP {Inv:Nat->Int->St->Prop} {Q0:St->Prop} (hb:∀ k aB Z,Inv k aB Z->zIZ s1 dg dJ s2 dz dL aB Z (fun i11_1' Z'=>∃ k',k' < k/\Inv k' i11_1' Z') Qr Q0):∀ k aB Z,Inv k aB Z->zZW s1 dg dJ s2 dz dL aB Z Qr Q0 :=
 fun k aB Z h=>zY (alts:=[zDC s1 dg dJ s2 dz dL Qr,zDD s1 dg dJ s2 dz dL Q0]) (T:=Int) (lf:=fun t=>zBV s1 dg dJ s2 dz dL t) (mf:=fun t=>[]) (Inv:=fun k t Z=>Inv k t Z) (ai zBD (ai (xZ 0) trivial)) (fun k t Z h=>hb k t Z h) k aB Z h
theorem zUL {Nx:Int->St->Prop} {Q0:St->Prop} (h1:lz Z 3 (zM s1_a (Int.toNat aB*1)) (iV nF)) (h2:lz Z 3 (zM s2_a (Int.toNat aB*1)) (iV nG)) (h3:zD Pg 129 [iV nF,iV nG] Z (iV nD) Z) (nx:Qr nD Z) (u1:aB<(dg:Int):=by omega) (u2:Ix aB dg:=by omega) (u3:¬ (dz:Int)<=aB:=by omega) (u4:Ix aB dz:=by omega) (u5:¬ nD=0:=by omega):zIZ (some s1_a) dg dJ (some s2_a) dz dL aB Z Nx Qr Q0 :=
 kO 1 nD [.b true,.g,.i,.l (iV nF),.g,.g,.g,.g,.g,.b false,.g,.g,.i,.l (iV nG),.g,.g,.g,.c (iV nD) Z,.g,.g,.b true,.g,.g] (fun _ f=>(an2 (zR u1) u2 (an6 h1 (yH u3) u4 h2 h3 (zFM u5) f))) nx
theorem yOS {Nx:Int->St->Prop} {Q0:St->Prop} (h1:lz Z 3 (zM s1_a (Int.toNat aB*1)) (iV nF)) (h2:lz Z 3 (zM s2_a (Int.toNat aB*1)) (iV nG)) (h3:zD Pg 129 [iV nF,iV nG] Z (iV nD) Z) (nx:Nx (aB+1) Z) (u1:aB<(dg:Int):=by omega) (u2:Ix aB dg:=by omega) (u3:¬ (dz:Int)<=aB:=by omega) (u4:Ix aB dz:=by omega) (u5:nD=0:=by omega) (u6:I6 (aB+1):=by omega):zIZ (some s1_a) dg dJ (some s2_a) dz dL aB Z Nx Qr Q0 :=
 kO 0 (aB+1) [.b true,.g,.i,.l (iV nF),.g,.g,.g,.g,.g,.b false,.g,.g,.i,.l (iV nG),.g,.g,.g,.c (iV nD) Z,.g,.g,.b false,.n (aB+1),.g] (fun _ f=>(an3 (zR u1) u2 h1 (an6 (yH u3) u4 h2 h3 (uA u5) (w64 u6) f))) nx
theorem yOR {Nx:Int->St->Prop} {Q0:St->Prop} (nx:Q0 Z) (u1:¬ aB<(dg:Int):=by omega):zIZ s1 dg dJ s2 dz dL aB Z Nx Qr Q0 :=
 kO 2 () [.b false] (fun _ f=>(ai (zT u1) f)) nx
theorem yVD {P0:St->Prop} (hL:zZW s1 dg dJ s2 dz dL 0 Z Pr P0) (kr:∀ i4_1' Z',Pr i4_1' Z'->zRB s1 dg dJ s2 dz dL i4_1' Z' Q) (k0:∀ Z',P0 Z'->zRC s1 dg dJ s2 dz dL Z' Q):zO Pg 119 [.slice s1 dg dJ,.slice s2 dz dL] Z Q :=
 zG [.g,.g,.g,.g,.lf 36 (zBV s1 dg dJ s2 dz dL 0) [zDC s1 dg dJ s2 dz dL Pr,zDD s1 dg dJ s2 dz dL P0]] (kd (ai (ai tt (ai (arf (zBV s1 dg dJ s2 dz dL 0)) hL)) (ai (kz1 kr) (ai (kz0 k0) trivial))))
theorem yBN (nx:Q (iV bt) Z):zRB s1 dg dJ s2 dz dL bt Z Q :=
 sK [] nx
theorem yBO (nx:Q (iV 0) Z) (u1:¬ (dg:Int)<(dz:Int):=by omega):zRC s1 dg dJ s2 dz dL Z Q :=
 sK [.g,.g,.g,.g,.b false,.g] (ai (zT u1) nx)
theorem cmpI_rd (h1:zD Pg 132 [iV x] Z (.bool false) Z) (h2:zD Pg 132 [iV y] Z (.bool false) Z) (nx:Q (iV (-1)) Z) (u1:x<y:=by omega):zO Pg 129 [iV x,iV y] Z Q :=
 zG [.g,.g,.c (.bool false) Z,.g,.g,.c (.bool false) Z,.g,.g,.g,.g,.g,.b true,.g] (kd (an3 h1 h2 (zR u1) nx))
theorem cmpI_re (h1:zD Pg 132 [iV x] Z (.bool false) Z) (h2:zD Pg 132 [iV y] Z (.bool false) Z) (nx:Q (iV 1) Z) (u1:¬ x<y:=by omega) (u2:y<x:=by omega):zO Pg 129 [iV x,iV y] Z Q :=
 zG [.g,.g,.c (.bool false) Z,.g,.g,.c (.bool false) Z,.g,.g,.g,.g,.g,.b false,.g,.g,.b true,.g] (kd (an4 h1 h2 (zT u1) (zR u2) nx))
theorem cmpI_rf (h1:zD Pg 132 [iV x] Z (.bool false) Z) (h2:zD Pg 132 [iV y] Z (.bool false) Z) (nx:Q (iV 0) Z) (u1:¬ x<y:=by omega) (u2:¬ y<x:=by omega):zO Pg 129 [iV x,iV y] Z Q :=
 zG [.g,.g,.c (.bool false) Z,.g,.g,.c (.bool false) Z,.g,.g,.g,.g,.g,.b false,.g,.g,.b false,.g] (kd (an4 h1 h2 (zT u1) (zT u2) nx))
theorem isNaN_rb (nx:Q (.bool false) Z) (u1:x=x:=by omega):zO Pg 132 [iV x] Z Q :=
 zG [.g,.g,.g,.b false,.g] (kd (ai (uA u1) nx))
theorem yOM {Inv:Nat->Int->Int->St->Prop} {Q0:Int->St->Prop} (hb:∀ k aS aB Z,Inv k aS aB Z->zZU slices aR a7 aS aB Z (fun i3_1' i11_1' Z'=>∃ k',k' < k/\Inv k' i3_1' i11_1' Z') Q0):∀ k aS aB Z,Inv k aS aB Z->yOQ slices aR a7 aS aB Z Q0 :=
 fun k aS aB Z h=>zY (alts:=[zIY slices aR a7 Q0]) (T:=Int × Int) (lf:=fun t=>zHA slices aR a7 t.1 t.2) (mf:=fun t=>[]) (Inv:=fun k t Z=>Inv k t.1 t.2 Z) (ai (xZ 0) trivial) (fun k t Z h=>hb k t.1 t.2 Z h) k (aS,aB) Z h
theorem concI_s1a {Nx:Int->Int->St->Prop} {Q0:Int->St->Prop} (h1:lz Z 26 (zM fq (Int.toNat aB*1)) (.slice qE lF cF)) (nx:Nx (aS+(lF:Int)) (aB+1) Z) (u1:aB<(aR:Int):=by omega) (u2:Ix aB aR:=by omega) (u3:I6 (aS+(lF:Int)):=by omega) (u4:¬ (aS+(lF:Int))<0:=by omega) (u5:I6 (aB+1):=by omega):zZU (some fq) aR a7 aS aB Z Nx Q0 :=
 kO 0 ((aS+(lF:Int)),aB+1) [.b true,.i,.l (.slice qE lF cF),.g,.g,.g,.g,.n (aS+(lF:Int)),.g,.g,.b false,.n (aB+1),.g] (fun _ f=>(an6 (zR u1) u2 h1 (w64 u3) (zT u4) (w64 u5) f)) nx
theorem concI_s1b {Nx:Int->Int->St->Prop} {Q0:Int->St->Prop} (nx:Q0 aS Z) (u1:¬ aB<(aR:Int):=by omega):zZU slices aR a7 aS aB Z Nx Q0 :=
 kO 1 aS [.b false] (fun _ f=>(ai (zT u1) f)) nx
theorem concI_ra {P0:Int->St->Prop} (hL:yOQ slices aR a7 0 0 Z P0) (k0:∀ i3_1' Z',P0 i3_1' Z'->zZS slices aR a7 i3_1' Z' Q):zO Pg 104 [.slice slices aR a7] Z Q :=
 zG [.g,.g,.g,.g,.g,.lf 36 (zHA slices aR a7 0 0) [zIY slices aR a7 P0]] (kd (ai (ai tt (ai (arf (zHA slices aR a7 0 0)) hL)) (ai (kz1 k0) trivial)))
theorem yOL {Inv:Nat->(Option Addr)->Nat->Nat->Int->St->Prop} (hb:∀ k eI eK eM dV Z,Inv k eI eK eM dV Z->zZT slices aR a7 eI eK eM dV Z (fun p6_2' l6_2' c6_2' i27_2' Z'=>∃ k',k' < k/\Inv k' p6_2' l6_2' c6_2' i27_2' Z') Q2):∀ k eI eK eM dV Z,Inv k eI eK eM dV Z->yOP slices aR a7 eI eK eM dV Z Q2 :=
 fun k eI eK eM dV Z h=>zY (alts:=[zIX slices aR a7 Q2]) (T:=(Option Addr) × Nat × Nat × Int) (lf:=fun t=>zGZ slices aR a7 t.1 t.2.1 t.2.2.1 t.2.2.2) (mf:=fun t=>[]) (Inv:=fun k t Z=>Inv k t.1 t.2.1 t.2.2.1 t.2.2.2 Z) (ai (xZ 2) trivial) (fun k t Z h=>hb k t.1 t.2.1 t.2.2.1 t.2.2.2 Z h) k (eI,eK,eM,dV) Z h
theorem concI_s2a {Nx:(Option Addr)->Nat->Nat->Int->St->Prop} (h1:lz Z 26 (zM fq (Int.toNat dV*1)) (.slice qG lI cI)) (h2:yN Pg 26 26 (.slice eI eK eM) (.slice qG lI cI) Z=some (.slice qA lA cA,ZUB)) (nx:Nx qA lA cA (dV+1) ZUB) (u1:dV<(aR:Int):=by omega) (u2:Ix dV aR:=by omega) (u3:I6 (dV+1):=by omega):zZT (some fq) aR a7 eI eK eM dV Z Nx Q2 :=
 kO 0 (qA,lA,cA,dV+1) [.b true,.i,.l (.slice qG lI cI),.g,.g,.g,.e (.slice qA lA cA) ZUB,.g,.n (dV+1),.g] (fun _ f=>(an5 (zR u1) u2 h1 h2 (w64 u3) f)) nx
theorem concI_s2b {Nx:(Option Addr)->Nat->Nat->Int->St->Prop} (nx:Q2 eI eK eM Z) (u1:¬ dV<(aR:Int):=by omega):zZT slices aR a7 eI eK eM dV Z Nx Q2 :=
 kO 1 (eI,eK,eM) [.b false] (fun _ f=>(ai (zT u1) f)) nx
theorem yOK (h1:zD Pg 120 [.slice none 0 0,iV aS] Z (.slice qM lK cN) ZE) (hL:yOP slices aR a7 qM lK cN 0 ZE P2) (k2:∀ p6_2' l6_2' c6_2' Z',P2 p6_2' l6_2' c6_2' Z'->zZR slices aR a7 p6_2' l6_2' c6_2' Z' Q):zZS slices aR a7 aS Z Q :=
 sK [.g,.c (.slice qM lK cN) ZE,.g,.g,.g,.g,.lf 36 (zGZ slices aR a7 qM lK cN 0) [zIX slices aR a7 P2]] (ai h1 (ai (ai tt (ai (arf (zGZ slices aR a7 qM lK cN 0)) hL)) (ai (kz3 k2) trivial)))
theorem yOJ (nx:Q (.slice eI eK eM) Z):zZR slices aR a7 eI eK eM Z Q :=
 sK [.g,.g] nx
theorem growI_ra (h1:xL Pg (evL [.slice s s_l s_c]) Z (.call { callee:=.builtin .cap,args:=⟨wU 1⟩,argTypes:=⟨[26]⟩ })=some (iV n1)) (h2:xL Pg (evL [.slice s s_l s_c]) Z (.call { callee:=.builtin .cap,args:=⟨wU 1⟩,argTypes:=⟨[26]⟩ })=some (iV n2)) (h3:vQ Pg Z 26 (.slice s s_l s_c) none (some (iV n2)) none=some (.slice q3 l3 c3)) (h4:yN Pg 26 3 (.slice q3 l3 c3) (iV (n-(n1-(s_l:Int)))) Z=some (.slice q5 l5 c5,Z4)) (h5:vQ Pg Z4 26 (.slice q5 l5 c5) none (some (iV (s_l:Int))) none=some (.slice q6 l6 c6)) (nx:Q (.slice q6 l6 c6) Z4) (u1:¬ n<0:=by omega) (u2:I6 (n1-(s_l:Int)):=by omega) (u3:I6 (n-(n1-(s_l:Int))):=by omega) (u4:0<(n-(n1-(s_l:Int))):=by omega):zO Pg 120 [.slice s s_l s_c,iV n] Z Q :=
 zG [.g,.g,.b false,.g,.g,.v (iV n1),.g,.g,.n (n1-(s_l:Int)),.n (n-(n1-(s_l:Int))),.g,.g,.b true,.g,.g,.v (iV n2),.v (.slice q3 l3 c3),.g,.e (.slice q5 l5 c5) Z4,.g,.g,.v (.slice q6 l6 c6),.g,.g,.g] (kd (an3 (zT u1) h1 (w64 u2) (an6 (w64 u3) (zR u4) h2 h3 h4 h5 nx)))
theorem growI_rb (h1:xL Pg (evL [.slice s s_l s_c]) Z (.call { callee:=.builtin .cap,args:=⟨wU 1⟩,argTypes:=⟨[26]⟩ })=some (iV n1)) (nx:Q (.slice s s_l s_c) Z) (u1:¬ n<0:=by omega) (u2:I6 (n1-(s_l:Int)):=by omega) (u3:I6 (n-(n1-(s_l:Int))):=by omega) (u4:¬ 0<(n-(n1-(s_l:Int))):=by omega):zO Pg 120 [.slice s s_l s_c,iV n] Z Q :=
 zG [.g,.g,.b false,.g,.g,.v (iV n1),.g,.g,.n (n1-(s_l:Int)),.n (n-(n1-(s_l:Int))),.g,.g,.b false,.g,.g] (kd (an5 (zT u1) h1 (w64 u2) (w64 u3) (zT u4) nx))
end Go.Proofs.YtgfiniccfpfplaaGreat
