
import Derived.Test.YtgfiniccfpfplaaGreatTy
namespace Go.Proofs.YtgfiniccfpfplaaGreat
open Go Go.Lay
open Tryz renaming prog -> Pg
set_option linter.unusedVariables false
set_option maxRecDepth 20000
section
variable (l roster:oAa) (l_l aF l_c aL:Nat) (low n aS high ce bt bH aB:Int) (q4:Int->Int->St->Prop) (t4_1 t6_1:Bool) (q0:Int->St->Prop) (q3:St->Prop) (q1:Bool->St->Prop) (Z:St) (q5:Int->Int->St->Prop) (Q:vPa) (Nx q6:Int->St->Prop) (Qr:Bool->St->Prop) (Q0:St->Prop)
noncomputable def yXS:Code:=(Code.part [1,0,1,0,0] (zU Pg 43))
def zMB:lNa:=[(0,.slice l l_l l_c),(1,iV n),(5,iV ce)]
def rHas_a1n:Alt:=⟨Int,.normal,fun t=>zMB l l_l l_c n t,fun t=>[],fun t Z=>q0 t Z⟩
def yCK (l:oAa) (l_l l_c:Nat) (n:Int) (t4_1:Bool):lNa:=[(4,.bool t4_1)]
def zMC:Alt:=⟨Bool,.ret,fun t=>yCK l l_l l_c n t,fun t=>[],fun t Z=>q1 t Z⟩
def yCL (l:oAa) (l_l l_c:Nat) (n:Int):lNa:=[]
def zMD:Alt:=⟨Unit,(.exit 0),fun t=>yCL l l_l l_c n,fun t=>[],fun t Z=>q3 Z⟩
def zVN:Prop:=yR Pg (zX Pg) none yXS 18 (zMB l l_l l_c n ce) [] [rHas_a1n l l_l l_c n Nx,zMC l l_l l_c n Qr,zMD l l_l l_c n Q0] Z
def yXT:Prop:=xD Pg (zX Pg) none yXS 18 (zMB l l_l l_c n ce) [] [zMC l l_l l_c n Qr,zMD l l_l l_c n Q0] Z
def yCM:Prop:=kZ (zX Pg) (zU Pg 43) [1,0,1,0] (kFn Pg 43 Q) .ret 18 (yCK l l_l l_c n t4_1) Z
def yCN:Prop:=kZ (zX Pg) (zU Pg 43) [1,0,1,0] (kFn Pg 43 Q) (.exit 0) 18 (yCL l l_l l_c n) Z
noncomputable def yCI:Code:=(Code.part [1,0,1,0,0] (zU Pg 42))
def zDG:lNa:=[(0,.slice l l_l l_c),(1,iV low),(2,iV high),(7,iV bH)]
def yRN:Alt:=⟨Int,.normal,fun t=>zDG l l_l l_c low high t,fun t=>[],fun t Z=>q0 t Z⟩
def zTI (l:oAa) (l_l l_c:Nat) (low high:Int) (t6_1:Bool):lNa:=[(6,.bool t6_1)]
def zFD:Alt:=⟨Bool,.ret,fun t=>zTI l l_l l_c low high t,fun t=>[],fun t Z=>q1 t Z⟩
def zTJ (l:oAa) (l_l l_c:Nat) (low high:Int):lNa:=[]
def zFE:Alt:=⟨Unit,(.exit 0),fun t=>zTJ l l_l l_c low high,fun t=>[],fun t Z=>q3 Z⟩
def zDH:Prop:=yR Pg (zX Pg) none yCI 38 (zDG l l_l l_c low high bH) [] [yRN l l_l l_c low high Nx,zFD l l_l l_c low high Qr,zFE l l_l l_c low high Q0] Z
def yCJ:Prop:=xD Pg (zX Pg) none yCI 38 (zDG l l_l l_c low high bH) [] [zFD l l_l l_c low high Qr,zFE l l_l l_c low high Q0] Z
def zTK:Prop:=kZ (zX Pg) (zU Pg 42) [1,0,1,0] (kFn Pg 42 Q) .ret 38 (zTI l l_l l_c low high t6_1) Z
def zTL:Prop:=kZ (zX Pg) (zU Pg 42) [1,0,1,0] (kFn Pg 42 Q) (.exit 0) 38 (zTJ l l_l l_c low high) Z
noncomputable def yKX:Code:=(Code.part [1,0,1,0,0] (zU Pg 71))
def zGL:lNa:=[(0,.slice l l_l l_c),(1,iV low),(2,iV high),(9,.slice l l_l l_c),(10,iV (l_l:Int)),(11,iV aB)]
def rises_a1n:Alt:=⟨Int,.normal,fun t=>zGL l l_l l_c low high t,fun t=>[],fun t Z=>q0 t Z⟩
def zXB (l:oAa) (l_l l_c:Nat) (low high:Int) (t6_1:Bool):lNa:=[(6,.bool t6_1)]
def zHV:Alt:=⟨Bool,.ret,fun t=>zXB l l_l l_c low high t,fun t=>[],fun t Z=>q1 t Z⟩
def zXC (l:oAa) (l_l l_c:Nat) (low high:Int):lNa:=[]
def zHW:Alt:=⟨Unit,(.exit 0),fun t=>zXC l l_l l_c low high,fun t=>[],fun t Z=>q3 Z⟩
def zGM:Prop:=yR Pg (zX Pg) none yKX 35 (zGL l l_l l_c low high aB) [] [rises_a1n l l_l l_c low high Nx,zHV l l_l l_c low high Qr,zHW l l_l l_c low high Q0] Z
def yKY:Prop:=xD Pg (zX Pg) none yKX 35 (zGL l l_l l_c low high aB) [] [zHV l l_l l_c low high Qr,zHW l l_l l_c low high Q0] Z
def zXD:Prop:=kZ (zX Pg) (zU Pg 71) [1,0,1,0] (kFn Pg 71 Q) .ret 35 (zXB l l_l l_c low high t6_1) Z
def zXE:Prop:=kZ (zX Pg) (zU Pg 71) [1,0,1,0] (kFn Pg 71 Q) (.exit 0) 35 (zXC l l_l l_c low high) Z
noncomputable def zXK:Code:=(Code.part [1,1,0,1,0,0] (zU Pg 27))
def zBL:lNa:=[(0,.slice roster aF aL),(3,iV aS),(4,iV bt)]
def yLH:Alt:=⟨Int × Int,.normal,fun t=>zBL roster aF aL t.1 t.2,fun t=>[],fun t Z=>q4 t.1 t.2 Z⟩
def zQG (roster:oAa) (aF aL:Nat) (aS:Int):lNa:=[(3,iV aS)]
def zCZ:Alt:=⟨Int,(.exit 0),fun t=>zQG roster aF aL t,fun t=>[],fun t Z=>q0 t Z⟩
def zHY:Prop:=yR Pg (zX Pg) none zXK 19 (zBL roster aF aL aS bt) [] [yLH roster aF aL q5,zCZ roster aF aL q6] Z
def zXL:Prop:=xD Pg (zX Pg) none zXK 19 (zBL roster aF aL aS bt) [] [zCZ roster aF aL q6] Z
def zQH:Prop:=kZ (zX Pg) (zU Pg 27) [1,1,0,1,0] (kFn Pg 27 Q) (.exit 0) 19 (zQG roster aF aL aS) Z
end
variable {n low high ce nF bH nD aB aS bt:Int} {Z Z1:St} {Q:vPa} {l roster q2:oAa} {l_l l_c aF aL l2 c2:Nat} {Qr Pr:Bool->St->Prop} {l_a ew:Addr} {t4_1 t6_1:Bool}
theorem within_ra (nx:Q (.bool true) Z) (u1:low<=n:=by omega) (u2:n<=high:=by omega):zO Pg 47 [iV n,iV low,iV high] Z Q :=
 zG [.g,.g,.g,.b true,.g,.g,.g,.b true,.g,.g] (kd (an2 (yE u1) (yE u2) nx))
theorem within_rb (nx:Q (.bool false) Z) (u1:low<=n:=by omega) (u2:¬ n<=high:=by omega):zO Pg 47 [iV n,iV low,iV high] Z Q :=
 zG [.g,.g,.g,.b true,.g,.g,.g,.b false,.g,.g] (kd (an2 (yE u1) (yH u2) nx))
theorem yBX (nx:Q (.bool false) Z) (u1:¬ low<=n:=by omega):zO Pg 47 [iV n,iV low,iV high] Z Q :=
 zG [.g,.g,.g,.b false,.g,.g,.g] (kd (ai (yH u1) nx))
theorem rIn_ra (nx:Q (.bool true) Z) (u1:low<=n:=by omega) (u2:n<=high:=by omega):zO Pg 33 [iV n,iV low,iV high] Z Q :=
 zG [.g,.g,.g,.b true,.g,.g,.g,.b true,.g,.g] (kd (an2 (yE u1) (yE u2) nx))
theorem rIn_rb (nx:Q (.bool false) Z) (u1:low<=n:=by omega) (u2:¬ n<=high:=by omega):zO Pg 33 [iV n,iV low,iV high] Z Q :=
 zG [.g,.g,.g,.b true,.g,.g,.g,.b false,.g,.g] (kd (an2 (yE u1) (yH u2) nx))
theorem rIn_rc (nx:Q (.bool false) Z) (u1:¬ low<=n:=by omega):zO Pg 33 [iV n,iV low,iV high] Z Q :=
 zG [.g,.g,.g,.b false,.g,.g,.g] (kd (ai (yH u1) nx))
theorem yRQ {Inv:Nat->Int->St->Prop} {Q0:St->Prop} (hb:∀ k ce Z,Inv k ce Z->zVN l l_l l_c n ce Z (fun i5_1' Z'=>∃ k',k' < k/\Inv k' i5_1' Z') Qr Q0):∀ k ce Z,Inv k ce Z->yXT l l_l l_c n ce Z Qr Q0 :=
 fun k ce Z h=>zY (alts:=[zMC l l_l l_c n Qr,zMD l l_l l_c n Q0]) (T:=Int) (lf:=fun t=>zMB l l_l l_c n t) (mf:=fun t=>[]) (Inv:=fun k t Z=>Inv k t Z) (ai zBD (ai (xZ 0) trivial)) (fun k t Z h=>hb k t Z h) k ce Z h
theorem rHas_s1a {Nx:Int->St->Prop} {Q0:St->Prop} (h1:lz Z 3 (zM l_a (Int.toNat ce*1)) (iV nF)) (nx:Qr true Z) (u1:ce<(l_l:Int):=by omega) (u2:Ix ce l_l:=by omega) (u3:nF=n:=by omega):zVN (some l_a) l_l l_c n ce Z Nx Qr Q0 :=
 kO 1 true [.g,.g,.g,.b true,.g,.g,.i,.l (iV nF),.g,.b true,.g] (fun _ f=>(an4 (zR u1) u2 h1 (xI u3) f)) nx
theorem rHas_s1b {Nx:Int->St->Prop} {Q0:St->Prop} (h1:lz Z 3 (zM l_a (Int.toNat ce*1)) (iV nF)) (nx:Nx (ce+1) Z) (u1:ce<(l_l:Int):=by omega) (u2:Ix ce l_l:=by omega) (u3:¬ nF=n:=by omega) (u4:I6 (ce+1):=by omega):zVN (some l_a) l_l l_c n ce Z Nx Qr Q0 :=
 kO 0 (ce+1) [.g,.g,.g,.b true,.g,.g,.i,.l (iV nF),.g,.b false,.g,.n (ce+1),.g] (fun _ f=>(an5 (zR u1) u2 h1 (xG u3) (w64 u4) f)) nx
theorem rHas_s1c {Nx:Int->St->Prop} {Q0:St->Prop} (nx:Q0 Z) (u1:¬ ce<(l_l:Int):=by omega):zVN l l_l l_c n ce Z Nx Qr Q0 :=
 kO 2 () [.g,.g,.g,.b false] (fun _ f=>(ai (zT u1) f)) nx
theorem rHas_ra {P0:St->Prop} (hL:yXT l l_l l_c n 0 Z Pr P0) (kr:∀ t4_1' Z',Pr t4_1' Z'->yCM l l_l l_c n t4_1' Z' Q) (k0:∀ Z',P0 Z'->yCN l l_l l_c n Z' Q):zO Pg 43 [.slice l l_l l_c,iV n] Z Q :=
 zG [.g,.g,.lf 18 (zMB l l_l l_c n 0) [zMC l l_l l_c n Pr,zMD l l_l l_c n P0]] (kd (ai (ai tt (ai (arf (zMB l l_l l_c n 0)) hL)) (ai (kz1 kr) (ai (kz0 k0) trivial))))
theorem yRO (nx:Q (.bool t4_1) Z):yCM l l_l l_c n t4_1 Z Q :=
 sK [] nx
theorem yRP (nx:Q (.bool false) Z):yCN l l_l l_c n Z Q :=
 sK [.g] nx
theorem yGQ {Inv:Nat->Int->St->Prop} {Q0:St->Prop} (hb:∀ k bH Z,Inv k bH Z->zDH l l_l l_c low high bH Z (fun i7_1' Z'=>∃ k',k' < k/\Inv k' i7_1' Z') Qr Q0):∀ k bH Z,Inv k bH Z->yCJ l l_l l_c low high bH Z Qr Q0 :=
 fun k bH Z h=>zY (alts:=[zFD l l_l l_c low high Qr,zFE l l_l l_c low high Q0]) (T:=Int) (lf:=fun t=>zDG l l_l l_c low high t) (mf:=fun t=>[]) (Inv:=fun k t Z=>Inv k t Z) (ai zBD (ai (xZ 0) trivial)) (fun k t Z h=>hb k t Z h) k bH Z h
theorem yRM {Nx:Int->St->Prop} {Q0:St->Prop} (h1:lz Z 3 (zM l_a (Int.toNat bH*1)) (iV nF)) (h2:zD Pg 33 [iV nF,iV low,iV high] Z (.bool true) Z) (h3:lz Z 3 (zM l_a (Int.toNat (bH-1)*1)) (iV nD)) (nx:Qr false Z) (u1:bH<(l_l:Int):=by omega) (u2:Ix bH l_l:=by omega) (u3:0<bH:=by omega) (u4:I6 (bH-1):=by omega) (u5:Ix (bH-1) l_l:=by omega) (u6:nF<=nD:=by omega):zDH (some l_a) l_l l_c low high bH Z Nx Qr Q0 :=
 kO 1 false [.g,.g,.g,.b true,.g,.g,.i,.l (iV nF),.g,.g,.c (.bool true) Z,.g,.g,.g,.b true,.g,.g,.g,.i,.l (iV nF),.g,.g,.n (bH-1),.i,.l (iV nD),.b true,.g,.g,.g] (fun _ f=>(an5 (zR u1) u2 h1 h2 (zR u3) (an6 u2 h1 (w64 u4) u5 h3 (yE u6) f))) nx
theorem yRL {Nx:Int->St->Prop} {Q0:St->Prop} (h1:lz Z 3 (zM l_a (Int.toNat bH*1)) (iV nF)) (h2:zD Pg 33 [iV nF,iV low,iV high] Z (.bool true) Z) (h3:lz Z 3 (zM l_a (Int.toNat (bH-1)*1)) (iV nD)) (nx:Nx (bH+1) Z) (u1:bH<(l_l:Int):=by omega) (u2:Ix bH l_l:=by omega) (u3:0<bH:=by omega) (u4:I6 (bH-1):=by omega) (u5:Ix (bH-1) l_l:=by omega) (u6:¬ nF<=nD:=by omega) (u7:I6 (bH+1):=by omega):zDH (some l_a) l_l l_c low high bH Z Nx Qr Q0 :=
 kO 0 (bH+1) [.g,.g,.g,.b true,.g,.g,.i,.l (iV nF),.g,.g,.c (.bool true) Z,.g,.g,.g,.b true,.g,.g,.g,.i,.l (iV nF),.g,.g,.n (bH-1),.i,.l (iV nD),.b false,.g,.g,.g,.n (bH+1),.g] (fun _ f=>(an6 (zR u1) u2 h1 h2 (zR u3) u2 (an6 h1 (w64 u4) u5 h3 (yH u6) (w64 u7) f))) nx
theorem yRK {Nx:Int->St->Prop} {Q0:St->Prop} (h1:lz Z 3 (zM l_a (Int.toNat bH*1)) (iV nF)) (h2:zD Pg 33 [iV nF,iV low,iV high] Z (.bool true) Z) (nx:Nx (bH+1) Z) (u1:bH<(l_l:Int):=by omega) (u2:Ix bH l_l:=by omega) (u3:¬ 0<bH:=by omega) (u4:I6 (bH+1):=by omega):zDH (some l_a) l_l l_c low high bH Z Nx Qr Q0 :=
 kO 0 (bH+1) [.g,.g,.g,.b true,.g,.g,.i,.l (iV nF),.g,.g,.c (.bool true) Z,.g,.g,.g,.b false,.g,.g,.g,.g,.n (bH+1),.g] (fun _ f=>(an6 (zR u1) u2 h1 h2 (zT u3) (w64 u4) f)) nx
theorem yRJ {Nx:Int->St->Prop} {Q0:St->Prop} (h1:lz Z 3 (zM l_a (Int.toNat bH*1)) (iV nF)) (h2:zD Pg 33 [iV nF,iV low,iV high] Z (.bool false) Z) (nx:Qr false Z) (u1:bH<(l_l:Int):=by omega) (u2:Ix bH l_l:=by omega):zDH (some l_a) l_l l_c low high bH Z Nx Qr Q0 :=
 kO 1 false [.g,.g,.g,.b true,.g,.g,.i,.l (iV nF),.g,.g,.c (.bool false) Z,.g,.g,.g,.g] (fun _ f=>(an4 (zR u1) u2 h1 h2 f)) nx
theorem yRI {Nx:Int->St->Prop} {Q0:St->Prop} (nx:Q0 Z) (u1:¬ bH<(l_l:Int):=by omega):zDH l l_l l_c low high bH Z Nx Qr Q0 :=
 kO 2 () [.g,.g,.g,.b false] (fun _ f=>(ai (zT u1) f)) nx
theorem rRises_ra {P0:St->Prop} (hL:yCJ l l_l l_c low high 0 Z Pr P0) (kr:∀ t6_1' Z',Pr t6_1' Z'->zTK l l_l l_c low high t6_1' Z' Q) (k0:∀ Z',P0 Z'->zTL l l_l l_c low high Z' Q):zO Pg 42 [.slice l l_l l_c,iV low,iV high] Z Q :=
 zG [.g,.g,.lf 38 (zDG l l_l l_c low high 0) [zFD l l_l l_c low high Pr,zFE l l_l l_c low high P0]] (kd (ai (ai tt (ai (arf (zDG l l_l l_c low high 0)) hL)) (ai (kz1 kr) (ai (kz0 k0) trivial))))
theorem yGO (nx:Q (.bool t6_1) Z):zTK l l_l l_c low high t6_1 Z Q :=
 sK [] nx
theorem yGP (nx:Q (.bool true) Z):zTL l l_l l_c low high Z Q :=
 sK [.g] nx
theorem yKW {Inv:Nat->Int->St->Prop} {Q0:St->Prop} (hb:∀ k aB Z,Inv k aB Z->zGM l l_l l_c low high aB Z (fun i11_1' Z'=>∃ k',k' < k/\Inv k' i11_1' Z') Qr Q0):∀ k aB Z,Inv k aB Z->yKY l l_l l_c low high aB Z Qr Q0 :=
 fun k aB Z h=>zY (alts:=[zHV l l_l l_c low high Qr,zHW l l_l l_c low high Q0]) (T:=Int) (lf:=fun t=>zGL l l_l l_c low high t) (mf:=fun t=>[]) (Inv:=fun k t Z=>Inv k t Z) (ai zBD (ai (xZ 0) trivial)) (fun k t Z h=>hb k t Z h) k aB Z h
theorem rises_s1a {Nx:Int->St->Prop} {Q0:St->Prop} (h1:lz Z 3 (zM l_a (Int.toNat aB*1)) (iV nF)) (h2:zD Pg 47 [iV nF,iV low,iV high] Z (.bool true) Z) (h3:lz Z 3 (zM l_a (Int.toNat (aB-1)*1)) (iV nD)) (nx:Qr false Z) (u1:aB<(l_l:Int):=by omega) (u2:Ix aB l_l:=by omega) (u3:0<aB:=by omega) (u4:I6 (aB-1):=by omega) (u5:Ix (aB-1) l_l:=by omega) (u6:nF<=nD:=by omega):zGM (some l_a) l_l l_c low high aB Z Nx Qr Q0 :=
 kO 1 false [.b true,.g,.i,.l (iV nF),.g,.g,.g,.g,.g,.c (.bool true) Z,.g,.g,.g,.b true,.g,.g,.g,.g,.n (aB-1),.i,.l (iV nD),.b true,.g,.g,.g] (fun _ f=>(an3 (zR u1) u2 h1 (an6 h2 (zR u3) (w64 u4) u5 h3 (yE u6) f))) nx
theorem rises_s1b {Nx:Int->St->Prop} {Q0:St->Prop} (h1:lz Z 3 (zM l_a (Int.toNat aB*1)) (iV nF)) (h2:zD Pg 47 [iV nF,iV low,iV high] Z (.bool true) Z) (h3:lz Z 3 (zM l_a (Int.toNat (aB-1)*1)) (iV nD)) (nx:Nx (aB+1) Z) (u1:aB<(l_l:Int):=by omega) (u2:Ix aB l_l:=by omega) (u3:0<aB:=by omega) (u4:I6 (aB-1):=by omega) (u5:Ix (aB-1) l_l:=by omega) (u6:¬ nF<=nD:=by omega) (u7:I6 (aB+1):=by omega):zGM (some l_a) l_l l_c low high aB Z Nx Qr Q0 :=
 kO 0 (aB+1) [.b true,.g,.i,.l (iV nF),.g,.g,.g,.g,.g,.c (.bool true) Z,.g,.g,.g,.b true,.g,.g,.g,.g,.n (aB-1),.i,.l (iV nD),.b false,.g,.g,.n (aB+1),.g] (fun _ f=>(an4 (zR u1) u2 h1 h2 (an6 (zR u3) (w64 u4) u5 h3 (yH u6) (w64 u7) f))) nx
theorem rises_s1c {Nx:Int->St->Prop} {Q0:St->Prop} (h1:lz Z 3 (zM l_a (Int.toNat aB*1)) (iV nF)) (h2:zD Pg 47 [iV nF,iV low,iV high] Z (.bool true) Z) (nx:Nx (aB+1) Z) (u1:aB<(l_l:Int):=by omega) (u2:Ix aB l_l:=by omega) (u3:¬ 0<aB:=by omega) (u4:I6 (aB+1):=by omega):zGM (some l_a) l_l l_c low high aB Z Nx Qr Q0 :=
 kO 0 (aB+1) [.b true,.g,.i,.l (iV nF),.g,.g,.g,.g,.g,.c (.bool true) Z,.g,.g,.g,.b false,.g,.g,.g,.n (aB+1),.g] (fun _ f=>(an6 (zR u1) u2 h1 h2 (zT u3) (w64 u4) f)) nx
theorem rises_s1d {Nx:Int->St->Prop} {Q0:St->Prop} (h1:lz Z 3 (zM l_a (Int.toNat aB*1)) (iV nF)) (h2:zD Pg 47 [iV nF,iV low,iV high] Z (.bool false) Z) (nx:Qr false Z) (u1:aB<(l_l:Int):=by omega) (u2:Ix aB l_l:=by omega):zGM (some l_a) l_l l_c low high aB Z Nx Qr Q0 :=
 kO 1 false [.b true,.g,.i,.l (iV nF),.g,.g,.g,.g,.g,.c (.bool false) Z,.g,.g,.g,.g] (fun _ f=>(an4 (zR u1) u2 h1 h2 f)) nx
theorem rises_s1e {Nx:Int->St->Prop} {Q0:St->Prop} (nx:Q0 Z) (u1:¬ aB<(l_l:Int):=by omega):zGM l l_l l_c low high aB Z Nx Qr Q0 :=
 kO 2 () [.b false] (fun _ f=>(ai (zT u1) f)) nx
theorem rises_ra {P0:St->Prop} (hL:yKY l l_l l_c low high 0 Z Pr P0) (kr:∀ t6_1' Z',Pr t6_1' Z'->zXD l l_l l_c low high t6_1' Z' Q) (k0:∀ Z',P0 Z'->zXE l l_l l_c low high Z' Q):zO Pg 71 [.slice l l_l l_c,iV low,iV high] Z Q :=
 zG [.g,.g,.g,.g,.lf 35 (zGL l l_l l_c low high 0) [zHV l l_l l_c low high Pr,zHW l l_l l_c low high P0]] (kd (ai (ai tt (ai (arf (zGL l l_l l_c low high 0)) hL)) (ai (kz1 kr) (ai (kz0 k0) trivial))))
theorem yKU (nx:Q (.bool t6_1) Z):zXD l l_l l_c low high t6_1 Z Q :=
 sK [] nx
theorem yKV (nx:Q (.bool true) Z):zXE l l_l l_c low high Z Q :=
 sK [.g] nx
theorem yBI {Inv:Nat->Int->Int->St->Prop} {Q0:Int->St->Prop} (hb:∀ k aS bt Z,Inv k aS bt Z->zHY roster aF aL aS bt Z (fun i3_1' i4_1' Z'=>∃ k',k' < k/\Inv k' i3_1' i4_1' Z') Q0):∀ k aS bt Z,Inv k aS bt Z->zXL roster aF aL aS bt Z Q0 :=
 fun k aS bt Z h=>zY (alts:=[zCZ roster aF aL Q0]) (T:=Int × Int) (lf:=fun t=>zBL roster aF aL t.1 t.2) (mf:=fun t=>[]) (Inv:=fun k t Z=>Inv k t.1 t.2 Z) (ai (xZ 0) trivial) (fun k t Z h=>hb k t.1 t.2 Z h) k (aS,bt) Z h
theorem yLG {Nx:Int->Int->St->Prop} {Q0:Int->St->Prop} (h1:lz Z 3 (zM ew (Int.toNat bt*1)) (iV nF)) (nx:Nx (aS+1) (bt+1) Z) (u1:bt<(aF:Int):=by omega) (u2:Ix bt aF:=by omega) (u3:0<=nF:=by omega) (u4:I6 (aS+1):=by omega) (u5:I6 (bt+1):=by omega):zHY (some ew) aF aL aS bt Z Nx Q0 :=
 kO 0 (aS+1,bt+1) [.g,.g,.g,.b true,.g,.g,.i,.l (iV nF),.b true,.g,.n (aS+1),.g,.g,.n (bt+1),.g] (fun _ f=>(an6 (zR u1) u2 h1 (yE u3) (w64 u4) (w64 u5) f)) nx
theorem yLF {Nx:Int->Int->St->Prop} {Q0:Int->St->Prop} (h1:lz Z 3 (zM ew (Int.toNat bt*1)) (iV nF)) (nx:Nx aS (bt+1) Z) (u1:bt<(aF:Int):=by omega) (u2:Ix bt aF:=by omega) (u3:¬ 0<=nF:=by omega) (u4:I6 (bt+1):=by omega):zHY (some ew) aF aL aS bt Z Nx Q0 :=
 kO 0 (aS,bt+1) [.g,.g,.g,.b true,.g,.g,.i,.l (iV nF),.b false,.g,.n (bt+1),.g] (fun _ f=>(an5 (zR u1) u2 h1 (yH u3) (w64 u4) f)) nx
theorem yLE {Nx:Int->Int->St->Prop} {Q0:Int->St->Prop} (nx:Q0 aS Z) (u1:¬ bt<(aF:Int):=by omega):zHY roster aF aL aS bt Z Nx Q0 :=
 kO 1 aS [.g,.g,.g,.b false] (fun _ f=>(ai (zT u1) f)) nx
theorem ySI {P0:Int->St->Prop} (hL:zXL roster aF aL 0 0 Z P0) (k0:∀ i3_1' Z',P0 i3_1' Z'->zQH roster aF aL i3_1' Z' Q):zO Pg 27 [.slice roster aF aL] Z Q :=
 zG [.g,.g,.g,.lf 19 (zBL roster aF aL 0 0) [zCZ roster aF aL P0]] (kd (ai (ai tt (ai (arf (zBL roster aF aL 0 0)) hL)) (ai (kz1 k0) trivial)))
theorem yBH (nx:Q (iV aS) Z):zQH roster aF aL aS Z Q :=
 sK [.g,.g] nx
theorem list_ra (h1:yN Pg 26 26 (.slice (some (qe Z.next 0)) 0 0) (.slice l l_l l_c) (Z.row [] 1)=some (.slice q2 l2 c2,Z1)) (nx:Q (.slice q2 l2 c2) Z1):zO Pg 19 [.slice l l_l l_c] Z Q :=
 zG [.g,.g,.g,.e (.slice q2 l2 c2) Z1,.g] (kd (ai h1 nx))
end Go.Proofs.YtgfiniccfpfplaaGreat
