import Derived.Test.YtgfiniccfpfplaaGreatTy
import Derived.Test.YtgfiniccfpfplaaGreatLayD
set_option maxRecDepth 20000
namespace Go.Proofs.YtgfiniccfpfplaaGreat
open Go Go.Lay
open Tryz renaming prog -> Pg
structure Rec where
 k:Int
 a:Int
 b:Int
 deriving DecidableEq,Inhabited
abbrev zY (n:Int):Value:=iV n
abbrev zBD (x:Rec):List Value:=rcd x.k x.a x.b
abbrev zEL (x:Rec):Value:=.agg ⟨zBD x⟩
def inB (n lo hi:Int):Bool:=decide (lo<=n) && decide (n<=hi)
theorem vK {n lo hi:Int}:inB n lo hi=true↔lo<=n/\n<=hi:=by simp [inB]
theorem yFD {n lo hi:Int}:inB n lo hi=false↔¬ (lo<=n/\n<=hi):=by rw [<- Bool.not_eq_true,vK]
theorem wD {α:Type} {xs:List α} {i:Nat} {x:α} (h:xs[i]?=some x):xs.take (i+1)=xs.take i++[x]:=by
 rw [List.take_add_one,h];rfl
theorem le0 (Z:St):Le Z Z.re:=Le.re' (Le.refl _)
section
noncomputable section
variable (l roster:oAa) (l_l aE l_c aF:Nat) (low n aX high fq bI bG aJ:Int) (q4:Int->Int->St->Prop) (t4_1 eX:Bool) (q1:Bool->St->Prop) (q0:Int->St->Prop) (q3:St->Prop) (Z:St) (q5:Int->Int->St->Prop) (Q:vPa) (Nx q6:Int->St->Prop) (Qr:Bool->St->Prop) (Q0:St->Prop)
def yZW:Code:=(Code.part [1,0,1,0,0] (qj 43))
def zPG:lNa:=[(0,.slice l l_l l_c),(1,iV n),(5,iV fq)]
def xJT:Alt:=⟨Int,.normal,fun t=>zPG l l_l l_c n t,fun t=>[],fun t Z=>q0 t Z⟩
def yDM (l:oAa) (l_l l_c:Nat) (n:Int) (t4_1:Bool):lNa:=[(4,.bool t4_1)]
def zRO:Alt:=⟨Bool,.ret,fun t=>yDM l l_l l_c n t,fun t=>[],fun t Z=>q1 t Z⟩
def yDN (l:oAa) (l_l l_c:Nat) (n:Int):lNa:=[]
def zRP:Alt:=⟨Unit,(.exit 0),fun t=>yDN l l_l l_c n,fun t=>[],fun t Z=>q3 Z⟩
def zVX:Prop:=qk ql none yZW 18 (zPG l l_l l_c n fq) [] [xJT l l_l l_c n Nx,zRO l l_l l_c n Qr,zRP l l_l l_c n Q0] Z
def yZX:Prop:=qm ql none yZW 18 (zPG l l_l l_c n fq) [] [zRO l l_l l_c n Qr,zRP l l_l l_c n Q0] Z
def yDO:Prop:=kZ ql (qj 43) [1,0,1,0] (qn 43 Q) .ret 18 (yDM l l_l l_c n t4_1) Z
def yDP:Prop:=kZ ql (qj 43) [1,0,1,0] (qn 43 Q) (.exit 0) 18 (yDN l l_l l_c n) Z
def yDK:Code:=(Code.part [1,0,1,0,0] (qj 42))
def zFJ:lNa:=[(0,.slice l l_l l_c),(1,iV low),(2,iV high),(7,iV bG)]
def yTG:Alt:=⟨Int,.normal,fun t=>zFJ l l_l l_c low high t,fun t=>[],fun t Z=>q0 t Z⟩
def zTU (l:oAa) (l_l l_c:Nat) (low high:Int) (eX:Bool):lNa:=[(6,.bool eX)]
def zJD:Alt:=⟨Bool,.ret,fun t=>zTU l l_l l_c low high t,fun t=>[],fun t Z=>q1 t Z⟩
def zTV (l:oAa) (l_l l_c:Nat) (low high:Int):lNa:=[]
def zJE:Alt:=⟨Unit,(.exit 0),fun t=>zTV l l_l l_c low high,fun t=>[],fun t Z=>q3 Z⟩
def zDE:Prop:=qk ql none yDK 38 (zFJ l l_l l_c low high bG) [] [yTG l l_l l_c low high Nx,zJD l l_l l_c low high Qr,zJE l l_l l_c low high Q0] Z
def yDL:Prop:=qm ql none yDK 38 (zFJ l l_l l_c low high bG) [] [zJD l l_l l_c low high Qr,zJE l l_l l_c low high Q0] Z
def zTW:Prop:=kZ ql (qj 42) [1,0,1,0] (qn 42 Q) .ret 38 (zTU l l_l l_c low high eX) Z
def zTX:Prop:=kZ ql (qj 42) [1,0,1,0] (qn 42 Q) (.exit 0) 38 (zTV l l_l l_c low high) Z
def yMA:Code:=(Code.part [1,0,1,0,0] (qj 71))
def zIZ:lNa:=[(0,.slice l l_l l_c),(1,iV low),(2,iV high),(9,.slice l l_l l_c),(10,iV (l_l:Int)),(11,iV aJ)]
def xDG:Alt:=⟨Int,.normal,fun t=>zIZ l l_l l_c low high t,fun t=>[],fun t Z=>q0 t Z⟩
def zXU (l:oAa) (l_l l_c:Nat) (low high:Int) (eX:Bool):lNa:=[(6,.bool eX)]
def zNL:Alt:=⟨Bool,.ret,fun t=>zXU l l_l l_c low high t,fun t=>[],fun t Z=>q1 t Z⟩
def zXV (l:oAa) (l_l l_c:Nat) (low high:Int):lNa:=[]
def zNM:Alt:=⟨Unit,(.exit 0),fun t=>zXV l l_l l_c low high,fun t=>[],fun t Z=>q3 Z⟩
def zFG:Prop:=qk ql none yMA 35 (zIZ l l_l l_c low high aJ) [] [xDG l l_l l_c low high Nx,zNL l l_l l_c low high Qr,zNM l l_l l_c low high Q0] Z
def yMB:Prop:=qm ql none yMA 35 (zIZ l l_l l_c low high aJ) [] [zNL l l_l l_c low high Qr,zNM l l_l l_c low high Q0] Z
def zXW:Prop:=kZ ql (qj 71) [1,0,1,0] (qn 71 Q) .ret 35 (zXU l l_l l_c low high eX) Z
def zXX:Prop:=kZ ql (qj 71) [1,0,1,0] (qn 71 Q) (.exit 0) 35 (zXV l l_l l_c low high) Z
def zYC:Code:=(Code.part [1,1,0,1,0,0] (qj 27))
def zDS:lNa:=[(0,.slice roster aE aF),(3,iV aX),(4,iV bI)]
def yMJ:Alt:=⟨Int × Int,.normal,fun t=>zDS roster aE aF t.1 t.2,fun t=>[],fun t Z=>q4 t.1 t.2 Z⟩
def zPH (roster:oAa) (aE aF:Nat) (aX:Int):lNa:=[(3,iV aX)]
def zGR:Alt:=⟨Int,(.exit 0),fun t=>zPH roster aE aF t,fun t=>[],fun t Z=>q0 t Z⟩
def zGS:Prop:=qk ql none zYC 19 (zDS roster aE aF aX bI) [] [yMJ roster aE aF q5,zGR roster aE aF q6] Z
def zYD:Prop:=qm ql none zYC 19 (zDS roster aE aF aX bI) [] [zGR roster aE aF q6] Z
def zPI:Prop:=kZ ql (qj 27) [1,1,0,1,0] (qn 27 Q) (.exit 0) 19 (zPH roster aE aF aX) Z
end
variable {n low high fq nA bG nF aJ aX bI:Int} {Z Z1:St} {Q:vPa} {l roster q2:oAa} {l_l l_c aE aF l2 c2:Nat} {Inv:Nat->Int->St->Prop} {Qr Pr:Bool->St->Prop} {Q0 P0:St->Prop} {l_a fe:Addr} {Nx:Int->St->Prop} {t4_1 eX:Bool}
theorem xCH (nx:Q (.bool true) Z) (u1:low<=n:=by omega) (u2:n<=high:=by omega):qi 47 [iV n,iV low,iV high] Z Q :=
 zG [.g,.g,.g,.b true,.g,.g,.g,.b true,.g,.g] (kd (an2 (yE u1) (yE u2) nx))
theorem xCG (nx:Q (.bool false) Z) (u1:low<=n:=by omega) (u2:¬ n<=high:=by omega):qi 47 [iV n,iV low,iV high] Z Q :=
 zG [.g,.g,.g,.b true,.g,.g,.g,.b false,.g,.g] (kd (an2 (yE u1) (yH u2) nx))
theorem yCZ (nx:Q (.bool false) Z) (u1:¬ low<=n:=by omega):qi 47 [iV n,iV low,iV high] Z Q :=
 zG [.g,.g,.g,.b false,.g,.g,.g] (kd (ai (yH u1) nx))
theorem xWU (nx:Q (.bool true) Z) (u1:low<=n:=by omega) (u2:n<=high:=by omega):qi 33 [iV n,iV low,iV high] Z Q :=
 zG [.g,.g,.g,.b true,.g,.g,.g,.b true,.g,.g] (kd (an2 (yE u1) (yE u2) nx))
theorem xWT (nx:Q (.bool false) Z) (u1:low<=n:=by omega) (u2:¬ n<=high:=by omega):qi 33 [iV n,iV low,iV high] Z Q :=
 zG [.g,.g,.g,.b true,.g,.g,.g,.b false,.g,.g] (kd (an2 (yE u1) (yH u2) nx))
theorem xJP (nx:Q (.bool false) Z) (u1:¬ low<=n:=by omega):qi 33 [iV n,iV low,iV high] Z Q :=
 zG [.g,.g,.g,.b false,.g,.g,.g] (kd (ai (yH u1) nx))
theorem yTJ (hb:∀ k fq Z,Inv k fq Z->zVX l l_l l_c n fq Z (NX1 Inv k) Qr Q0):∀ k fq Z,Inv k fq Z->yZX l l_l l_c n fq Z Qr Q0 :=
 xL (ai zBE (ai (xZ 0) trivial)) hb
theorem xJS (h1:lz Z 3 (zJ l_a (Int.toNat fq*1)) (iV nA)) (nx:Qr true Z) (u1:fq<(l_l:Int):=by omega) (u2:Ix fq l_l:=by omega) (u3:nA=n:=by omega):zVX (some l_a) l_l l_c n fq Z Nx Qr Q0 :=
 kO 1 true [.g,.g,.g,.b true,.g,.g,.i,.l (iV nA),.g,.b true,.g] (fun _ f=>an4 (zR u1) u2 h1 (xH u3) f) nx
theorem xJR (h1:lz Z 3 (zJ l_a (Int.toNat fq*1)) (iV nA)) (nx:Nx (fq+1) Z) (u1:fq<(l_l:Int):=by omega) (u2:Ix fq l_l:=by omega) (u3:¬ nA=n:=by omega) (u4:I6 (fq+1):=by omega):zVX (some l_a) l_l l_c n fq Z Nx Qr Q0 :=
 kO 0 (fq+1) [.g,.g,.g,.b true,.g,.g,.i,.l (iV nA),.g,.b false,.g,.n (fq+1),.g] (fun _ f=>an5 (zR u1) u2 h1 (yD u3) (w64 u4) f) nx
theorem xJQ (nx:Q0 Z) (u1:¬ fq<(l_l:Int):=by omega):zVX l l_l l_c n fq Z Nx Qr Q0 :=
 kO 2 () [.g,.g,.g,.b false] (fun _ f=>ai (zS u1) f) nx
theorem xRS (hL:yZX l l_l l_c n 0 Z Pr P0) (kr:∀ t4_1' Z',Pr t4_1' Z'->yDO l l_l l_c n t4_1' Z' Q) (k0:∀ Z',P0 Z'->yDP l l_l l_c n Z' Q):qi 43 [.slice l l_l l_c,iV n] Z Q :=
 zG [.g,.g,.lf 18 (zPG l l_l l_c n 0) [zRO l l_l l_c n Pr,zRP l l_l l_c n P0]] (kd (ai (ai tt (ai (arf (zPG l l_l l_c n 0)) hL)) (ai (kz1 kr) (ai (kz0 k0) trivial))))
theorem yTH (nx:Q (.bool t4_1) Z):yDO l l_l l_c n t4_1 Z Q :=
 sK [] nx
theorem yTI (nx:Q (.bool false) Z):yDP l l_l l_c n Z Q :=
 sK [.g] nx
theorem yHU (hb:∀ k bG Z,Inv k bG Z->zDE l l_l l_c low high bG Z (NX1 Inv k) Qr Q0):∀ k bG Z,Inv k bG Z->yDL l l_l l_c low high bG Z Qr Q0 :=
 xL (ai zBE (ai (xZ 0) trivial)) hb
theorem yTF (h1:lz Z 3 (zJ l_a (Int.toNat bG*1)) (iV nA)) (h2:qo 33 [iV nA,iV low,iV high] Z (.bool true) Z) (h3:lz Z 3 (zJ l_a (Int.toNat (bG-1)*1)) (iV nF)) (nx:Qr false Z) (u1:bG<(l_l:Int):=by omega) (u2:Ix bG l_l:=by omega) (u3:0<bG:=by omega) (u4:I6 (bG-1):=by omega) (u5:Ix (bG-1) l_l:=by omega) (u6:nA<=nF:=by omega):zDE (some l_a) l_l l_c low high bG Z Nx Qr Q0 :=
 kO 1 false [.g,.g,.g,.b true,.g,.g,.i,.l (iV nA),.g,.g,.c (.bool true) Z,.g,.g,.g,.b true,.g,.g,.g,.i,.l (iV nA),.g,.g,.n (bG-1),.i,.l (iV nF),.b true,.g,.g,.g] (fun _ f=>an5 (zR u1) u2 h1 h2 (zR u3) (an6 u2 h1 (w64 u4) u5 h3 (yE u6) f)) nx
theorem yTE (h1:lz Z 3 (zJ l_a (Int.toNat bG*1)) (iV nA)) (h2:qo 33 [iV nA,iV low,iV high] Z (.bool true) Z) (h3:lz Z 3 (zJ l_a (Int.toNat (bG-1)*1)) (iV nF)) (nx:Nx (bG+1) Z) (u1:bG<(l_l:Int):=by omega) (u2:Ix bG l_l:=by omega) (u3:0<bG:=by omega) (u4:I6 (bG-1):=by omega) (u5:Ix (bG-1) l_l:=by omega) (u6:¬ nA<=nF:=by omega) (u7:I6 (bG+1):=by omega):zDE (some l_a) l_l l_c low high bG Z Nx Qr Q0 :=
 kO 0 (bG+1) [.g,.g,.g,.b true,.g,.g,.i,.l (iV nA),.g,.g,.c (.bool true) Z,.g,.g,.g,.b true,.g,.g,.g,.i,.l (iV nA),.g,.g,.n (bG-1),.i,.l (iV nF),.b false,.g,.g,.g,.n (bG+1),.g] (fun _ f=>an6 (zR u1) u2 h1 h2 (zR u3) u2 (an6 h1 (w64 u4) u5 h3 (yH u6) (w64 u7) f)) nx
theorem yTD (h1:lz Z 3 (zJ l_a (Int.toNat bG*1)) (iV nA)) (h2:qo 33 [iV nA,iV low,iV high] Z (.bool true) Z) (nx:Nx (bG+1) Z) (u1:bG<(l_l:Int):=by omega) (u2:Ix bG l_l:=by omega) (u3:¬ 0<bG:=by omega) (u4:I6 (bG+1):=by omega):zDE (some l_a) l_l l_c low high bG Z Nx Qr Q0 :=
 kO 0 (bG+1) [.g,.g,.g,.b true,.g,.g,.i,.l (iV nA),.g,.g,.c (.bool true) Z,.g,.g,.g,.b false,.g,.g,.g,.g,.n (bG+1),.g] (fun _ f=>an6 (zR u1) u2 h1 h2 (zS u3) (w64 u4) f) nx
theorem yTC (h1:lz Z 3 (zJ l_a (Int.toNat bG*1)) (iV nA)) (h2:qo 33 [iV nA,iV low,iV high] Z (.bool false) Z) (nx:Qr false Z) (u1:bG<(l_l:Int):=by omega) (u2:Ix bG l_l:=by omega):zDE (some l_a) l_l l_c low high bG Z Nx Qr Q0 :=
 kO 1 false [.g,.g,.g,.b true,.g,.g,.i,.l (iV nA),.g,.g,.c (.bool false) Z,.g,.g,.g,.g] (fun _ f=>an4 (zR u1) u2 h1 h2 f) nx
theorem yTB (nx:Q0 Z) (u1:¬ bG<(l_l:Int):=by omega):zDE l l_l l_c low high bG Z Nx Qr Q0 :=
 kO 2 () [.g,.g,.g,.b false] (fun _ f=>ai (zS u1) f) nx
theorem xDI (hL:yDL l l_l l_c low high 0 Z Pr P0) (kr:∀ t6_1' Z',Pr t6_1' Z'->zTW l l_l l_c low high t6_1' Z' Q) (k0:∀ Z',P0 Z'->zTX l l_l l_c low high Z' Q):qi 42 [.slice l l_l l_c,iV low,iV high] Z Q :=
 zG [.g,.g,.lf 38 (zFJ l l_l l_c low high 0) [zJD l l_l l_c low high Pr,zJE l l_l l_c low high P0]] (kd (ai (ai tt (ai (arf (zFJ l l_l l_c low high 0)) hL)) (ai (kz1 kr) (ai (kz0 k0) trivial))))
theorem yHS (nx:Q (.bool eX) Z):zTW l l_l l_c low high eX Z Q :=
 sK [] nx
theorem yHT (nx:Q (.bool true) Z):zTX l l_l l_c low high Z Q :=
 sK [.g] nx
theorem yLZ (hb:∀ k aJ Z,Inv k aJ Z->zFG l l_l l_c low high aJ Z (NX1 Inv k) Qr Q0):∀ k aJ Z,Inv k aJ Z->yMB l l_l l_c low high aJ Z Qr Q0 :=
 xL (ai zBE (ai (xZ 0) trivial)) hb
theorem xDF (h1:lz Z 3 (zJ l_a (Int.toNat aJ*1)) (iV nA)) (h2:qo 47 [iV nA,iV low,iV high] Z (.bool true) Z) (h3:lz Z 3 (zJ l_a (Int.toNat (aJ-1)*1)) (iV nF)) (nx:Qr false Z) (u1:aJ<(l_l:Int):=by omega) (u2:Ix aJ l_l:=by omega) (u3:0<aJ:=by omega) (u4:I6 (aJ-1):=by omega) (u5:Ix (aJ-1) l_l:=by omega) (u6:nA<=nF:=by omega):zFG (some l_a) l_l l_c low high aJ Z Nx Qr Q0 :=
 kO 1 false [.b true,.g,.i,.l (iV nA),.g,.g,.g,.g,.g,.c (.bool true) Z,.g,.g,.g,.b true,.g,.g,.g,.g,.n (aJ-1),.i,.l (iV nF),.b true,.g,.g,.g] (fun _ f=>an3 (zR u1) u2 h1 (an6 h2 (zR u3) (w64 u4) u5 h3 (yE u6) f)) nx
theorem xDE (h1:lz Z 3 (zJ l_a (Int.toNat aJ*1)) (iV nA)) (h2:qo 47 [iV nA,iV low,iV high] Z (.bool true) Z) (h3:lz Z 3 (zJ l_a (Int.toNat (aJ-1)*1)) (iV nF)) (nx:Nx (aJ+1) Z) (u1:aJ<(l_l:Int):=by omega) (u2:Ix aJ l_l:=by omega) (u3:0<aJ:=by omega) (u4:I6 (aJ-1):=by omega) (u5:Ix (aJ-1) l_l:=by omega) (u6:¬ nA<=nF:=by omega) (u7:I6 (aJ+1):=by omega):zFG (some l_a) l_l l_c low high aJ Z Nx Qr Q0 :=
 kO 0 (aJ+1) [.b true,.g,.i,.l (iV nA),.g,.g,.g,.g,.g,.c (.bool true) Z,.g,.g,.g,.b true,.g,.g,.g,.g,.n (aJ-1),.i,.l (iV nF),.b false,.g,.g,.n (aJ+1),.g] (fun _ f=>an4 (zR u1) u2 h1 h2 (an6 (zR u3) (w64 u4) u5 h3 (yH u6) (w64 u7) f)) nx
theorem xDD (h1:lz Z 3 (zJ l_a (Int.toNat aJ*1)) (iV nA)) (h2:qo 47 [iV nA,iV low,iV high] Z (.bool true) Z) (nx:Nx (aJ+1) Z) (u1:aJ<(l_l:Int):=by omega) (u2:Ix aJ l_l:=by omega) (u3:¬ 0<aJ:=by omega) (u4:I6 (aJ+1):=by omega):zFG (some l_a) l_l l_c low high aJ Z Nx Qr Q0 :=
 kO 0 (aJ+1) [.b true,.g,.i,.l (iV nA),.g,.g,.g,.g,.g,.c (.bool true) Z,.g,.g,.g,.b false,.g,.g,.g,.n (aJ+1),.g] (fun _ f=>an6 (zR u1) u2 h1 h2 (zS u3) (w64 u4) f) nx
theorem xDC (h1:lz Z 3 (zJ l_a (Int.toNat aJ*1)) (iV nA)) (h2:qo 47 [iV nA,iV low,iV high] Z (.bool false) Z) (nx:Qr false Z) (u1:aJ<(l_l:Int):=by omega) (u2:Ix aJ l_l:=by omega):zFG (some l_a) l_l l_c low high aJ Z Nx Qr Q0 :=
 kO 1 false [.b true,.g,.i,.l (iV nA),.g,.g,.g,.g,.g,.c (.bool false) Z,.g,.g,.g,.g] (fun _ f=>an4 (zR u1) u2 h1 h2 f) nx
theorem xDB (nx:Q0 Z) (u1:¬ aJ<(l_l:Int):=by omega):zFG l l_l l_c low high aJ Z Nx Qr Q0 :=
 kO 2 () [.b false] (fun _ f=>ai (zS u1) f) nx
theorem xJI (hL:yMB l l_l l_c low high 0 Z Pr P0) (kr:∀ t6_1' Z',Pr t6_1' Z'->zXW l l_l l_c low high t6_1' Z' Q) (k0:∀ Z',P0 Z'->zXX l l_l l_c low high Z' Q):qi 71 [.slice l l_l l_c,iV low,iV high] Z Q :=
 zG [.g,.g,.g,.g,.lf 35 (zIZ l l_l l_c low high 0) [zNL l l_l l_c low high Pr,zNM l l_l l_c low high P0]] (kd (ai (ai tt (ai (arf (zIZ l l_l l_c low high 0)) hL)) (ai (kz1 kr) (ai (kz0 k0) trivial))))
theorem yLX (nx:Q (.bool eX) Z):zXW l l_l l_c low high eX Z Q :=
 sK [] nx
theorem yLY (nx:Q (.bool true) Z):zXX l l_l l_c low high Z Q :=
 sK [.g] nx
theorem yCI {Inv:Nat->Int->Int->St->Prop} {Q0:Int->St->Prop} (hb:∀ k aX bI Z,Inv k aX bI Z->zGS roster aE aF aX bI Z (NX2 Inv k) Q0):∀ k aX bI Z,Inv k aX bI Z->zYD roster aE aF aX bI Z Q0 :=
 zDU (ai (xZ 0) trivial) hb
theorem yMI {Nx:Int->Int->St->Prop} {Q0:Int->St->Prop} (h1:lz Z 3 (zJ fe (Int.toNat bI*1)) (iV nA)) (nx:Nx (aX+1) (bI+1) Z) (u1:bI<(aE:Int):=by omega) (u2:Ix bI aE:=by omega) (u3:0<=nA:=by omega) (u4:I6 (aX+1):=by omega) (u5:I6 (bI+1):=by omega):zGS (some fe) aE aF aX bI Z Nx Q0 :=
 kO 0 (aX+1,bI+1) [.g,.g,.g,.b true,.g,.g,.i,.l (iV nA),.b true,.g,.n (aX+1),.g,.g,.n (bI+1),.g] (fun _ f=>an6 (zR u1) u2 h1 (yE u3) (w64 u4) (w64 u5) f) nx
theorem yMH {Nx:Int->Int->St->Prop} {Q0:Int->St->Prop} (h1:lz Z 3 (zJ fe (Int.toNat bI*1)) (iV nA)) (nx:Nx aX (bI+1) Z) (u1:bI<(aE:Int):=by omega) (u2:Ix bI aE:=by omega) (u3:¬ 0<=nA:=by omega) (u4:I6 (bI+1):=by omega):zGS (some fe) aE aF aX bI Z Nx Q0 :=
 kO 0 (aX,bI+1) [.g,.g,.g,.b true,.g,.g,.i,.l (iV nA),.b false,.g,.n (bI+1),.g] (fun _ f=>an5 (zR u1) u2 h1 (yH u3) (w64 u4) f) nx
theorem yMG {Nx:Int->Int->St->Prop} {Q0:Int->St->Prop} (nx:Q0 aX Z) (u1:¬ bI<(aE:Int):=by omega):zGS roster aE aF aX bI Z Nx Q0 :=
 kO 1 aX [.g,.g,.g,.b false] (fun _ f=>ai (zS u1) f) nx
theorem yUB {P0:Int->St->Prop} (hL:zYD roster aE aF 0 0 Z P0) (k0:∀ i3_1' Z',P0 i3_1' Z'->zPI roster aE aF i3_1' Z' Q):qi 27 [.slice roster aE aF] Z Q :=
 zG [.g,.g,.g,.lf 19 (zDS roster aE aF 0 0) [zGR roster aE aF P0]] (kd (ai (ai tt (ai (arf (zDS roster aE aF 0 0)) hL)) (ai (kz1 k0) trivial)))
theorem yCH (nx:Q (iV aX) Z):zPI roster aE aF aX Z Q :=
 sK [.g,.g] nx
theorem xAX (h1:yC Pg 26 26 (.slice (some (qg Z.y 0)) 0 0) (.slice l l_l l_c) (Z.row [] 1)=some (.slice q2 l2 c2,Z1)) (nx:Q (.slice q2 l2 c2) Z1):qi 19 [.slice l l_l l_c] Z Q :=
 zG [.g,.g,.g,.e (.slice q2 l2 c2) Z1,.g] (kd (ai h1 nx))
end
end Go.Proofs.YtgfiniccfpfplaaGreat
