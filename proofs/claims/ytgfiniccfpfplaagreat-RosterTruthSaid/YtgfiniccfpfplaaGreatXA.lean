import Derived.Test.YtgfiniccfpfplaaGreatTy
import Derived.Test.YtgfiniccfpfplaaGreatLayD
set_option maxRecDepth 20000
namespace Go.Proofs.YtgfiniccfpfplaaGreat
open Go Go.Lay
open Tryz renaming prog -> Pg
section
variable {n lo hi:Int}
structure Rec where
 k:Int
 a:Int
 b:Int
 deriving DecidableEq,Inhabited
abbrev yA (n:Int):Value:=iV n
abbrev zBE (x:Rec):List Value:=rcd x.k x.a x.b
abbrev zEN (x:Rec):Value:=.agg ⟨zBE x⟩
def inB (n lo hi:Int):Bool:=decide (lo<=n) && decide (n<=hi)
theorem uF:inB n lo hi=true↔lo<=n/\n<=hi:=by simp [inB]
theorem yHD:inB n lo hi=false↔¬ (lo<=n/\n<=hi):=by rw [<- Bool.not_eq_true,uF]
theorem wF {α:Type} {xs:List α} {i:Nat} {x:α} (h:xs[i]?=some x):xs.take (i+1)=xs.take i++[x]:=by
 rw [List.take_add_one,h];rfl
theorem le0 (Z:St):Le Z Z.re:=Le.re' (Le.refl _)
end
section
noncomputable section
variable (l roster:oAa) (l_l aG l_c aM:Nat) (n low aY bJ high bu bQ aA:Int) (q4:Int->Int->St->Prop) (fy t6_1:Bool) (q0:Int->St->Prop) (q3:St->Prop) (q1:Bool->St->Prop) (Z:St) (Nx:Int->St->Prop) (Q:vPa) (q5:Int->Int->St->Prop) (Qr:Bool->St->Prop) (q6:Int->St->Prop) (Q0:St->Prop)
def xCI:Code:=(Code.part [1,0,1,0,0] (qh 43))
def zQD:lNa:=[(0,.slice l l_l l_c),(1,iV n),(5,iV bJ)]
def xND:Alt:=⟨Int,.normal,fun t=>zQD l l_l l_c n t,fun t=>[],fun t Z=>q0 t Z⟩
def yFN (l:oAa) (l_l l_c:Nat) (n:Int) (fy:Bool):lNa:=[(4,.bool fy)]
def zSG:Alt:=⟨Bool,.ret,fun t=>yFN l l_l l_c n t,fun t=>[],fun t Z=>q1 t Z⟩
def yFO (l:oAa) (l_l l_c:Nat) (n:Int):lNa:=[]
def zSH:Alt:=⟨Unit,(.exit 0),fun t=>yFO l l_l l_c n,fun t=>[],fun t Z=>q3 Z⟩
def zXE:Prop:=qi qj none xCI 18 (zQD l l_l l_c n bJ) [] [xND l l_l l_c n Nx,zSG l l_l l_c n Qr,zSH l l_l l_c n Q0] Z
def xCJ:Prop:=qk qj none xCI 18 (zQD l l_l l_c n bJ) [] [zSG l l_l l_c n Qr,zSH l l_l l_c n Q0] Z
def yFP:Prop:=kZ qj (qh 43) [1,0,1,0] (ql 43 Q) .ret 18 (yFN l l_l l_c n fy) Z
def yFQ:Prop:=kZ qj (qh 43) [1,0,1,0] (ql 43 Q) (.exit 0) 18 (yFO l l_l l_c n) Z
def yFL:Code:=(Code.part [1,0,1,0,0] (qh 42))
def zFW:lNa:=[(0,.slice l l_l l_c),(1,iV low),(2,iV high),(7,iV bQ)]
def yVU:Alt:=⟨Int,.normal,fun t=>zFW l l_l l_c low high t,fun t=>[],fun t Z=>q0 t Z⟩
def zUV (l:oAa) (l_l l_c:Nat) (low high:Int) (t6_1:Bool):lNa:=[(6,.bool t6_1)]
def zJM:Alt:=⟨Bool,.ret,fun t=>zUV l l_l l_c low high t,fun t=>[],fun t Z=>q1 t Z⟩
def zUW (l:oAa) (l_l l_c:Nat) (low high:Int):lNa:=[]
def zJN:Alt:=⟨Unit,(.exit 0),fun t=>zUW l l_l l_c low high,fun t=>[],fun t Z=>q3 Z⟩
def zDE:Prop:=qi qj none yFL 38 (zFW l l_l l_c low high bQ) [] [yVU l l_l l_c low high Nx,zJM l l_l l_c low high Qr,zJN l l_l l_c low high Q0] Z
def yFM:Prop:=qk qj none yFL 38 (zFW l l_l l_c low high bQ) [] [zJM l l_l l_c low high Qr,zJN l l_l l_c low high Q0] Z
def zUX:Prop:=kZ qj (qh 42) [1,0,1,0] (ql 42 Q) .ret 38 (zUV l l_l l_c low high t6_1) Z
def zUY:Prop:=kZ qj (qh 42) [1,0,1,0] (ql 42 Q) (.exit 0) 38 (zUW l l_l l_c low high) Z
def yOH:Code:=(Code.part [1,0,1,0,0] (qh 71))
def zJH:lNa:=[(0,.slice l l_l l_c),(1,iV low),(2,iV high),(9,.slice l l_l l_c),(10,iV (l_l:Int)),(11,iV aA)]
def xFR:Alt:=⟨Int,.normal,fun t=>zJH l l_l l_c low high t,fun t=>[],fun t Z=>q0 t Z⟩
def zZD (l:oAa) (l_l l_c:Nat) (low high:Int) (t6_1:Bool):lNa:=[(6,.bool t6_1)]
def zOD:Alt:=⟨Bool,.ret,fun t=>zZD l l_l l_c low high t,fun t=>[],fun t Z=>q1 t Z⟩
def zZE (l:oAa) (l_l l_c:Nat) (low high:Int):lNa:=[]
def zOE:Alt:=⟨Unit,(.exit 0),fun t=>zZE l l_l l_c low high,fun t=>[],fun t Z=>q3 Z⟩
def zFU:Prop:=qi qj none yOH 35 (zJH l l_l l_c low high aA) [] [xFR l l_l l_c low high Nx,zOD l l_l l_c low high Qr,zOE l l_l l_c low high Q0] Z
def yOI:Prop:=qk qj none yOH 35 (zJH l l_l l_c low high aA) [] [zOD l l_l l_c low high Qr,zOE l l_l l_c low high Q0] Z
def zZF:Prop:=kZ qj (qh 71) [1,0,1,0] (ql 71 Q) .ret 35 (zZD l l_l l_c low high t6_1) Z
def zZG:Prop:=kZ qj (qh 71) [1,0,1,0] (ql 71 Q) (.exit 0) 35 (zZE l l_l l_c low high) Z
def zZN:Code:=(Code.part [1,1,0,1,0,0] (qh 27))
def zDX:lNa:=[(0,.slice roster aG aM),(3,iV aY),(4,iV bu)]
def yOT:Alt:=⟨Int × Int,.normal,fun t=>zDX roster aG aM t.1 t.2,fun t=>[],fun t Z=>q4 t.1 t.2 Z⟩
def zQE (roster:oAa) (aG aM:Nat) (aY:Int):lNa:=[(3,iV aY)]
def zHF:Alt:=⟨Int,(.exit 0),fun t=>zQE roster aG aM t,fun t=>[],fun t Z=>q0 t Z⟩
def zHG:Prop:=qi qj none zZN 19 (zDX roster aG aM aY bu) [] [yOT roster aG aM q5,zHF roster aG aM q6] Z
def zZO:Prop:=qk qj none zZN 19 (zDX roster aG aM aY bu) [] [zHF roster aG aM q6] Z
def zQF:Prop:=kZ qj (qh 27) [1,1,0,1,0] (ql 27 Q) (.exit 0) 19 (zQE roster aG aM aY) Z
end
variable {n low high bJ nG bQ nA aA aY bu:Int} {Z Z1:St} {Q:vPa} {l roster q2:oAa} {l_l l_c aG aM l2 c2:Nat} {Inv:Nat->Int->St->Prop} {Qr Pr:Bool->St->Prop} {Q0 P0:St->Prop} {l_a fe:Addr} {Nx:Int->St->Prop} {fy t6_1:Bool}
theorem xES (nx:Q (.bool true) Z) (u1:low<=n:=by omega) (u2:n<=high:=by omega):qg 47 [iV n,iV low,iV high] Z Q :=
 zH [.g,.g,.g,.b true,.g,.g,.g,.b true,.g,.g] (kd (an2 (yE u1) (yE u2) nx))
theorem xER (nx:Q (.bool false) Z) (u1:low<=n:=by omega) (u2:¬ n<=high:=by omega):qg 47 [iV n,iV low,iV high] Z Q :=
 zH [.g,.g,.g,.b true,.g,.g,.g,.b false,.g,.g] (kd (an2 (yE u1) (yH u2) nx))
theorem yEY (nx:Q (.bool false) Z) (u1:¬ low<=n:=by omega):qg 47 [iV n,iV low,iV high] Z Q :=
 zH [.g,.g,.g,.b false,.g,.g,.g] (kd (ai (yH u1) nx))
theorem xZZ (nx:Q (.bool true) Z) (u1:low<=n:=by omega) (u2:n<=high:=by omega):qg 33 [iV n,iV low,iV high] Z Q :=
 zH [.g,.g,.g,.b true,.g,.g,.g,.b true,.g,.g] (kd (an2 (yE u1) (yE u2) nx))
theorem xZY (nx:Q (.bool false) Z) (u1:low<=n:=by omega) (u2:¬ n<=high:=by omega):qg 33 [iV n,iV low,iV high] Z Q :=
 zH [.g,.g,.g,.b true,.g,.g,.g,.b false,.g,.g] (kd (an2 (yE u1) (yH u2) nx))
theorem xMY (nx:Q (.bool false) Z) (u1:¬ low<=n:=by omega):qg 33 [iV n,iV low,iV high] Z Q :=
 zH [.g,.g,.g,.b false,.g,.g,.g] (kd (ai (yH u1) nx))
theorem yVY (hb:∀ k bJ Z,Inv k bJ Z->zXE l l_l l_c n bJ Z (NX1 Inv k) Qr Q0):∀ k bJ Z,Inv k bJ Z->xCJ l l_l l_c n bJ Z Qr Q0 :=
 xE (ai uZ (ai (xV 0) trivial)) hb
theorem xNC (h1:lz Z 3 (zJ l_a (Int.toNat bJ*1)) (iV nG)) (nx:Qr true Z) (u1:bJ<(l_l:Int):=by omega) (u2:Ix bJ l_l:=by omega) (u3:nG=n:=by omega):zXE (some l_a) l_l l_c n bJ Z Nx Qr Q0 :=
 kO 1 true [.g,.g,.g,.b true,.g,.g,.i,.l (iV nG),.g,.b true,.g] (fun _ f=>an4 (zR u1) u2 h1 (xK u3) f) nx
theorem xNB (h1:lz Z 3 (zJ l_a (Int.toNat bJ*1)) (iV nG)) (nx:Nx (bJ+1) Z) (u1:bJ<(l_l:Int):=by omega) (u2:Ix bJ l_l:=by omega) (u3:¬ nG=n:=by omega) (u4:I6 (bJ+1):=by omega):zXE (some l_a) l_l l_c n bJ Z Nx Qr Q0 :=
 kO 0 (bJ+1) [.g,.g,.g,.b true,.g,.g,.i,.l (iV nG),.g,.b false,.g,.n (bJ+1),.g] (fun _ f=>an5 (zR u1) u2 h1 (xI u3) (w64 u4) f) nx
theorem xNA (nx:Q0 Z) (u1:¬ bJ<(l_l:Int):=by omega):zXE l l_l l_c n bJ Z Nx Qr Q0 :=
 kO 2 () [.g,.g,.g,.b false] (fun _ f=>ai (zT u1) f) nx
theorem xVA (hL:xCJ l l_l l_c n 0 Z Pr P0) (kr:∀ t4_1' Z',Pr t4_1' Z'->yFP l l_l l_c n t4_1' Z' Q) (k0:∀ Z',P0 Z'->yFQ l l_l l_c n Z' Q):qg 43 [.slice l l_l l_c,iV n] Z Q :=
 zH [.g,.g,.lf 18 (zQD l l_l l_c n 0) [zSG l l_l l_c n Pr,zSH l l_l l_c n P0]] (kd (ai (ai tt (ai (arf (zQD l l_l l_c n 0)) hL)) (ai (kz1 kr) (ai (kz0 k0) trivial))))
theorem yVW (nx:Q (.bool fy) Z):yFP l l_l l_c n fy Z Q :=
 sK [] nx
theorem yVX (nx:Q (.bool false) Z):yFQ l l_l l_c n Z Q :=
 sK [.g] nx
theorem yKA (hb:∀ k bQ Z,Inv k bQ Z->zDE l l_l l_c low high bQ Z (NX1 Inv k) Qr Q0):∀ k bQ Z,Inv k bQ Z->yFM l l_l l_c low high bQ Z Qr Q0 :=
 xE (ai uZ (ai (xV 0) trivial)) hb
theorem yVT (h1:lz Z 3 (zJ l_a (Int.toNat bQ*1)) (iV nG)) (h2:qm 33 [iV nG,iV low,iV high] Z (.bool true) Z) (h3:lz Z 3 (zJ l_a (Int.toNat (bQ-1)*1)) (iV nA)) (nx:Qr false Z) (u1:bQ<(l_l:Int):=by omega) (u2:Ix bQ l_l:=by omega) (u3:0<bQ:=by omega) (u4:I6 (bQ-1):=by omega) (u5:Ix (bQ-1) l_l:=by omega) (u6:nG<=nA:=by omega):zDE (some l_a) l_l l_c low high bQ Z Nx Qr Q0 :=
 kO 1 false [.g,.g,.g,.b true,.g,.g,.i,.l (iV nG),.g,.g,.c (.bool true) Z,.g,.g,.g,.b true,.g,.g,.g,.i,.l (iV nG),.g,.g,.n (bQ-1),.i,.l (iV nA),.b true,.g,.g,.g] (fun _ f=>an5 (zR u1) u2 h1 h2 (zR u3) (an6 u2 h1 (w64 u4) u5 h3 (yE u6) f)) nx
theorem yVS (h1:lz Z 3 (zJ l_a (Int.toNat bQ*1)) (iV nG)) (h2:qm 33 [iV nG,iV low,iV high] Z (.bool true) Z) (h3:lz Z 3 (zJ l_a (Int.toNat (bQ-1)*1)) (iV nA)) (nx:Nx (bQ+1) Z) (u1:bQ<(l_l:Int):=by omega) (u2:Ix bQ l_l:=by omega) (u3:0<bQ:=by omega) (u4:I6 (bQ-1):=by omega) (u5:Ix (bQ-1) l_l:=by omega) (u6:¬ nG<=nA:=by omega) (u7:I6 (bQ+1):=by omega):zDE (some l_a) l_l l_c low high bQ Z Nx Qr Q0 :=
 kO 0 (bQ+1) [.g,.g,.g,.b true,.g,.g,.i,.l (iV nG),.g,.g,.c (.bool true) Z,.g,.g,.g,.b true,.g,.g,.g,.i,.l (iV nG),.g,.g,.n (bQ-1),.i,.l (iV nA),.b false,.g,.g,.g,.n (bQ+1),.g] (fun _ f=>an6 (zR u1) u2 h1 h2 (zR u3) u2 (an6 h1 (w64 u4) u5 h3 (yH u6) (w64 u7) f)) nx
theorem yVR (h1:lz Z 3 (zJ l_a (Int.toNat bQ*1)) (iV nG)) (h2:qm 33 [iV nG,iV low,iV high] Z (.bool true) Z) (nx:Nx (bQ+1) Z) (u1:bQ<(l_l:Int):=by omega) (u2:Ix bQ l_l:=by omega) (u3:¬ 0<bQ:=by omega) (u4:I6 (bQ+1):=by omega):zDE (some l_a) l_l l_c low high bQ Z Nx Qr Q0 :=
 kO 0 (bQ+1) [.g,.g,.g,.b true,.g,.g,.i,.l (iV nG),.g,.g,.c (.bool true) Z,.g,.g,.g,.b false,.g,.g,.g,.g,.n (bQ+1),.g] (fun _ f=>an6 (zR u1) u2 h1 h2 (zT u3) (w64 u4) f) nx
theorem yVQ (h1:lz Z 3 (zJ l_a (Int.toNat bQ*1)) (iV nG)) (h2:qm 33 [iV nG,iV low,iV high] Z (.bool false) Z) (nx:Qr false Z) (u1:bQ<(l_l:Int):=by omega) (u2:Ix bQ l_l:=by omega):zDE (some l_a) l_l l_c low high bQ Z Nx Qr Q0 :=
 kO 1 false [.g,.g,.g,.b true,.g,.g,.i,.l (iV nG),.g,.g,.c (.bool false) Z,.g,.g,.g,.g] (fun _ f=>an4 (zR u1) u2 h1 h2 f) nx
theorem yVP (nx:Q0 Z) (u1:¬ bQ<(l_l:Int):=by omega):zDE l l_l l_c low high bQ Z Nx Qr Q0 :=
 kO 2 () [.g,.g,.g,.b false] (fun _ f=>ai (zT u1) f) nx
theorem xFT (hL:yFM l l_l l_c low high 0 Z Pr P0) (kr:∀ t6_1' Z',Pr t6_1' Z'->zUX l l_l l_c low high t6_1' Z' Q) (k0:∀ Z',P0 Z'->zUY l l_l l_c low high Z' Q):qg 42 [.slice l l_l l_c,iV low,iV high] Z Q :=
 zH [.g,.g,.lf 38 (zFW l l_l l_c low high 0) [zJM l l_l l_c low high Pr,zJN l l_l l_c low high P0]] (kd (ai (ai tt (ai (arf (zFW l l_l l_c low high 0)) hL)) (ai (kz1 kr) (ai (kz0 k0) trivial))))
theorem yJY (nx:Q (.bool t6_1) Z):zUX l l_l l_c low high t6_1 Z Q :=
 sK [] nx
theorem yJZ (nx:Q (.bool true) Z):zUY l l_l l_c low high Z Q :=
 sK [.g] nx
theorem yOG (hb:∀ k aA Z,Inv k aA Z->zFU l l_l l_c low high aA Z (NX1 Inv k) Qr Q0):∀ k aA Z,Inv k aA Z->yOI l l_l l_c low high aA Z Qr Q0 :=
 xE (ai uZ (ai (xV 0) trivial)) hb
theorem xFQ (h1:lz Z 3 (zJ l_a (Int.toNat aA*1)) (iV nG)) (h2:qm 47 [iV nG,iV low,iV high] Z (.bool true) Z) (h3:lz Z 3 (zJ l_a (Int.toNat (aA-1)*1)) (iV nA)) (nx:Qr false Z) (u1:aA<(l_l:Int):=by omega) (u2:Ix aA l_l:=by omega) (u3:0<aA:=by omega) (u4:I6 (aA-1):=by omega) (u5:Ix (aA-1) l_l:=by omega) (u6:nG<=nA:=by omega):zFU (some l_a) l_l l_c low high aA Z Nx Qr Q0 :=
 kO 1 false [.b true,.g,.i,.l (iV nG),.g,.g,.g,.g,.g,.c (.bool true) Z,.g,.g,.g,.b true,.g,.g,.g,.g,.n (aA-1),.i,.l (iV nA),.b true,.g,.g,.g] (fun _ f=>an3 (zR u1) u2 h1 (an6 h2 (zR u3) (w64 u4) u5 h3 (yE u6) f)) nx
theorem xFP (h1:lz Z 3 (zJ l_a (Int.toNat aA*1)) (iV nG)) (h2:qm 47 [iV nG,iV low,iV high] Z (.bool true) Z) (h3:lz Z 3 (zJ l_a (Int.toNat (aA-1)*1)) (iV nA)) (nx:Nx (aA+1) Z) (u1:aA<(l_l:Int):=by omega) (u2:Ix aA l_l:=by omega) (u3:0<aA:=by omega) (u4:I6 (aA-1):=by omega) (u5:Ix (aA-1) l_l:=by omega) (u6:¬ nG<=nA:=by omega) (u7:I6 (aA+1):=by omega):zFU (some l_a) l_l l_c low high aA Z Nx Qr Q0 :=
 kO 0 (aA+1) [.b true,.g,.i,.l (iV nG),.g,.g,.g,.g,.g,.c (.bool true) Z,.g,.g,.g,.b true,.g,.g,.g,.g,.n (aA-1),.i,.l (iV nA),.b false,.g,.g,.n (aA+1),.g] (fun _ f=>an4 (zR u1) u2 h1 h2 (an6 (zR u3) (w64 u4) u5 h3 (yH u6) (w64 u7) f)) nx
theorem xFO (h1:lz Z 3 (zJ l_a (Int.toNat aA*1)) (iV nG)) (h2:qm 47 [iV nG,iV low,iV high] Z (.bool true) Z) (nx:Nx (aA+1) Z) (u1:aA<(l_l:Int):=by omega) (u2:Ix aA l_l:=by omega) (u3:¬ 0<aA:=by omega) (u4:I6 (aA+1):=by omega):zFU (some l_a) l_l l_c low high aA Z Nx Qr Q0 :=
 kO 0 (aA+1) [.b true,.g,.i,.l (iV nG),.g,.g,.g,.g,.g,.c (.bool true) Z,.g,.g,.g,.b false,.g,.g,.g,.n (aA+1),.g] (fun _ f=>an6 (zR u1) u2 h1 h2 (zT u3) (w64 u4) f) nx
theorem xFN (h1:lz Z 3 (zJ l_a (Int.toNat aA*1)) (iV nG)) (h2:qm 47 [iV nG,iV low,iV high] Z (.bool false) Z) (nx:Qr false Z) (u1:aA<(l_l:Int):=by omega) (u2:Ix aA l_l:=by omega):zFU (some l_a) l_l l_c low high aA Z Nx Qr Q0 :=
 kO 1 false [.b true,.g,.i,.l (iV nG),.g,.g,.g,.g,.g,.c (.bool false) Z,.g,.g,.g,.g] (fun _ f=>an4 (zR u1) u2 h1 h2 f) nx
theorem xFM (nx:Q0 Z) (u1:¬ aA<(l_l:Int):=by omega):zFU l l_l l_c low high aA Z Nx Qr Q0 :=
 kO 2 () [.b false] (fun _ f=>ai (zT u1) f) nx
theorem xMM (hL:yOI l l_l l_c low high 0 Z Pr P0) (kr:∀ t6_1' Z',Pr t6_1' Z'->zZF l l_l l_c low high t6_1' Z' Q) (k0:∀ Z',P0 Z'->zZG l l_l l_c low high Z' Q):qg 71 [.slice l l_l l_c,iV low,iV high] Z Q :=
 zH [.g,.g,.g,.g,.lf 35 (zJH l l_l l_c low high 0) [zOD l l_l l_c low high Pr,zOE l l_l l_c low high P0]] (kd (ai (ai tt (ai (arf (zJH l l_l l_c low high 0)) hL)) (ai (kz1 kr) (ai (kz0 k0) trivial))))
theorem yOE (nx:Q (.bool t6_1) Z):zZF l l_l l_c low high t6_1 Z Q :=
 sK [] nx
theorem yOF (nx:Q (.bool true) Z):zZG l l_l l_c low high Z Q :=
 sK [.g] nx
theorem yEI {Inv:Nat->Int->Int->St->Prop} {Q0:Int->St->Prop} (hb:∀ k aY bu Z,Inv k aY bu Z->zHG roster aG aM aY bu Z (NX2 Inv k) Q0):∀ k aY bu Z,Inv k aY bu Z->zZO roster aG aM aY bu Z Q0 :=
 zCR (ai (xV 0) trivial) hb
theorem yOS {Nx:Int->Int->St->Prop} {Q0:Int->St->Prop} (h1:lz Z 3 (zJ fe (Int.toNat bu*1)) (iV nG)) (nx:Nx (aY+1) (bu+1) Z) (u1:bu<(aG:Int):=by omega) (u2:Ix bu aG:=by omega) (u3:0<=nG:=by omega) (u4:I6 (aY+1):=by omega) (u5:I6 (bu+1):=by omega):zHG (some fe) aG aM aY bu Z Nx Q0 :=
 kO 0 (aY+1,bu+1) [.g,.g,.g,.b true,.g,.g,.i,.l (iV nG),.b true,.g,.n (aY+1),.g,.g,.n (bu+1),.g] (fun _ f=>an6 (zR u1) u2 h1 (yE u3) (w64 u4) (w64 u5) f) nx
theorem yOR {Nx:Int->Int->St->Prop} {Q0:Int->St->Prop} (h1:lz Z 3 (zJ fe (Int.toNat bu*1)) (iV nG)) (nx:Nx aY (bu+1) Z) (u1:bu<(aG:Int):=by omega) (u2:Ix bu aG:=by omega) (u3:¬ 0<=nG:=by omega) (u4:I6 (bu+1):=by omega):zHG (some fe) aG aM aY bu Z Nx Q0 :=
 kO 0 (aY,bu+1) [.g,.g,.g,.b true,.g,.g,.i,.l (iV nG),.b false,.g,.n (bu+1),.g] (fun _ f=>an5 (zR u1) u2 h1 (yH u3) (w64 u4) f) nx
theorem yOQ {Nx:Int->Int->St->Prop} {Q0:Int->St->Prop} (nx:Q0 aY Z) (u1:¬ bu<(aG:Int):=by omega):zHG roster aG aM aY bu Z Nx Q0 :=
 kO 1 aY [.g,.g,.g,.b false] (fun _ f=>ai (zT u1) f) nx
theorem yWQ {P0:Int->St->Prop} (hL:zZO roster aG aM 0 0 Z P0) (k0:∀ i3_1' Z',P0 i3_1' Z'->zQF roster aG aM i3_1' Z' Q):qg 27 [.slice roster aG aM] Z Q :=
 zH [.g,.g,.g,.lf 19 (zDX roster aG aM 0 0) [zHF roster aG aM P0]] (kd (ai (ai tt (ai (arf (zDX roster aG aM 0 0)) hL)) (ai (kz1 k0) trivial)))
theorem yEH (nx:Q (iV aY) Z):zQF roster aG aM aY Z Q :=
 sK [.g,.g] nx
theorem xWF (h1:yF Pg 26 26 (.slice (some (qe Z.y 0)) 0 0) (.slice l l_l l_c) (Z.row [] 1)=some (.slice q2 l2 c2,Z1)) (nx:Q (.slice q2 l2 c2) Z1):qg 19 [.slice l l_l l_c] Z Q :=
 zH [.g,.g,.g,.e (.slice q2 l2 c2) Z1,.g] (kd (ai h1 nx))
end
end Go.Proofs.YtgfiniccfpfplaaGreat
