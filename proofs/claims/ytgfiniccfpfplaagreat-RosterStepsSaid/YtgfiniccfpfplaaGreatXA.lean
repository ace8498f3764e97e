import Derived.Test.YtgfiniccfpfplaaGreatTy
import Derived.Test.YtgfiniccfpfplaaGreatLayD
set_option linter.unusedVariables false
set_option linter.unusedSimpArgs false
set_option maxRecDepth 20000
namespace Go.Proofs.YtgfiniccfpfplaaGreat
open Go Go.Lay
open Tryz renaming prog -> Pg
structure Rec where
 k:Int
 a:Int
 b:Int
 deriving DecidableEq,Inhabited
abbrev zZ (n:Int):Value:=iV n
abbrev zBF (x:Rec):List Value:=rcd x.k x.a x.b
abbrev zER (x:Rec):Value:=.agg ⟨zBF x⟩
def inB (n lo hi:Int):Bool:=decide (lo<=n) && decide (n<=hi)
theorem vG {n lo hi:Int}:inB n lo hi=true↔lo<=n/\n<=hi:=by simp [inB]
theorem yGA {n lo hi:Int}:inB n lo hi=false↔¬ (lo<=n/\n<=hi):=by rw [<- Bool.not_eq_true,vG]
theorem wA {α:Type} {xs:List α} {i:Nat} {x:α} (h:xs[i]?=some x):xs.take (i+1)=xs.take i++[x]:=by
 rw [List.take_add_one,h];rfl
theorem le0 (Z:St):Le Z Z.re:=Le.re' (Le.refl _)
section
noncomputable section
variable (l roster:oAa) (l_l aA l_c aD:Nat) (low n aV high dp bi aH bM:Int) (q4:Int->Int->St->Prop) (fS t6_1:Bool) (q3:St->Prop) (q0:Int->St->Prop) (q1:Bool->St->Prop) (Z:St) (Q:vPa) (q5:Int->Int->St->Prop) (Nx q6:Int->St->Prop) (Qr:Bool->St->Prop) (Q0:St->Prop)
def xAU:Code:=(Code.part [1,0,1,0,0] (qh 43))
def zPU:lNa:=[(0,.slice l l_l l_c),(1,iV n),(5,iV dp)]
def xKW:Alt:=⟨Int,.normal,fun t=>zPU l l_l l_c n t,fun t=>[],fun t Z=>q0 t Z⟩
def yEJ (l:oAa) (l_l l_c:Nat) (n:Int) (fS:Bool):lNa:=[(4,.bool fS)]
def zRX:Alt:=⟨Bool,.ret,fun t=>yEJ l l_l l_c n t,fun t=>[],fun t Z=>q1 t Z⟩
def yEK (l:oAa) (l_l l_c:Nat) (n:Int):lNa:=[]
def zRY:Alt:=⟨Unit,(.exit 0),fun t=>yEK l l_l l_c n,fun t=>[],fun t Z=>q3 Z⟩
def zWM:Prop:=qi qj none xAU 18 (zPU l l_l l_c n dp) [] [xKW l l_l l_c n Nx,zRX l l_l l_c n Qr,zRY l l_l l_c n Q0] Z
def xAV:Prop:=qk qj none xAU 18 (zPU l l_l l_c n dp) [] [zRX l l_l l_c n Qr,zRY l l_l l_c n Q0] Z
def yEL:Prop:=kZ qj (qh 43) [1,0,1,0] (ql 43 Q) .ret 18 (yEJ l l_l l_c n fS) Z
def yEM:Prop:=kZ qj (qh 43) [1,0,1,0] (ql 43 Q) (.exit 0) 18 (yEK l l_l l_c n) Z
def yEH:Code:=(Code.part [1,0,1,0,0] (qh 42))
def zFW:lNa:=[(0,.slice l l_l l_c),(1,iV low),(2,iV high),(7,iV bM)]
def yUD:Alt:=⟨Int,.normal,fun t=>zFW l l_l l_c low high t,fun t=>[],fun t Z=>q0 t Z⟩
def zUE (l:oAa) (l_l l_c:Nat) (low high:Int) (t6_1:Bool):lNa:=[(6,.bool t6_1)]
def zJK:Alt:=⟨Bool,.ret,fun t=>zUE l l_l l_c low high t,fun t=>[],fun t Z=>q1 t Z⟩
def zUF (l:oAa) (l_l l_c:Nat) (low high:Int):lNa:=[]
def zJL:Alt:=⟨Unit,(.exit 0),fun t=>zUF l l_l l_c low high,fun t=>[],fun t Z=>q3 Z⟩
def zDH:Prop:=qi qj none yEH 38 (zFW l l_l l_c low high bM) [] [yUD l l_l l_c low high Nx,zJK l l_l l_c low high Qr,zJL l l_l l_c low high Q0] Z
def yEI:Prop:=qk qj none yEH 38 (zFW l l_l l_c low high bM) [] [zJK l l_l l_c low high Qr,zJL l l_l l_c low high Q0] Z
def zUG:Prop:=kZ qj (qh 42) [1,0,1,0] (ql 42 Q) .ret 38 (zUE l l_l l_c low high t6_1) Z
def zUH:Prop:=kZ qj (qh 42) [1,0,1,0] (ql 42 Q) (.exit 0) 38 (zUF l l_l l_c low high) Z
def yNE:Code:=(Code.part [1,0,1,0,0] (qh 71))
def zJF:lNa:=[(0,.slice l l_l l_c),(1,iV low),(2,iV high),(9,.slice l l_l l_c),(10,iV (l_l:Int)),(11,iV aH)]
def xEC:Alt:=⟨Int,.normal,fun t=>zJF l l_l l_c low high t,fun t=>[],fun t Z=>q0 t Z⟩
def zYK (l:oAa) (l_l l_c:Nat) (low high:Int) (t6_1:Bool):lNa:=[(6,.bool t6_1)]
def zNU:Alt:=⟨Bool,.ret,fun t=>zYK l l_l l_c low high t,fun t=>[],fun t Z=>q1 t Z⟩
def zYL (l:oAa) (l_l l_c:Nat) (low high:Int):lNa:=[]
def zNV:Alt:=⟨Unit,(.exit 0),fun t=>zYL l l_l l_c low high,fun t=>[],fun t Z=>q3 Z⟩
def zFU:Prop:=qi qj none yNE 35 (zJF l l_l l_c low high aH) [] [xEC l l_l l_c low high Nx,zNU l l_l l_c low high Qr,zNV l l_l l_c low high Q0] Z
def yNF:Prop:=qk qj none yNE 35 (zJF l l_l l_c low high aH) [] [zNU l l_l l_c low high Qr,zNV l l_l l_c low high Q0] Z
def zYM:Prop:=kZ qj (qh 71) [1,0,1,0] (ql 71 Q) .ret 35 (zYK l l_l l_c low high t6_1) Z
def zYN:Prop:=kZ qj (qh 71) [1,0,1,0] (ql 71 Q) (.exit 0) 35 (zYL l l_l l_c low high) Z
def zYU:Code:=(Code.part [1,1,0,1,0,0] (qh 27))
def zDZ:lNa:=[(0,.slice roster aA aD),(3,iV aV),(4,iV bi)]
def yNR:Alt:=⟨Int × Int,.normal,fun t=>zDZ roster aA aD t.1 t.2,fun t=>[],fun t Z=>q4 t.1 t.2 Z⟩
def zPV (roster:oAa) (aA aD:Nat) (aV:Int):lNa:=[(3,iV aV)]
def zHG:Alt:=⟨Int,(.exit 0),fun t=>zPV roster aA aD t,fun t=>[],fun t Z=>q0 t Z⟩
def zHH:Prop:=qi qj none zYU 19 (zDZ roster aA aD aV bi) [] [yNR roster aA aD q5,zHG roster aA aD q6] Z
def zYV:Prop:=qk qj none zYU 19 (zDZ roster aA aD aV bi) [] [zHG roster aA aD q6] Z
def zPW:Prop:=kZ qj (qh 27) [1,1,0,1,0] (ql 27 Q) (.exit 0) 19 (zPV roster aA aD aV) Z
end
variable {n low high dp nE bM nA aH aV bi duty dg:Int} {Z Z1 Z3:St} {Q:vPa} {l roster q2:oAa} {l_l l_c aA aD l2 c2:Nat} {Inv:Nat->Int->St->Prop} {Qr Pr:Bool->St->Prop} {Q0 P0:St->Prop} {l_a eO q2_a:Addr} {Nx:Int->St->Prop} {fS t6_1:Bool}
theorem xDD (nx:Q (.bool true) Z) (u1:low<=n:=by omega) (u2:n<=high:=by omega):qg 47 [iV n,iV low,iV high] Z Q :=
 zG [.g,.g,.g,.b true,.g,.g,.g,.b true,.g,.g] (kd (an2 (yE u1) (yE u2) nx))
theorem xDC (nx:Q (.bool false) Z) (u1:low<=n:=by omega) (u2:¬ n<=high:=by omega):qg 47 [iV n,iV low,iV high] Z Q :=
 zG [.g,.g,.g,.b true,.g,.g,.g,.b false,.g,.g] (kd (an2 (yE u1) (yH u2) nx))
theorem yDV (nx:Q (.bool false) Z) (u1:¬ low<=n:=by omega):qg 47 [iV n,iV low,iV high] Z Q :=
 zG [.g,.g,.g,.b false,.g,.g,.g] (kd (ai (yH u1) nx))
theorem xXR (nx:Q (.bool true) Z) (u1:low<=n:=by omega) (u2:n<=high:=by omega):qg 33 [iV n,iV low,iV high] Z Q :=
 zG [.g,.g,.g,.b true,.g,.g,.g,.b true,.g,.g] (kd (an2 (yE u1) (yE u2) nx))
theorem xXQ (nx:Q (.bool false) Z) (u1:low<=n:=by omega) (u2:¬ n<=high:=by omega):qg 33 [iV n,iV low,iV high] Z Q :=
 zG [.g,.g,.g,.b true,.g,.g,.g,.b false,.g,.g] (kd (an2 (yE u1) (yH u2) nx))
theorem xKQ (nx:Q (.bool false) Z) (u1:¬ low<=n:=by omega):qg 33 [iV n,iV low,iV high] Z Q :=
 zG [.g,.g,.g,.b false,.g,.g,.g] (kd (ai (yH u1) nx))
theorem yUH (hb:∀ k dp Z,Inv k dp Z->zWM l l_l l_c n dp Z (NX1 Inv k) Qr Q0):∀ k dp Z,Inv k dp Z->xAV l l_l l_c n dp Z Qr Q0 :=
 xF (ai zAR (ai (xX 0) trivial)) hb
theorem xKU (h1:lz Z 3 (zL l_a (Int.toNat dp*1)) (iV nE)) (nx:Qr true Z) (u1:dp<(l_l:Int):=by omega) (u2:Ix dp l_l:=by omega) (u3:nE=n:=by omega):zWM (some l_a) l_l l_c n dp Z Nx Qr Q0 :=
 kO 1 true [.g,.g,.g,.b true,.g,.g,.i,.l (iV nE),.g,.b true,.g] (fun _ f=>an4 (zR u1) u2 h1 (xK u3) f) nx
theorem xKT (h1:lz Z 3 (zL l_a (Int.toNat dp*1)) (iV nE)) (nx:Nx (dp+1) Z) (u1:dp<(l_l:Int):=by omega) (u2:Ix dp l_l:=by omega) (u3:¬ nE=n:=by omega) (u4:I6 (dp+1):=by omega):zWM (some l_a) l_l l_c n dp Z Nx Qr Q0 :=
 kO 0 (dp+1) [.g,.g,.g,.b true,.g,.g,.i,.l (iV nE),.g,.b false,.g,.n (dp+1),.g] (fun _ f=>an5 (zR u1) u2 h1 (xH u3) (w64 u4) f) nx
theorem xKS (nx:Q0 Z) (u1:¬ dp<(l_l:Int):=by omega):zWM l l_l l_c n dp Z Nx Qr Q0 :=
 kO 2 () [.g,.g,.g,.b false] (fun _ f=>ai (zT u1) f) nx
theorem xSW (hL:xAV l l_l l_c n 0 Z Pr P0) (kr:∀ t4_1' Z',Pr t4_1' Z'->yEL l l_l l_c n t4_1' Z' Q) (k0:∀ Z',P0 Z'->yEM l l_l l_c n Z' Q):qg 43 [.slice l l_l l_c,iV n] Z Q :=
 zG [.g,.g,.lf 18 (zPU l l_l l_c n 0) [zRX l l_l l_c n Pr,zRY l l_l l_c n P0]] (kd (ai (ai tt (ai (arf (zPU l l_l l_c n 0)) hL)) (ai (kz1 kr) (ai (kz0 k0) trivial))))
theorem yUF (nx:Q (.bool fS) Z):yEL l l_l l_c n fS Z Q :=
 sK [] nx
theorem yUG (nx:Q (.bool false) Z):yEM l l_l l_c n Z Q :=
 sK [.g] nx
theorem yIV (hb:∀ k bM Z,Inv k bM Z->zDH l l_l l_c low high bM Z (NX1 Inv k) Qr Q0):∀ k bM Z,Inv k bM Z->yEI l l_l l_c low high bM Z Qr Q0 :=
 xF (ai zAR (ai (xX 0) trivial)) hb
theorem yUC (h1:lz Z 3 (zL l_a (Int.toNat bM*1)) (iV nE)) (h2:qm 33 [iV nE,iV low,iV high] Z (.bool true) Z) (h3:lz Z 3 (zL l_a (Int.toNat (bM-1)*1)) (iV nA)) (nx:Qr false Z) (u1:bM<(l_l:Int):=by omega) (u2:Ix bM l_l:=by omega) (u3:0<bM:=by omega) (u4:I6 (bM-1):=by omega) (u5:Ix (bM-1) l_l:=by omega) (u6:nE<=nA:=by omega):zDH (some l_a) l_l l_c low high bM Z Nx Qr Q0 :=
 kO 1 false [.g,.g,.g,.b true,.g,.g,.i,.l (iV nE),.g,.g,.c (.bool true) Z,.g,.g,.g,.b true,.g,.g,.g,.i,.l (iV nE),.g,.g,.n (bM-1),.i,.l (iV nA),.b true,.g,.g,.g] (fun _ f=>an5 (zR u1) u2 h1 h2 (zR u3) (an6 u2 h1 (w64 u4) u5 h3 (yE u6) f)) nx
theorem yUB (h1:lz Z 3 (zL l_a (Int.toNat bM*1)) (iV nE)) (h2:qm 33 [iV nE,iV low,iV high] Z (.bool true) Z) (h3:lz Z 3 (zL l_a (Int.toNat (bM-1)*1)) (iV nA)) (nx:Nx (bM+1) Z) (u1:bM<(l_l:Int):=by omega) (u2:Ix bM l_l:=by omega) (u3:0<bM:=by omega) (u4:I6 (bM-1):=by omega) (u5:Ix (bM-1) l_l:=by omega) (u6:¬ nE<=nA:=by omega) (u7:I6 (bM+1):=by omega):zDH (some l_a) l_l l_c low high bM Z Nx Qr Q0 :=
 kO 0 (bM+1) [.g,.g,.g,.b true,.g,.g,.i,.l (iV nE),.g,.g,.c (.bool true) Z,.g,.g,.g,.b true,.g,.g,.g,.i,.l (iV nE),.g,.g,.n (bM-1),.i,.l (iV nA),.b false,.g,.g,.g,.n (bM+1),.g] (fun _ f=>an6 (zR u1) u2 h1 h2 (zR u3) u2 (an6 h1 (w64 u4) u5 h3 (yH u6) (w64 u7) f)) nx
theorem yUA (h1:lz Z 3 (zL l_a (Int.toNat bM*1)) (iV nE)) (h2:qm 33 [iV nE,iV low,iV high] Z (.bool true) Z) (nx:Nx (bM+1) Z) (u1:bM<(l_l:Int):=by omega) (u2:Ix bM l_l:=by omega) (u3:¬ 0<bM:=by omega) (u4:I6 (bM+1):=by omega):zDH (some l_a) l_l l_c low high bM Z Nx Qr Q0 :=
 kO 0 (bM+1) [.g,.g,.g,.b true,.g,.g,.i,.l (iV nE),.g,.g,.c (.bool true) Z,.g,.g,.g,.b false,.g,.g,.g,.g,.n (bM+1),.g] (fun _ f=>an6 (zR u1) u2 h1 h2 (zT u3) (w64 u4) f) nx
theorem yTZ (h1:lz Z 3 (zL l_a (Int.toNat bM*1)) (iV nE)) (h2:qm 33 [iV nE,iV low,iV high] Z (.bool false) Z) (nx:Qr false Z) (u1:bM<(l_l:Int):=by omega) (u2:Ix bM l_l:=by omega):zDH (some l_a) l_l l_c low high bM Z Nx Qr Q0 :=
 kO 1 false [.g,.g,.g,.b true,.g,.g,.i,.l (iV nE),.g,.g,.c (.bool false) Z,.g,.g,.g,.g] (fun _ f=>an4 (zR u1) u2 h1 h2 f) nx
theorem yTY (nx:Q0 Z) (u1:¬ bM<(l_l:Int):=by omega):zDH l l_l l_c low high bM Z Nx Qr Q0 :=
 kO 2 () [.g,.g,.g,.b false] (fun _ f=>ai (zT u1) f) nx
theorem xEE (hL:yEI l l_l l_c low high 0 Z Pr P0) (kr:∀ t6_1' Z',Pr t6_1' Z'->zUG l l_l l_c low high t6_1' Z' Q) (k0:∀ Z',P0 Z'->zUH l l_l l_c low high Z' Q):qg 42 [.slice l l_l l_c,iV low,iV high] Z Q :=
 zG [.g,.g,.lf 38 (zFW l l_l l_c low high 0) [zJK l l_l l_c low high Pr,zJL l l_l l_c low high P0]] (kd (ai (ai tt (ai (arf (zFW l l_l l_c low high 0)) hL)) (ai (kz1 kr) (ai (kz0 k0) trivial))))
theorem yIT (nx:Q (.bool t6_1) Z):zUG l l_l l_c low high t6_1 Z Q :=
 sK [] nx
theorem yIU (nx:Q (.bool true) Z):zUH l l_l l_c low high Z Q :=
 sK [.g] nx
theorem yND (hb:∀ k aH Z,Inv k aH Z->zFU l l_l l_c low high aH Z (NX1 Inv k) Qr Q0):∀ k aH Z,Inv k aH Z->yNF l l_l l_c low high aH Z Qr Q0 :=
 xF (ai zAR (ai (xX 0) trivial)) hb
theorem xEB (h1:lz Z 3 (zL l_a (Int.toNat aH*1)) (iV nE)) (h2:qm 47 [iV nE,iV low,iV high] Z (.bool true) Z) (h3:lz Z 3 (zL l_a (Int.toNat (aH-1)*1)) (iV nA)) (nx:Qr false Z) (u1:aH<(l_l:Int):=by omega) (u2:Ix aH l_l:=by omega) (u3:0<aH:=by omega) (u4:I6 (aH-1):=by omega) (u5:Ix (aH-1) l_l:=by omega) (u6:nE<=nA:=by omega):zFU (some l_a) l_l l_c low high aH Z Nx Qr Q0 :=
 kO 1 false [.b true,.g,.i,.l (iV nE),.g,.g,.g,.g,.g,.c (.bool true) Z,.g,.g,.g,.b true,.g,.g,.g,.g,.n (aH-1),.i,.l (iV nA),.b true,.g,.g,.g] (fun _ f=>an3 (zR u1) u2 h1 (an6 h2 (zR u3) (w64 u4) u5 h3 (yE u6) f)) nx
theorem xEA (h1:lz Z 3 (zL l_a (Int.toNat aH*1)) (iV nE)) (h2:qm 47 [iV nE,iV low,iV high] Z (.bool true) Z) (h3:lz Z 3 (zL l_a (Int.toNat (aH-1)*1)) (iV nA)) (nx:Nx (aH+1) Z) (u1:aH<(l_l:Int):=by omega) (u2:Ix aH l_l:=by omega) (u3:0<aH:=by omega) (u4:I6 (aH-1):=by omega) (u5:Ix (aH-1) l_l:=by omega) (u6:¬ nE<=nA:=by omega) (u7:I6 (aH+1):=by omega):zFU (some l_a) l_l l_c low high aH Z Nx Qr Q0 :=
 kO 0 (aH+1) [.b true,.g,.i,.l (iV nE),.g,.g,.g,.g,.g,.c (.bool true) Z,.g,.g,.g,.b true,.g,.g,.g,.g,.n (aH-1),.i,.l (iV nA),.b false,.g,.g,.n (aH+1),.g] (fun _ f=>an4 (zR u1) u2 h1 h2 (an6 (zR u3) (w64 u4) u5 h3 (yH u6) (w64 u7) f)) nx
theorem xDZ (h1:lz Z 3 (zL l_a (Int.toNat aH*1)) (iV nE)) (h2:qm 47 [iV nE,iV low,iV high] Z (.bool true) Z) (nx:Nx (aH+1) Z) (u1:aH<(l_l:Int):=by omega) (u2:Ix aH l_l:=by omega) (u3:¬ 0<aH:=by omega) (u4:I6 (aH+1):=by omega):zFU (some l_a) l_l l_c low high aH Z Nx Qr Q0 :=
 kO 0 (aH+1) [.b true,.g,.i,.l (iV nE),.g,.g,.g,.g,.g,.c (.bool true) Z,.g,.g,.g,.b false,.g,.g,.g,.n (aH+1),.g] (fun _ f=>an6 (zR u1) u2 h1 h2 (zT u3) (w64 u4) f) nx
theorem xDY (h1:lz Z 3 (zL l_a (Int.toNat aH*1)) (iV nE)) (h2:qm 47 [iV nE,iV low,iV high] Z (.bool false) Z) (nx:Qr false Z) (u1:aH<(l_l:Int):=by omega) (u2:Ix aH l_l:=by omega):zFU (some l_a) l_l l_c low high aH Z Nx Qr Q0 :=
 kO 1 false [.b true,.g,.i,.l (iV nE),.g,.g,.g,.g,.g,.c (.bool false) Z,.g,.g,.g,.g] (fun _ f=>an4 (zR u1) u2 h1 h2 f) nx
theorem xDX (nx:Q0 Z) (u1:¬ aH<(l_l:Int):=by omega):zFU l l_l l_c low high aH Z Nx Qr Q0 :=
 kO 2 () [.b false] (fun _ f=>ai (zT u1) f) nx
theorem xKH (hL:yNF l l_l l_c low high 0 Z Pr P0) (kr:∀ t6_1' Z',Pr t6_1' Z'->zYM l l_l l_c low high t6_1' Z' Q) (k0:∀ Z',P0 Z'->zYN l l_l l_c low high Z' Q):qg 71 [.slice l l_l l_c,iV low,iV high] Z Q :=
 zG [.g,.g,.g,.g,.lf 35 (zJF l l_l l_c low high 0) [zNU l l_l l_c low high Pr,zNV l l_l l_c low high P0]] (kd (ai (ai tt (ai (arf (zJF l l_l l_c low high 0)) hL)) (ai (kz1 kr) (ai (kz0 k0) trivial))))
theorem yNB (nx:Q (.bool t6_1) Z):zYM l l_l l_c low high t6_1 Z Q :=
 sK [] nx
theorem yNC (nx:Q (.bool true) Z):zYN l l_l l_c low high Z Q :=
 sK [.g] nx
theorem yDE {Inv:Nat->Int->Int->St->Prop} {Q0:Int->St->Prop} (hb:∀ k aV bi Z,Inv k aV bi Z->zHH roster aA aD aV bi Z (NX2 Inv k) Q0):∀ k aV bi Z,Inv k aV bi Z->zYV roster aA aD aV bi Z Q0 :=
 zEB (ai (xX 0) trivial) hb
theorem yNQ {Nx:Int->Int->St->Prop} {Q0:Int->St->Prop} (h1:lz Z 3 (zL eO (Int.toNat bi*1)) (iV nE)) (nx:Nx (aV+1) (bi+1) Z) (u1:bi<(aA:Int):=by omega) (u2:Ix bi aA:=by omega) (u3:0<=nE:=by omega) (u4:I6 (aV+1):=by omega) (u5:I6 (bi+1):=by omega):zHH (some eO) aA aD aV bi Z Nx Q0 :=
 kO 0 (aV+1,bi+1) [.g,.g,.g,.b true,.g,.g,.i,.l (iV nE),.b true,.g,.n (aV+1),.g,.g,.n (bi+1),.g] (fun _ f=>an6 (zR u1) u2 h1 (yE u3) (w64 u4) (w64 u5) f) nx
theorem yNP {Nx:Int->Int->St->Prop} {Q0:Int->St->Prop} (h1:lz Z 3 (zL eO (Int.toNat bi*1)) (iV nE)) (nx:Nx aV (bi+1) Z) (u1:bi<(aA:Int):=by omega) (u2:Ix bi aA:=by omega) (u3:¬ 0<=nE:=by omega) (u4:I6 (bi+1):=by omega):zHH (some eO) aA aD aV bi Z Nx Q0 :=
 kO 0 (aV,bi+1) [.g,.g,.g,.b true,.g,.g,.i,.l (iV nE),.b false,.g,.n (bi+1),.g] (fun _ f=>an5 (zR u1) u2 h1 (yH u3) (w64 u4) f) nx
theorem yNO {Nx:Int->Int->St->Prop} {Q0:Int->St->Prop} (nx:Q0 aV Z) (u1:¬ bi<(aA:Int):=by omega):zHH roster aA aD aV bi Z Nx Q0 :=
 kO 1 aV [.g,.g,.g,.b false] (fun _ f=>ai (zT u1) f) nx
theorem yUZ {P0:Int->St->Prop} (hL:zYV roster aA aD 0 0 Z P0) (k0:∀ i3_1' Z',P0 i3_1' Z'->zPW roster aA aD i3_1' Z' Q):qg 27 [.slice roster aA aD] Z Q :=
 zG [.g,.g,.g,.lf 19 (zDZ roster aA aD 0 0) [zHG roster aA aD P0]] (kd (ai (ai tt (ai (arf (zDZ roster aA aD 0 0)) hL)) (ai (kz1 k0) trivial)))
theorem yDD (nx:Q (iV aV) Z):zPW roster aA aD aV Z Q :=
 sK [.g,.g] nx
theorem xKP (h1:yG Pg 26 26 (.slice (some (qe Z.y 0)) 0 0) (.slice roster aA aD) (Z.row [] 1)=some (.slice (some q2_a) l2 c2,Z1)) (h2:qn (evL [pz (zL q2_a (Int.toNat duty*1)),iV dg]) Z1 (.store 3 (.tmp 0) (.tmp 1))=some (undef,Z3)) (nx:Q (.slice (some q2_a) l2 c2) Z3) (u1:Ix duty l2:=by omega):qg 34 [.slice roster aA aD,iV duty,iV dg] Z Q :=
 zG [.g,.g,.g,.e (.slice (some q2_a) l2 c2) Z1,.g,.g,.g,.g,.i,.e undef Z3,.g,.g] (kd (an3 h1 u1 h2 nx))
theorem xUC (h1:yG Pg 26 26 (.slice (some (qe Z.y 0)) 0 0) (.slice l l_l l_c) (Z.row [] 1)=some (.slice q2 l2 c2,Z1)) (nx:Q (.slice q2 l2 c2) Z1):qg 19 [.slice l l_l l_c] Z Q :=
 zG [.g,.g,.g,.e (.slice q2 l2 c2) Z1,.g] (kd (ai h1 nx))
end
end Go.Proofs.YtgfiniccfpfplaaGreat
