import Derived.Test.YtgfiniccfpfplaaGreatTy
import Derived.Test.YtgfiniccfpfplaaGreatLayD
set_option linter.unusedVariables false
set_option linter.unusedSimpArgs false
set_option maxRecDepth 20000
namespace Go.Proofs.YtgfiniccfpfplaaGreat
open Go Go.Lay
open Tryz renaming prog -> Pg
structure Rec where
 k:Int
 a:Int
 b:Int
 deriving DecidableEq,Inhabited
abbrev yA (n:Int):Value:=iV n
abbrev zAY (x:Rec):List Value:=rcd x.k x.a x.b
abbrev zEO (x:Rec):Value:=.agg ⟨zAY x⟩
def inB (n lo hi:Int):Bool:=decide (lo<=n) && decide (n<=hi)
theorem uX {n lo hi:Int}:inB n lo hi=true↔lo<=n/\n<=hi:=by simp [inB]
theorem yFW {n lo hi:Int}:inB n lo hi=false↔¬ (lo<=n/\n<=hi):=by rw [<- Bool.not_eq_true,uX]
theorem xZ {α:Type} {xs:List α} {i:Nat} {x:α} (h:xs[i]?=some x):xs.take (i+1)=xs.take i++[x]:=by
 rw [List.take_add_one,h];rfl
theorem le0 (Z:St):Le Z Z.re:=Le.re' (Le.refl _)
section
noncomputable section
variable (l roster a_0:oAa) (l_l ax bj l_c ay bG:Nat) (n low bk aW high day bI aE bO:Int) (q5:Int->Int->St->Prop) (b:oAa) (t6_1:Bool) (BA b_l b_c:Nat) (aG bH bF:Int) (q3:St->Prop) (q0:Int->St->Prop) (eY:Bool) (q1:Bool->St->Prop) (Z:St) (Nx q4:Int->St->Prop) (Q:vPa) (q6:Int->Int->St->Prop) (Qr:Bool->St->Prop) (q7:Int->St->Prop) (Q0:St->Prop)
def xAV:Code:=(Code.part [1,0,1,0,0] (qh 43))
def zPH:lNa:=[(0,.slice l l_l l_c),(1,iV n),(5,iV bF)]
def xKS:Alt:=⟨Int,.normal,fun t=>zPH l l_l l_c n t,fun t=>[],fun t Z=>q0 t Z⟩
def yEA (l:oAa) (l_l l_c:Nat) (n:Int) (eY:Bool):lNa:=[(4,.bool eY)]
def zRL:Alt:=⟨Bool,.ret,fun t=>yEA l l_l l_c n t,fun t=>[],fun t Z=>q1 t Z⟩
def yEB (l:oAa) (l_l l_c:Nat) (n:Int):lNa:=[]
def zRM:Alt:=⟨Unit,(.exit 0),fun t=>yEB l l_l l_c n,fun t=>[],fun t Z=>q3 Z⟩
def zWG:Prop:=qi qj none xAV 18 (zPH l l_l l_c n bF) [] [xKS l l_l l_c n Nx,zRL l l_l l_c n Qr,zRM l l_l l_c n Q0] Z
def xAW:Prop:=qk qj none xAV 18 (zPH l l_l l_c n bF) [] [zRL l l_l l_c n Qr,zRM l l_l l_c n Q0] Z
def yEC:Prop:=kZ qj (qh 43) [1,0,1,0] (ql 43 Q) .ret 18 (yEA l l_l l_c n eY) Z
def yED:Prop:=kZ qj (qh 43) [1,0,1,0] (ql 43 Q) (.exit 0) 18 (yEB l l_l l_c n) Z
def yDY:Code:=(Code.part [1,0,1,0,0] (qh 42))
def zFQ:lNa:=[(0,.slice l l_l l_c),(1,iV low),(2,iV high),(7,iV bO)]
def yTY:Alt:=⟨Int,.normal,fun t=>zFQ l l_l l_c low high t,fun t=>[],fun t Z=>q0 t Z⟩
def zTT (l:oAa) (l_l l_c:Nat) (low high:Int) (t6_1:Bool):lNa:=[(6,.bool t6_1)]
def zJE:Alt:=⟨Bool,.ret,fun t=>zTT l l_l l_c low high t,fun t=>[],fun t Z=>q1 t Z⟩
def zTU (l:oAa) (l_l l_c:Nat) (low high:Int):lNa:=[]
def zJF:Alt:=⟨Unit,(.exit 0),fun t=>zTU l l_l l_c low high,fun t=>[],fun t Z=>q3 Z⟩
def zDC:Prop:=qi qj none yDY 38 (zFQ l l_l l_c low high bO) [] [yTY l l_l l_c low high Nx,zJE l l_l l_c low high Qr,zJF l l_l l_c low high Q0] Z
def yDZ:Prop:=qk qj none yDY 38 (zFQ l l_l l_c low high bO) [] [zJE l l_l l_c low high Qr,zJF l l_l l_c low high Q0] Z
def zTV:Prop:=kZ qj (qh 42) [1,0,1,0] (ql 42 Q) .ret 38 (zTT l l_l l_c low high t6_1) Z
def zTW:Prop:=kZ qj (qh 42) [1,0,1,0] (ql 42 Q) (.exit 0) 38 (zTU l l_l l_c low high) Z
def yMW:Code:=(Code.part [1,0,1,0,0] (qh 71))
def zJA:lNa:=[(0,.slice l l_l l_c),(1,iV low),(2,iV high),(9,.slice l l_l l_c),(10,iV (l_l:Int)),(11,iV aE)]
def xEC:Alt:=⟨Int,.normal,fun t=>zJA l l_l l_c low high t,fun t=>[],fun t Z=>q0 t Z⟩
def zYA (l:oAa) (l_l l_c:Nat) (low high:Int) (t6_1:Bool):lNa:=[(6,.bool t6_1)]
def zNL:Alt:=⟨Bool,.ret,fun t=>zYA l l_l l_c low high t,fun t=>[],fun t Z=>q1 t Z⟩
def zYB (l:oAa) (l_l l_c:Nat) (low high:Int):lNa:=[]
def zNM:Alt:=⟨Unit,(.exit 0),fun t=>zYB l l_l l_c low high,fun t=>[],fun t Z=>q3 Z⟩
def zFO:Prop:=qi qj none yMW 35 (zJA l l_l l_c low high aE) [] [xEC l l_l l_c low high Nx,zNL l l_l l_c low high Qr,zNM l l_l l_c low high Q0] Z
def yMX:Prop:=qk qj none yMW 35 (zJA l l_l l_c low high aE) [] [zNL l l_l l_c low high Qr,zNM l l_l l_c low high Q0] Z
def zYC:Prop:=kZ qj (qh 71) [1,0,1,0] (ql 71 Q) .ret 35 (zYA l l_l l_c low high t6_1) Z
def zYD:Prop:=kZ qj (qh 71) [1,0,1,0] (ql 71 Q) (.exit 0) 35 (zYB l l_l l_c low high) Z
def yEF:Code:=(Code.part [1,0,1,0,0] (qh 61))
def zFR:lNa:=[(1,.slice roster ax ay),(2,iV bk),(3,iV day),(4,pt BA 0),(9,iV bH)]
def yUH:Alt:=⟨Int,.normal,fun t=>zFR roster ax ay bk day BA t,fun t=>[],fun t Z=>q0 t Z⟩
def zTY (roster:oAa) (ax ay:Nat) (bk day:Int) (BA:Nat) (aG:Int):lNa:=[(8,iV aG)]
def zJL:Alt:=⟨Int,.ret,fun t=>zTY roster ax ay bk day BA t,fun t=>[],fun t Z=>q0 t Z⟩
def zTZ (roster:oAa) (ax ay:Nat) (bk day:Int) (BA:Nat):lNa:=[]
def zJM:Alt:=⟨Unit,(.exit 0),fun t=>zTZ roster ax ay bk day BA,fun t=>[],fun t Z=>q3 Z⟩
def zFS:Prop:=qi qj none yEF 34 (zFR roster ax ay bk day BA bH) [] [yUH roster ax ay bk day BA Nx,zJL roster ax ay bk day BA q4,zJM roster ax ay bk day BA Q0] Z
def yEG:Prop:=qk qj none yEF 34 (zFR roster ax ay bk day BA bH) [] [zJL roster ax ay bk day BA q4,zJM roster ax ay bk day BA Q0] Z
def zUA:Prop:=kZ qj (qh 61) [1,0,1,0] (ql 61 Q) .ret 34 (zTY roster ax ay bk day BA aG) Z
def zUB:Prop:=kZ qj (qh 61) [1,0,1,0] (ql 61 Q) (.exit 0) 34 (zTZ roster ax ay bk day BA) Z
def zYP:Code:=(Code.part [1,1,0,1,0,0] (qh 27))
def zDU:lNa:=[(0,.slice roster ax ay),(3,iV aW),(4,iV bI)]
def yNR:Alt:=⟨Int × Int,.normal,fun t=>zDU roster ax ay t.1 t.2,fun t=>[],fun t Z=>q5 t.1 t.2 Z⟩
def zPM (roster:oAa) (ax ay:Nat) (aW:Int):lNa:=[(3,iV aW)]
def zGY:Alt:=⟨Int,(.exit 0),fun t=>zPM roster ax ay t,fun t=>[],fun t Z=>q0 t Z⟩
def zGZ:Prop:=qi qj none zYP 19 (zDU roster ax ay aW bI) [] [yNR roster ax ay q6,zGY roster ax ay q7] Z
def zYQ:Prop:=qk qj none zYP 19 (zDU roster ax ay aW bI) [] [zGY roster ax ay q7] Z
def zPN:Prop:=kZ qj (qh 27) [1,1,0,1,0] (ql 27 Q) (.exit 0) 19 (zPM roster ax ay aW) Z
def yNF:Code:=(Code.part [1,0,1,0,0] (qh 29))
def zJG:lNa:=[(0,.slice a_0 bj bG),(1,.slice b b_l b_c),(5,iV bF)]
def xEJ:Alt:=⟨Int,.normal,fun t=>zJG a_0 bj bG b b_l b_c t,fun t=>[],fun t Z=>q0 t Z⟩
def zYJ (a_0:oAa) (bj bG:Nat) (b:oAa) (b_l b_c:Nat) (eY:Bool):lNa:=[(4,.bool eY)]
def zNO:Alt:=⟨Bool,.ret,fun t=>zYJ a_0 bj bG b b_l b_c t,fun t=>[],fun t Z=>q1 t Z⟩
def zYK (a_0:oAa) (bj bG:Nat) (b:oAa) (b_l b_c:Nat):lNa:=[]
def zNP:Alt:=⟨Unit,(.exit 0),fun t=>zYK a_0 bj bG b b_l b_c,fun t=>[],fun t Z=>q3 Z⟩
def zJH:Prop:=qi qj none yNF 30 (zJG a_0 bj bG b b_l b_c bF) [] [xEJ a_0 bj bG b b_l b_c Nx,zNO a_0 bj bG b b_l b_c Qr,zNP a_0 bj bG b b_l b_c Q0] Z
def yNG:Prop:=qk qj none yNF 30 (zJG a_0 bj bG b b_l b_c bF) [] [zNO a_0 bj bG b b_l b_c Qr,zNP a_0 bj bG b b_l b_c Q0] Z
def zYL:Prop:=kZ qj (qh 29) [1,0,1,0] (ql 29 Q) .ret 30 (zYJ a_0 bj bG b b_l b_c eY) Z
def zYM:Prop:=kZ qj (qh 29) [1,0,1,0] (ql 29 Q) (.exit 0) 30 (zYK a_0 bj bG b b_l b_c) Z
def xBT:Code:=(Code.part [1,1,0,1,0,0] (qh 30))
def zPZ:lNa:=[(0,.slice a_0 bj bG),(1,.slice b b_l b_c),(5,iV bF)]
def xNN:Alt:=⟨Int,.normal,fun t=>zPZ a_0 bj bG b b_l b_c t,fun t=>[],fun t Z=>q0 t Z⟩
def yFO (a_0:oAa) (bj bG:Nat) (b:oAa) (b_l b_c:Nat) (eY:Bool):lNa:=[(4,.bool eY)]
def zSB:Alt:=⟨Bool,.ret,fun t=>yFO a_0 bj bG b b_l b_c t,fun t=>[],fun t Z=>q1 t Z⟩
def yFP (a_0:oAa) (bj bG:Nat) (b:oAa) (b_l b_c:Nat):lNa:=[]
def zSC:Alt:=⟨Unit,(.exit 0),fun t=>yFP a_0 bj bG b b_l b_c,fun t=>[],fun t Z=>q3 Z⟩
def zWR:Prop:=qi qj none xBT 26 (zPZ a_0 bj bG b b_l b_c bF) [] [xNN a_0 bj bG b b_l b_c Nx,zSB a_0 bj bG b b_l b_c Qr,zSC a_0 bj bG b b_l b_c Q0] Z
def xBU:Prop:=qk qj none xBT 26 (zPZ a_0 bj bG b b_l b_c bF) [] [zSB a_0 bj bG b b_l b_c Qr,zSC a_0 bj bG b b_l b_c Q0] Z
def yFQ:Prop:=kZ qj (qh 30) [1,1,0,1,0] (ql 30 Q) .ret 26 (yFO a_0 bj bG b b_l b_c eY) Z
def yFR:Prop:=kZ qj (qh 30) [1,1,0,1,0] (ql 30 Q) (.exit 0) 26 (yFP a_0 bj bG b b_l b_c) Z
end
variable {n low high bF nF bO nD aE bk day bH nG ak am au aj aG aW bI:Int} {Z Z1:St} {Q:vPa} {l roster qD af ae a_0 b q2:oAa} {l_l l_c ax ay BA lB cE ac ad aa ab bj bG b_l b_c l2 c2:Nat} {Inv:Nat->Int->St->Prop} {Qr Pr:Bool->St->Prop} {Q0 P0:St->Prop} {l_a dG di fR b_a:Addr} {Nx:Int->St->Prop} {eY t6_1:Bool}
theorem xDE (nx:Q (.bool true) Z) (u1:low<=n:=by omega) (u2:n<=high:=by omega):qg 47 [iV n,iV low,iV high] Z Q :=
 zH [.g,.g,.g,.b true,.g,.g,.g,.b true,.g,.g] (kd (an2 (yE u1) (yE u2) nx))
theorem xDD (nx:Q (.bool false) Z) (u1:low<=n:=by omega) (u2:¬ n<=high:=by omega):qg 47 [iV n,iV low,iV high] Z Q :=
 zH [.g,.g,.g,.b true,.g,.g,.g,.b false,.g,.g] (kd (an2 (yE u1) (yG u2) nx))
theorem yDM (nx:Q (.bool false) Z) (u1:¬ low<=n:=by omega):qg 47 [iV n,iV low,iV high] Z Q :=
 zH [.g,.g,.g,.b false,.g,.g,.g] (kd (ai (yG u1) nx))
theorem xXR (nx:Q (.bool true) Z) (u1:low<=n:=by omega) (u2:n<=high:=by omega):qg 33 [iV n,iV low,iV high] Z Q :=
 zH [.g,.g,.g,.b true,.g,.g,.g,.b true,.g,.g] (kd (an2 (yE u1) (yE u2) nx))
theorem xXQ (nx:Q (.bool false) Z) (u1:low<=n:=by omega) (u2:¬ n<=high:=by omega):qg 33 [iV n,iV low,iV high] Z Q :=
 zH [.g,.g,.g,.b true,.g,.g,.g,.b false,.g,.g] (kd (an2 (yE u1) (yG u2) nx))
theorem xKN (nx:Q (.bool false) Z) (u1:¬ low<=n:=by omega):qg 33 [iV n,iV low,iV high] Z Q :=
 zH [.g,.g,.g,.b false,.g,.g,.g] (kd (ai (yG u1) nx))
theorem yUB (hb:∀ k bF Z,Inv k bF Z->zWG l l_l l_c n bF Z (NX1 Inv k) Qr Q0):∀ k bF Z,Inv k bF Z->xAW l l_l l_c n bF Z Qr Q0 :=
 xC (ai uQ (ai (xY 0) trivial)) hb
theorem xKR (h1:lz Z 3 (zL l_a (Int.toNat bF*1)) (iV nF)) (nx:Qr true Z) (u1:bF<(l_l:Int):=by omega) (u2:Ix bF l_l:=by omega) (u3:nF=n:=by omega):zWG (some l_a) l_l l_c n bF Z Nx Qr Q0 :=
 kO 1 true [.g,.g,.g,.b true,.g,.g,.i,.l (iV nF),.g,.b true,.g] (fun _ f=>an4 (zR u1) u2 h1 (xL u3) f) nx
theorem xKQ (h1:lz Z 3 (zL l_a (Int.toNat bF*1)) (iV nF)) (nx:Nx (bF+1) Z) (u1:bF<(l_l:Int):=by omega) (u2:Ix bF l_l:=by omega) (u3:¬ nF=n:=by omega) (u4:I6 (bF+1):=by omega):zWG (some l_a) l_l l_c n bF Z Nx Qr Q0 :=
 kO 0 (bF+1) [.g,.g,.g,.b true,.g,.g,.i,.l (iV nF),.g,.b false,.g,.n (bF+1),.g] (fun _ f=>an5 (zR u1) u2 h1 (xK u3) (w64 u4) f) nx
theorem xKP (nx:Q0 Z) (u1:¬ bF<(l_l:Int):=by omega):zWG l l_l l_c n bF Z Nx Qr Q0 :=
 kO 2 () [.g,.g,.g,.b false] (fun _ f=>ai (zT u1) f) nx
theorem xST (hL:xAW l l_l l_c n 0 Z Pr P0) (kr:∀ t4_1' Z',Pr t4_1' Z'->yEC l l_l l_c n t4_1' Z' Q) (k0:∀ Z',P0 Z'->yED l l_l l_c n Z' Q):qg 43 [.slice l l_l l_c,iV n] Z Q :=
 zH [.g,.g,.lf 18 (zPH l l_l l_c n 0) [zRL l l_l l_c n Pr,zRM l l_l l_c n P0]] (kd (ai (ai tt (ai (arf (zPH l l_l l_c n 0)) hL)) (ai (kz1 kr) (ai (kz0 k0) trivial))))
theorem yTZ (nx:Q (.bool eY) Z):yEC l l_l l_c n eY Z Q :=
 sK [] nx
theorem yUA (nx:Q (.bool false) Z):yED l l_l l_c n Z Q :=
 sK [.g] nx
theorem yIN (hb:∀ k bO Z,Inv k bO Z->zDC l l_l l_c low high bO Z (NX1 Inv k) Qr Q0):∀ k bO Z,Inv k bO Z->yDZ l l_l l_c low high bO Z Qr Q0 :=
 xC (ai uQ (ai (xY 0) trivial)) hb
theorem yTX (h1:lz Z 3 (zL l_a (Int.toNat bO*1)) (iV nF)) (h2:qm 33 [iV nF,iV low,iV high] Z (.bool true) Z) (h3:lz Z 3 (zL l_a (Int.toNat (bO-1)*1)) (iV nD)) (nx:Qr false Z) (u1:bO<(l_l:Int):=by omega) (u2:Ix bO l_l:=by omega) (u3:0<bO:=by omega) (u4:I6 (bO-1):=by omega) (u5:Ix (bO-1) l_l:=by omega) (u6:nF<=nD:=by omega):zDC (some l_a) l_l l_c low high bO Z Nx Qr Q0 :=
 kO 1 false [.g,.g,.g,.b true,.g,.g,.i,.l (iV nF),.g,.g,.c (.bool true) Z,.g,.g,.g,.b true,.g,.g,.g,.i,.l (iV nF),.g,.g,.n (bO-1),.i,.l (iV nD),.b true,.g,.g,.g] (fun _ f=>an5 (zR u1) u2 h1 h2 (zR u3) (an6 u2 h1 (w64 u4) u5 h3 (yE u6) f)) nx
theorem yTW (h1:lz Z 3 (zL l_a (Int.toNat bO*1)) (iV nF)) (h2:qm 33 [iV nF,iV low,iV high] Z (.bool true) Z) (h3:lz Z 3 (zL l_a (Int.toNat (bO-1)*1)) (iV nD)) (nx:Nx (bO+1) Z) (u1:bO<(l_l:Int):=by omega) (u2:Ix bO l_l:=by omega) (u3:0<bO:=by omega) (u4:I6 (bO-1):=by omega) (u5:Ix (bO-1) l_l:=by omega) (u6:¬ nF<=nD:=by omega) (u7:I6 (bO+1):=by omega):zDC (some l_a) l_l l_c low high bO Z Nx Qr Q0 :=
 kO 0 (bO+1) [.g,.g,.g,.b true,.g,.g,.i,.l (iV nF),.g,.g,.c (.bool true) Z,.g,.g,.g,.b true,.g,.g,.g,.i,.l (iV nF),.g,.g,.n (bO-1),.i,.l (iV nD),.b false,.g,.g,.g,.n (bO+1),.g] (fun _ f=>an6 (zR u1) u2 h1 h2 (zR u3) u2 (an6 h1 (w64 u4) u5 h3 (yG u6) (w64 u7) f)) nx
theorem yTV (h1:lz Z 3 (zL l_a (Int.toNat bO*1)) (iV nF)) (h2:qm 33 [iV nF,iV low,iV high] Z (.bool true) Z) (nx:Nx (bO+1) Z) (u1:bO<(l_l:Int):=by omega) (u2:Ix bO l_l:=by omega) (u3:¬ 0<bO:=by omega) (u4:I6 (bO+1):=by omega):zDC (some l_a) l_l l_c low high bO Z Nx Qr Q0 :=
 kO 0 (bO+1) [.g,.g,.g,.b true,.g,.g,.i,.l (iV nF),.g,.g,.c (.bool true) Z,.g,.g,.g,.b false,.g,.g,.g,.g,.n (bO+1),.g] (fun _ f=>an6 (zR u1) u2 h1 h2 (zT u3) (w64 u4) f) nx
theorem yTU (h1:lz Z 3 (zL l_a (Int.toNat bO*1)) (iV nF)) (h2:qm 33 [iV nF,iV low,iV high] Z (.bool false) Z) (nx:Qr false Z) (u1:bO<(l_l:Int):=by omega) (u2:Ix bO l_l:=by omega):zDC (some l_a) l_l l_c low high bO Z Nx Qr Q0 :=
 kO 1 false [.g,.g,.g,.b true,.g,.g,.i,.l (iV nF),.g,.g,.c (.bool false) Z,.g,.g,.g,.g] (fun _ f=>an4 (zR u1) u2 h1 h2 f) nx
theorem yTT (nx:Q0 Z) (u1:¬ bO<(l_l:Int):=by omega):zDC l l_l l_c low high bO Z Nx Qr Q0 :=
 kO 2 () [.g,.g,.g,.b false] (fun _ f=>ai (zT u1) f) nx
theorem xEE (hL:yDZ l l_l l_c low high 0 Z Pr P0) (kr:∀ t6_1' Z',Pr t6_1' Z'->zTV l l_l l_c low high t6_1' Z' Q) (k0:∀ Z',P0 Z'->zTW l l_l l_c low high Z' Q):qg 42 [.slice l l_l l_c,iV low,iV high] Z Q :=
 zH [.g,.g,.lf 38 (zFQ l l_l l_c low high 0) [zJE l l_l l_c low high Pr,zJF l l_l l_c low high P0]] (kd (ai (ai tt (ai (arf (zFQ l l_l l_c low high 0)) hL)) (ai (kz1 kr) (ai (kz0 k0) trivial))))
theorem yIL (nx:Q (.bool t6_1) Z):zTV l l_l l_c low high t6_1 Z Q :=
 sK [] nx
theorem yIM (nx:Q (.bool true) Z):zTW l l_l l_c low high Z Q :=
 sK [.g] nx
theorem yMV (hb:∀ k aE Z,Inv k aE Z->zFO l l_l l_c low high aE Z (NX1 Inv k) Qr Q0):∀ k aE Z,Inv k aE Z->yMX l l_l l_c low high aE Z Qr Q0 :=
 xC (ai uQ (ai (xY 0) trivial)) hb
theorem xEB (h1:lz Z 3 (zL l_a (Int.toNat aE*1)) (iV nF)) (h2:qm 47 [iV nF,iV low,iV high] Z (.bool true) Z) (h3:lz Z 3 (zL l_a (Int.toNat (aE-1)*1)) (iV nD)) (nx:Qr false Z) (u1:aE<(l_l:Int):=by omega) (u2:Ix aE l_l:=by omega) (u3:0<aE:=by omega) (u4:I6 (aE-1):=by omega) (u5:Ix (aE-1) l_l:=by omega) (u6:nF<=nD:=by omega):zFO (some l_a) l_l l_c low high aE Z Nx Qr Q0 :=
 kO 1 false [.b true,.g,.i,.l (iV nF),.g,.g,.g,.g,.g,.c (.bool true) Z,.g,.g,.g,.b true,.g,.g,.g,.g,.n (aE-1),.i,.l (iV nD),.b true,.g,.g,.g] (fun _ f=>an3 (zR u1) u2 h1 (an6 h2 (zR u3) (w64 u4) u5 h3 (yE u6) f)) nx
theorem xEA (h1:lz Z 3 (zL l_a (Int.toNat aE*1)) (iV nF)) (h2:qm 47 [iV nF,iV low,iV high] Z (.bool true) Z) (h3:lz Z 3 (zL l_a (Int.toNat (aE-1)*1)) (iV nD)) (nx:Nx (aE+1) Z) (u1:aE<(l_l:Int):=by omega) (u2:Ix aE l_l:=by omega) (u3:0<aE:=by omega) (u4:I6 (aE-1):=by omega) (u5:Ix (aE-1) l_l:=by omega) (u6:¬ nF<=nD:=by omega) (u7:I6 (aE+1):=by omega):zFO (some l_a) l_l l_c low high aE Z Nx Qr Q0 :=
 kO 0 (aE+1) [.b true,.g,.i,.l (iV nF),.g,.g,.g,.g,.g,.c (.bool true) Z,.g,.g,.g,.b true,.g,.g,.g,.g,.n (aE-1),.i,.l (iV nD),.b false,.g,.g,.n (aE+1),.g] (fun _ f=>an4 (zR u1) u2 h1 h2 (an6 (zR u3) (w64 u4) u5 h3 (yG u6) (w64 u7) f)) nx
theorem xDZ (h1:lz Z 3 (zL l_a (Int.toNat aE*1)) (iV nF)) (h2:qm 47 [iV nF,iV low,iV high] Z (.bool true) Z) (nx:Nx (aE+1) Z) (u1:aE<(l_l:Int):=by omega) (u2:Ix aE l_l:=by omega) (u3:¬ 0<aE:=by omega) (u4:I6 (aE+1):=by omega):zFO (some l_a) l_l l_c low high aE Z Nx Qr Q0 :=
 kO 0 (aE+1) [.b true,.g,.i,.l (iV nF),.g,.g,.g,.g,.g,.c (.bool true) Z,.g,.g,.g,.b false,.g,.g,.g,.n (aE+1),.g] (fun _ f=>an6 (zR u1) u2 h1 h2 (zT u3) (w64 u4) f) nx
theorem xDY (h1:lz Z 3 (zL l_a (Int.toNat aE*1)) (iV nF)) (h2:qm 47 [iV nF,iV low,iV high] Z (.bool false) Z) (nx:Qr false Z) (u1:aE<(l_l:Int):=by omega) (u2:Ix aE l_l:=by omega):zFO (some l_a) l_l l_c low high aE Z Nx Qr Q0 :=
 kO 1 false [.b true,.g,.i,.l (iV nF),.g,.g,.g,.g,.g,.c (.bool false) Z,.g,.g,.g,.g] (fun _ f=>an4 (zR u1) u2 h1 h2 f) nx
theorem xDX (nx:Q0 Z) (u1:¬ aE<(l_l:Int):=by omega):zFO l l_l l_c low high aE Z Nx Qr Q0 :=
 kO 2 () [.b false] (fun _ f=>ai (zT u1) f) nx
theorem xKE (hL:yMX l l_l l_c low high 0 Z Pr P0) (kr:∀ t6_1' Z',Pr t6_1' Z'->zYC l l_l l_c low high t6_1' Z' Q) (k0:∀ Z',P0 Z'->zYD l l_l l_c low high Z' Q):qg 71 [.slice l l_l l_c,iV low,iV high] Z Q :=
 zH [.g,.g,.g,.g,.lf 35 (zJA l l_l l_c low high 0) [zNL l l_l l_c low high Pr,zNM l l_l l_c low high P0]] (kd (ai (ai tt (ai (arf (zJA l l_l l_c low high 0)) hL)) (ai (kz1 kr) (ai (kz0 k0) trivial))))
theorem yMT (nx:Q (.bool t6_1) Z):zYC l l_l l_c low high t6_1 Z Q :=
 sK [] nx
theorem yMU (nx:Q (.bool true) Z):zYD l l_l l_c low high Z Q :=
 sK [.g] nx
theorem yIR {Qr:Int->St->Prop} (hb:∀ k bH Z,Inv k bH Z->zFS roster ax ay bk day BA bH Z (NX1 Inv k) Qr Q0):∀ k bH Z,Inv k bH Z->yEG roster ax ay bk day BA bH Z Qr Q0 :=
 xC (ai uQ (ai (xY 0) trivial)) hb
theorem yUG {Qr:Int->St->Prop} (h1:lz Z 22 (qe BA 1) (.slice (some di) lB cE)) (h2:lz Z 3 (zL dG (Int.toNat bH*1)) (iV nG)) (h3:lz Z 3 (zL di ((Int.toNat bH*5)+0)) (iV nD)) (nx:Qr bH Z) (u1:bH<(lB:Int):=by omega) (u2:Ix bH ax:=by omega) (u3:nG=bk:=by omega) (u4:Ix bH lB:=by omega) (u5:nD=day:=by omega):zFS (some dG) ax ay bk day BA bH Z Nx Qr Q0 :=
 kO 1 bH [.g,.g,.l (.slice (some di) lB cE),.g,.b true,.g,.g,.i,.l (iV nG),.g,.b true,.g,.g,.l (.slice (some di) lB cE),.g,.i,.g,.l (iV nD),.g,.b true,.g,.g,.g] (fun _ f=>an3 h1 (zR u1) u2 (an6 h2 (xL u3) h1 u4 h3 (xL u5) f)) nx
theorem yUF {Qr:Int->St->Prop} (h1:lz Z 22 (qe BA 1) (.slice (some di) lB cE)) (h2:lz Z 3 (zL dG (Int.toNat bH*1)) (iV nG)) (h3:lz Z 3 (zL di ((Int.toNat bH*5)+0)) (iV nD)) (nx:Nx (bH+1) Z) (u1:bH<(lB:Int):=by omega) (u2:Ix bH ax:=by omega) (u3:nG=bk:=by omega) (u4:Ix bH lB:=by omega) (u5:¬ nD=day:=by omega) (u6:I6 (bH+1):=by omega):zFS (some dG) ax ay bk day BA bH Z Nx Qr Q0 :=
 kO 0 (bH+1) [.g,.g,.l (.slice (some di) lB cE),.g,.b true,.g,.g,.i,.l (iV nG),.g,.b true,.g,.g,.l (.slice (some di) lB cE),.g,.i,.g,.l (iV nD),.g,.b false,.g,.g,.n (bH+1),.g] (fun _ f=>an4 h1 (zR u1) u2 h2 (an6 (xL u3) h1 u4 h3 (xK u5) (w64 u6) f)) nx
theorem yUE {Qr:Int->St->Prop} (h1:lz Z 22 (qe BA 1) (.slice qD lB cE)) (h2:lz Z 3 (zL dG (Int.toNat bH*1)) (iV nG)) (nx:Nx (bH+1) Z) (u1:bH<(lB:Int):=by omega) (u2:Ix bH ax:=by omega) (u3:¬ nG=bk:=by omega) (u4:I6 (bH+1):=by omega):zFS (some dG) ax ay bk day BA bH Z Nx Qr Q0 :=
 kO 0 (bH+1) [.g,.g,.l (.slice qD lB cE),.g,.b true,.g,.g,.i,.l (iV nG),.g,.b false,.g,.g,.g,.n (bH+1),.g] (fun _ f=>an6 h1 (zR u1) u2 h2 (xK u3) (w64 u4) f) nx
theorem yUD {Qr:Int->St->Prop} (h1:lz Z 22 (qe BA 1) (.slice qD lB cE)) (nx:Q0 Z) (u1:¬ bH<(lB:Int):=by omega):zFS roster ax ay bk day BA bH Z Nx Qr Q0 :=
 kO 2 () [.g,.g,.l (.slice qD lB cE),.g,.b false] (fun _ f=>an2 h1 (zT u1) f) nx
theorem xEK {Pr:Int->St->Prop}:let y0:=wkc ak af ac ad ae aa ab am au aj;∀ (hL:yEG roster ax ay bk day Z.y 0 (Z.row y0 6) Pr P0) (kr:∀ i8_1' Z',Pr i8_1' Z'->zUA roster ax ay bk day Z.y i8_1' Z' Q) (k0:∀ Z',P0 Z'->zUB roster ax ay bk day Z.y Z' Q),qg 61 [qf y0,.slice roster ax ay,iV bk,iV day] Z Q :=
 fun hL kr k0=>zH [.g,.g,.g,.lf 34 (zFR roster ax ay bk day Z.y 0) [zJL roster ax ay bk day Z.y Pr,zJM roster ax ay bk day Z.y P0]] (kd (ai (ai tt (ai (arf (zFR roster ax ay bk day Z.y 0)) hL)) (ai (kz1 kr) (ai (kz0 k0) trivial))))
theorem yIP (nx:Q (iV aG) Z):zUA roster ax ay bk day BA aG Z Q :=
 sK [] nx
theorem yIQ (nx:Q (iV (-1)) Z):zUB roster ax ay bk day BA Z Q :=
 sK [.g] nx
theorem yCY {Inv:Nat->Int->Int->St->Prop} {Q0:Int->St->Prop} (hb:∀ k aW bI Z,Inv k aW bI Z->zGZ roster ax ay aW bI Z (NX2 Inv k) Q0):∀ k aW bI Z,Inv k aW bI Z->zYQ roster ax ay aW bI Z Q0 :=
 zCP (ai (xY 0) trivial) hb
theorem yNQ {Nx:Int->Int->St->Prop} {Q0:Int->St->Prop} (h1:lz Z 3 (zL dG (Int.toNat bI*1)) (iV nF)) (nx:Nx (aW+1) (bI+1) Z) (u1:bI<(ax:Int):=by omega) (u2:Ix bI ax:=by omega) (u3:0<=nF:=by omega) (u4:I6 (aW+1):=by omega) (u5:I6 (bI+1):=by omega):zGZ (some dG) ax ay aW bI Z Nx Q0 :=
 kO 0 (aW+1,bI+1) [.g,.g,.g,.b true,.g,.g,.i,.l (iV nF),.b true,.g,.n (aW+1),.g,.g,.n (bI+1),.g] (fun _ f=>an6 (zR u1) u2 h1 (yE u3) (w64 u4) (w64 u5) f) nx
theorem yNP {Nx:Int->Int->St->Prop} {Q0:Int->St->Prop} (h1:lz Z 3 (zL dG (Int.toNat bI*1)) (iV nF)) (nx:Nx aW (bI+1) Z) (u1:bI<(ax:Int):=by omega) (u2:Ix bI ax:=by omega) (u3:¬ 0<=nF:=by omega) (u4:I6 (bI+1):=by omega):zGZ (some dG) ax ay aW bI Z Nx Q0 :=
 kO 0 (aW,bI+1) [.g,.g,.g,.b true,.g,.g,.i,.l (iV nF),.b false,.g,.n (bI+1),.g] (fun _ f=>an5 (zR u1) u2 h1 (yG u3) (w64 u4) f) nx
theorem yNO {Nx:Int->Int->St->Prop} {Q0:Int->St->Prop} (nx:Q0 aW Z) (u1:¬ bI<(ax:Int):=by omega):zGZ roster ax ay aW bI Z Nx Q0 :=
 kO 1 aW [.g,.g,.g,.b false] (fun _ f=>ai (zT u1) f) nx
theorem yUZ {P0:Int->St->Prop} (hL:zYQ roster ax ay 0 0 Z P0) (k0:∀ i3_1' Z',P0 i3_1' Z'->zPN roster ax ay i3_1' Z' Q):qg 27 [.slice roster ax ay] Z Q :=
 zH [.g,.g,.g,.lf 19 (zDU roster ax ay 0 0) [zGY roster ax ay P0]] (kd (ai (ai tt (ai (arf (zDU roster ax ay 0 0)) hL)) (ai (kz1 k0) trivial)))
theorem yCX (nx:Q (iV aW) Z):zPN roster ax ay aW Z Q :=
 sK [.g,.g] nx
theorem yNE (hb:∀ k bF Z,Inv k bF Z->zJH a_0 bj bG b b_l b_c bF Z (NX1 Inv k) Qr Q0):∀ k bF Z,Inv k bF Z->yNG a_0 bj bG b b_l b_c bF Z Qr Q0 :=
 xC (ai uQ (ai (xY 0) trivial)) hb
theorem xEI (h1:lz Z 3 (zL fR (Int.toNat bF*1)) (iV nF)) (h2:lz Z 3 (zL b_a (Int.toNat bF*1)) (iV nG)) (nx:Qr true Z) (u1:bF<(bj:Int):=by omega) (u2:Ix bF bj:=by omega) (u3:Ix bF b_l:=by omega) (u4:¬ nF=nG:=by omega) (u5:nG<nF:=by omega):zJH (some fR) bj bG (some b_a) b_l b_c bF Z Nx Qr Q0 :=
 kO 1 true [.g,.g,.g,.b true,.g,.g,.i,.l (iV nF),.g,.g,.i,.l (iV nG),.b true,.g,.g,.i,.l (iV nF),.g,.g,.i,.l (iV nG),.b true,.g] (fun _ f=>an5 (zR u1) u2 h1 u3 h2 (an6 (uW u4) u2 h1 u3 h2 (zR u5) f)) nx
theorem xEH (h1:lz Z 3 (zL fR (Int.toNat bF*1)) (iV nF)) (h2:lz Z 3 (zL b_a (Int.toNat bF*1)) (iV nG)) (nx:Qr false Z) (u1:bF<(bj:Int):=by omega) (u2:Ix bF bj:=by omega) (u3:Ix bF b_l:=by omega) (u4:¬ nF=nG:=by omega) (u5:¬ nG<nF:=by omega):zJH (some fR) bj bG (some b_a) b_l b_c bF Z Nx Qr Q0 :=
 kO 1 false [.g,.g,.g,.b true,.g,.g,.i,.l (iV nF),.g,.g,.i,.l (iV nG),.b true,.g,.g,.i,.l (iV nF),.g,.g,.i,.l (iV nG),.b false,.g] (fun _ f=>an5 (zR u1) u2 h1 u3 h2 (an6 (uW u4) u2 h1 u3 h2 (zT u5) f)) nx
theorem xEG (h1:lz Z 3 (zL fR (Int.toNat bF*1)) (iV nF)) (h2:lz Z 3 (zL b_a (Int.toNat bF*1)) (iV nG)) (nx:Nx (bF+1) Z) (u1:bF<(bj:Int):=by omega) (u2:Ix bF bj:=by omega) (u3:Ix bF b_l:=by omega) (u4:nF=nG:=by omega) (u5:I6 (bF+1):=by omega):zJH (some fR) bj bG (some b_a) b_l b_c bF Z Nx Qr Q0 :=
 kO 0 (bF+1) [.g,.g,.g,.b true,.g,.g,.i,.l (iV nF),.g,.g,.i,.l (iV nG),.b false,.g,.n (bF+1),.g] (fun _ f=>ai (zR u1) (an6 u2 h1 u3 h2 (uB u4) (w64 u5) f)) nx
theorem xEF (nx:Q0 Z) (u1:¬ bF<(bj:Int):=by omega):zJH a_0 bj bG b b_l b_c bF Z Nx Qr Q0 :=
 kO 2 () [.g,.g,.g,.b false] (fun _ f=>ai (zT u1) f) nx
theorem xKM (hL:yNG a_0 bj bG b b_l b_c 0 Z Pr P0) (kr:∀ t4_1' Z',Pr t4_1' Z'->zYL a_0 bj bG b b_l b_c t4_1' Z' Q) (k0:∀ Z',P0 Z'->zYM a_0 bj bG b b_l b_c Z' Q):qg 29 [.slice a_0 bj bG,.slice b b_l b_c] Z Q :=
 zH [.g,.g,.lf 30 (zJG a_0 bj bG b b_l b_c 0) [zNO a_0 bj bG b b_l b_c Pr,zNP a_0 bj bG b b_l b_c P0]] (kd (ai (ai tt (ai (arf (zJG a_0 bj bG b b_l b_c 0)) hL)) (ai (kz1 kr) (ai (kz0 k0) trivial))))
theorem yNC (nx:Q (.bool eY) Z):zYL a_0 bj bG b b_l b_c eY Z Q :=
 sK [] nx
theorem yND (nx:Q (.bool false) Z):zYM a_0 bj bG b b_l b_c Z Q :=
 sK [.g] nx
theorem xUI (nx:Q (.bool false) Z) (u1:¬ (bj:Int)=(b_l:Int):=by omega):qg 30 [.slice a_0 bj bG,.slice b b_l b_c] Z Q :=
 zH [.g,.g,.g,.g,.g,.b true,.g] (kd (ai (uW u1) nx))
theorem yWV (hb:∀ k bF Z,Inv k bF Z->zWR a_0 bj bG b b_l b_c bF Z (NX1 Inv k) Qr Q0):∀ k bF Z,Inv k bF Z->xBU a_0 bj bG b b_l b_c bF Z Qr Q0 :=
 xC (ai uQ (ai (xY 0) trivial)) hb
theorem xNM (h1:lz Z 3 (zL fR (Int.toNat bF*1)) (iV nF)) (h2:lz Z 3 (zL b_a (Int.toNat bF*1)) (iV nG)) (nx:Qr false Z) (u1:bF<(bj:Int):=by omega) (u2:Ix bF bj:=by omega) (u3:Ix bF b_l:=by omega) (u4:¬ nF=nG:=by omega):zWR (some fR) bj bG (some b_a) b_l b_c bF Z Nx Qr Q0 :=
 kO 1 false [.g,.g,.g,.b true,.g,.g,.i,.l (iV nF),.g,.g,.i,.l (iV nG),.b true,.g] (fun _ f=>an6 (zR u1) u2 h1 u3 h2 (uW u4) f) nx
theorem xNL (h1:lz Z 3 (zL fR (Int.toNat bF*1)) (iV nF)) (h2:lz Z 3 (zL b_a (Int.toNat bF*1)) (iV nG)) (nx:Nx (bF+1) Z) (u1:bF<(bj:Int):=by omega) (u2:Ix bF bj:=by omega) (u3:Ix bF b_l:=by omega) (u4:nF=nG:=by omega) (u5:I6 (bF+1):=by omega):zWR (some fR) bj bG (some b_a) b_l b_c bF Z Nx Qr Q0 :=
 kO 0 (bF+1) [.g,.g,.g,.b true,.g,.g,.i,.l (iV nF),.g,.g,.i,.l (iV nG),.b false,.g,.n (bF+1),.g] (fun _ f=>ai (zR u1) (an6 u2 h1 u3 h2 (uB u4) (w64 u5) f)) nx
theorem xNK (nx:Q0 Z) (u1:¬ bF<(bj:Int):=by omega):zWR a_0 bj bG b b_l b_c bF Z Nx Qr Q0 :=
 kO 2 () [.g,.g,.g,.b false] (fun _ f=>ai (zT u1) f) nx
theorem xUH (hL:xBU a_0 bj bG b b_l b_c 0 Z Pr P0) (kr:∀ t4_1' Z',Pr t4_1' Z'->yFQ a_0 bj bG b b_l b_c t4_1' Z' Q) (k0:∀ Z',P0 Z'->yFR a_0 bj bG b b_l b_c Z' Q) (u1:(bj:Int)=(b_l:Int):=by omega):qg 30 [.slice a_0 bj bG,.slice b b_l b_c] Z Q :=
 zH [.g,.g,.g,.g,.g,.b false,.g,.lf 26 (zPZ a_0 bj bG b b_l b_c 0) [zSB a_0 bj bG b b_l b_c Pr,zSC a_0 bj bG b b_l b_c P0]] (kd (ai (uB u1) (ai (ai tt (ai (arf (zPZ a_0 bj bG b b_l b_c 0)) hL)) (ai (kz1 kr) (ai (kz0 k0) trivial)))))
theorem yWT (nx:Q (.bool eY) Z):yFQ a_0 bj bG b b_l b_c eY Z Q :=
 sK [] nx
theorem yWU (nx:Q (.bool true) Z):yFR a_0 bj bG b b_l b_c Z Q :=
 sK [.g] nx
theorem xUC (h1:yM Pg 26 26 (.slice (some (qe Z.y 0)) 0 0) (.slice l l_l l_c) (Z.row [] 1)=some (.slice q2 l2 c2,Z1)) (nx:Q (.slice q2 l2 c2) Z1):qg 19 [.slice l l_l l_c] Z Q :=
 zH [.g,.g,.g,.e (.slice q2 l2 c2) Z1,.g] (kd (ai h1 nx))
end
end Go.Proofs.YtgfiniccfpfplaaGreat
