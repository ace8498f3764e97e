import Derived.Test.YtgfiniccfpfplaaTy
import Derived.Test.YtgfiniccfpfplaaLayD
set_option maxRecDepth 20000
namespace Go.Proofs.Ytgfiniccfpfplaa
open Go Go.Lay
open Try renaming prog → Pg
structure Rec where
 k:Int
 a:Int
 b:Int
 deriving DecidableEq,Inhabited
abbrev zZ (n:Int):Value:=iV n
abbrev zBE (x:Rec):List Value:=rcd x.k x.a x.b
abbrev zEI (x:Rec):Value:=.agg ⟨zBE x⟩
def inB (n lo hi:Int):Bool:=decide (lo≤n) && decide (n≤hi)
theorem zAG {n lo hi:Int}:inB n lo hi=true↔lo≤n∧n≤hi:=by simp [inB]
theorem yDO {n lo hi:Int}:inB n lo hi=false↔¬ (lo≤n∧n≤hi):=by rw [← Bool.not_eq_true,zAG]
theorem wU {α:Type} {xs:List α} {i:Nat} {x:α} (h:xs[i]?=some x):xs.take (i+1)=xs.take i++[x]:=by
 rw [List.take_add_one,h];rfl
theorem le0 (σ:St):Le σ σ.re:=Le.re' (Le.refl _)
section
noncomputable section
variable (l a_0:oAa) (l_l bX l_c dj:Nat) (low high aD bN:Int) (b:oAa) (t6_1:Bool) (b_l b_c:Nat) (q1:Bool→St→Prop) (t4_1:Bool) (q3:St→Prop) (eO:Int) (q0:Int→St→Prop) (σ:St) (Nx:Int→St→Prop) (Q:vPa) (Qr:Bool→St→Prop) (Q0:St→Prop)
def yBW:Code:=(Code.part [1,0,1,0,0] (qj 42))
def zFH:lNa:=[(0,.slice l l_l l_c),(1,iV low),(2,iV high),(7,iV bN)]
def yRA:Alt:=⟨Int,.normal,fun t=>zFH l l_l l_c low high t,fun t=>[],fun t σ=>q0 t σ⟩
def zSU (l:oAa) (l_l l_c:Nat) (low high:Int) (t6_1:Bool):lNa:=[(6,.bool t6_1)]
def zIS:Alt:=⟨Bool,.ret,fun t=>zSU l l_l l_c low high t,fun t=>[],fun t σ=>q1 t σ⟩
def zSV (l:oAa) (l_l l_c:Nat) (low high:Int):lNa:=[]
def zIT:Alt:=⟨Unit,(.exit 0),fun t=>zSV l l_l l_c low high,fun t=>[],fun t σ=>q3 σ⟩
def zDC:Prop:=qk ql none yBW 38 (zFH l l_l l_c low high bN) [] [yRA l l_l l_c low high Nx,zIS l l_l l_c low high Qr,zIT l l_l l_c low high Q0] σ
def yBX:Prop:=qm ql none yBW 38 (zFH l l_l l_c low high bN) [] [zIS l l_l l_c low high Qr,zIT l l_l l_c low high Q0] σ
def zSW:Prop:=kZ ql (qj 42) [1,0,1,0] (qo 42 Q) .ret 38 (zSU l l_l l_c low high t6_1) σ
def zSX:Prop:=kZ ql (qj 42) [1,0,1,0] (qo 42 Q) (.exit 0) 38 (zSV l l_l l_c low high) σ
def yKJ:Code:=(Code.part [1,0,1,0,0] (qj 60))
def zIO:lNa:=[(0,.slice l l_l l_c),(1,iV low),(2,iV high),(9,.slice l l_l l_c),(10,iV (l_l:Int)),(11,iV aD)]
def xAP:Alt:=⟨Int,.normal,fun t=>zIO l l_l l_c low high t,fun t=>[],fun t σ=>q0 t σ⟩
def zWP (l:oAa) (l_l l_c:Nat) (low high:Int) (t6_1:Bool):lNa:=[(6,.bool t6_1)]
def zMY:Alt:=⟨Bool,.ret,fun t=>zWP l l_l l_c low high t,fun t=>[],fun t σ=>q1 t σ⟩
def zWQ (l:oAa) (l_l l_c:Nat) (low high:Int):lNa:=[]
def zMZ:Alt:=⟨Unit,(.exit 0),fun t=>zWQ l l_l l_c low high,fun t=>[],fun t σ=>q3 σ⟩
def zFF:Prop:=qk ql none yKJ 35 (zIO l l_l l_c low high aD) [] [xAP l l_l l_c low high Nx,zMY l l_l l_c low high Qr,zMZ l l_l l_c low high Q0] σ
def yKK:Prop:=qm ql none yKJ 35 (zIO l l_l l_c low high aD) [] [zMY l l_l l_c low high Qr,zMZ l l_l l_c low high Q0] σ
def zWR:Prop:=kZ ql (qj 60) [1,0,1,0] (qo 60 Q) .ret 35 (zWP l l_l l_c low high t6_1) σ
def zWS:Prop:=kZ ql (qj 60) [1,0,1,0] (qo 60 Q) (.exit 0) 35 (zWQ l l_l l_c low high) σ
def yYE:Code:=(Code.part [1,1,0,1,0,0] (qj 19))
def zPB:lNa:=[(0,.slice a_0 bX dj),(1,.slice b b_l b_c),(5,iV eO)]
def xKC:Alt:=⟨Int,.normal,fun t=>zPB a_0 bX dj b b_l b_c t,fun t=>[],fun t σ=>q0 t σ⟩
def yDG (a_0:oAa) (bX dj:Nat) (b:oAa) (b_l b_c:Nat) (t4_1:Bool):lNa:=[(4,.bool t4_1)]
def zRB:Alt:=⟨Bool,.ret,fun t=>yDG a_0 bX dj b b_l b_c t,fun t=>[],fun t σ=>q1 t σ⟩
def yDH (a_0:oAa) (bX dj:Nat) (b:oAa) (b_l b_c:Nat):lNa:=[]
def zRC:Alt:=⟨Unit,(.exit 0),fun t=>yDH a_0 bX dj b b_l b_c,fun t=>[],fun t σ=>q3 σ⟩
def zVE:Prop:=qk ql none yYE 26 (zPB a_0 bX dj b b_l b_c eO) [] [xKC a_0 bX dj b b_l b_c Nx,zRB a_0 bX dj b b_l b_c Qr,zRC a_0 bX dj b b_l b_c Q0] σ
def yYF:Prop:=qm ql none yYE 26 (zPB a_0 bX dj b b_l b_c eO) [] [zRB a_0 bX dj b b_l b_c Qr,zRC a_0 bX dj b b_l b_c Q0] σ
def yDI:Prop:=kZ ql (qj 19) [1,1,0,1,0] (qo 19 Q) .ret 26 (yDG a_0 bX dj b b_l b_c t4_1) σ
def yDJ:Prop:=kZ ql (qj 19) [1,1,0,1,0] (qo 19 Q) (.exit 0) 26 (yDH a_0 bX dj b b_l b_c) σ
end
variable {n low high bN nG nD aD eO nF:Int} {σ σ1:St} {Q:vPa} {l a_0 b q2:oAa} {l_l l_c bX dj b_l b_c l2 c2:Nat} {Inv:Nat→Int→St→Prop} {Qr Pr:Bool→St→Prop} {Q0 P0:St→Prop} {l_a a_0_a b_a:Addr} {Nx:Int→St→Prop} {t6_1 t4_1:Bool}
theorem yZO (nx:Q (.bool true) σ) (u1:low≤n:=by omega) (u2:n≤high:=by omega):qi 30 [iV n,iV low,iV high] σ Q :=
 zI [.g,.g,.g,.b true,.g,.g,.g,.b true,.g,.g] (kd (an2 (yE u1) (yE u2) nx))
theorem yZN (nx:Q (.bool false) σ) (u1:low≤n:=by omega) (u2:¬ n≤high:=by omega):qi 30 [iV n,iV low,iV high] σ Q :=
 zI [.g,.g,.g,.b true,.g,.g,.g,.b false,.g,.g] (kd (an2 (yE u1) (yJ u2) nx))
theorem yBK (nx:Q (.bool false) σ) (u1:¬ low≤n:=by omega):qi 30 [iV n,iV low,iV high] σ Q :=
 zI [.g,.g,.g,.b false,.g,.g,.g] (kd (ai (yJ u1) nx))
theorem xUR (nx:Q (.bool true) σ) (u1:low≤n:=by omega) (u2:n≤high:=by omega):qi 13 [iV n,iV low,iV high] σ Q :=
 zI [.g,.g,.g,.b true,.g,.g,.g,.b true,.g,.g] (kd (an2 (yE u1) (yE u2) nx))
theorem xUQ (nx:Q (.bool false) σ) (u1:low≤n:=by omega) (u2:¬ n≤high:=by omega):qi 13 [iV n,iV low,iV high] σ Q :=
 zI [.g,.g,.g,.b true,.g,.g,.g,.b false,.g,.g] (kd (an2 (yE u1) (yJ u2) nx))
theorem xHG (nx:Q (.bool false) σ) (u1:¬ low≤n:=by omega):qi 13 [iV n,iV low,iV high] σ Q :=
 zI [.g,.g,.g,.b false,.g,.g,.g] (kd (ai (yJ u1) nx))
theorem yGD (hb:∀ k bN σ,Inv k bN σ→zDC l l_l l_c low high bN σ (NX1 Inv k) Qr Q0):∀ k bN σ,Inv k bN σ→yBX l l_l l_c low high bN σ Qr Q0 :=
 xJ (ai zCK (ai (wI 0) trivial)) hb
theorem yQZ (h1:lz σ 3 (zN l_a (Int.toNat bN*1)) (iV nG)) (h2:qn 13 [iV nG,iV low,iV high] σ (.bool true) σ) (h3:lz σ 3 (zN l_a (Int.toNat (bN-1)*1)) (iV nD)) (nx:Qr false σ) (u1:bN<(l_l:Int):=by omega) (u2:Ix bN l_l:=by omega) (u3:0<bN:=by omega) (u4:I6 (bN-1):=by omega) (u5:Ix (bN-1) l_l:=by omega) (u6:nG≤nD:=by omega):zDC (some l_a) l_l l_c low high bN σ Nx Qr Q0 :=
 kO 1 false [.g,.g,.g,.b true,.g,.g,.i,.l (iV nG),.g,.g,.c (.bool true) σ,.g,.g,.g,.b true,.g,.g,.g,.i,.l (iV nG),.g,.g,.n (bN-1),.i,.l (iV nD),.b true,.g,.g,.g] (fun _ f=>an5 (zR u1) u2 h1 h2 (zR u3) (an6 u2 h1 (w64 u4) u5 h3 (yE u6) f)) nx
theorem yQY (h1:lz σ 3 (zN l_a (Int.toNat bN*1)) (iV nG)) (h2:qn 13 [iV nG,iV low,iV high] σ (.bool true) σ) (h3:lz σ 3 (zN l_a (Int.toNat (bN-1)*1)) (iV nD)) (nx:Nx (bN+1) σ) (u1:bN<(l_l:Int):=by omega) (u2:Ix bN l_l:=by omega) (u3:0<bN:=by omega) (u4:I6 (bN-1):=by omega) (u5:Ix (bN-1) l_l:=by omega) (u6:¬ nG≤nD:=by omega) (u7:I6 (bN+1):=by omega):zDC (some l_a) l_l l_c low high bN σ Nx Qr Q0 :=
 kO 0 (bN+1) [.g,.g,.g,.b true,.g,.g,.i,.l (iV nG),.g,.g,.c (.bool true) σ,.g,.g,.g,.b true,.g,.g,.g,.i,.l (iV nG),.g,.g,.n (bN-1),.i,.l (iV nD),.b false,.g,.g,.g,.n (bN+1),.g] (fun _ f=>an6 (zR u1) u2 h1 h2 (zR u3) u2 (an6 h1 (w64 u4) u5 h3 (yJ u6) (w64 u7) f)) nx
theorem yQX (h1:lz σ 3 (zN l_a (Int.toNat bN*1)) (iV nG)) (h2:qn 13 [iV nG,iV low,iV high] σ (.bool true) σ) (nx:Nx (bN+1) σ) (u1:bN<(l_l:Int):=by omega) (u2:Ix bN l_l:=by omega) (u3:¬ 0<bN:=by omega) (u4:I6 (bN+1):=by omega):zDC (some l_a) l_l l_c low high bN σ Nx Qr Q0 :=
 kO 0 (bN+1) [.g,.g,.g,.b true,.g,.g,.i,.l (iV nG),.g,.g,.c (.bool true) σ,.g,.g,.g,.b false,.g,.g,.g,.g,.n (bN+1),.g] (fun _ f=>an6 (zR u1) u2 h1 h2 (zT u3) (w64 u4) f) nx
theorem yQW (h1:lz σ 3 (zN l_a (Int.toNat bN*1)) (iV nG)) (h2:qn 13 [iV nG,iV low,iV high] σ (.bool false) σ) (nx:Qr false σ) (u1:bN<(l_l:Int):=by omega) (u2:Ix bN l_l:=by omega):zDC (some l_a) l_l l_c low high bN σ Nx Qr Q0 :=
 kO 1 false [.g,.g,.g,.b true,.g,.g,.i,.l (iV nG),.g,.g,.c (.bool false) σ,.g,.g,.g,.g] (fun _ f=>an4 (zR u1) u2 h1 h2 f) nx
theorem yQV (nx:Q0 σ) (u1:¬ bN<(l_l:Int):=by omega):zDC l l_l l_c low high bN σ Nx Qr Q0 :=
 kO 2 () [.g,.g,.g,.b false] (fun _ f=>ai (zT u1) f) nx
theorem xAR (hL:yBX l l_l l_c low high 0 σ Pr P0) (kr:∀ t6_1' σ',Pr t6_1' σ'→zSW l l_l l_c low high t6_1' σ' Q) (k0:∀ σ',P0 σ'→zSX l l_l l_c low high σ' Q):qi 42 [.slice l l_l l_c,iV low,iV high] σ Q :=
 zI [.g,.g,.lf 38 (zFH l l_l l_c low high 0) [zIS l l_l l_c low high Pr,zIT l l_l l_c low high P0]] (kd (ai (ai tt (ai (arf (zFH l l_l l_c low high 0)) hL)) (ai (kz1 kr) (ai (kz0 k0) trivial))))
theorem yGB (nx:Q (.bool t6_1) σ):zSW l l_l l_c low high t6_1 σ Q :=
 sK [] nx
theorem yGC (nx:Q (.bool true) σ):zSX l l_l l_c low high σ Q :=
 sK [.g] nx
theorem yKI (hb:∀ k aD σ,Inv k aD σ→zFF l l_l l_c low high aD σ (NX1 Inv k) Qr Q0):∀ k aD σ,Inv k aD σ→yKK l l_l l_c low high aD σ Qr Q0 :=
 xJ (ai zCK (ai (wI 0) trivial)) hb
theorem xAO (h1:lz σ 3 (zN l_a (Int.toNat aD*1)) (iV nG)) (h2:qn 30 [iV nG,iV low,iV high] σ (.bool true) σ) (h3:lz σ 3 (zN l_a (Int.toNat (aD-1)*1)) (iV nD)) (nx:Qr false σ) (u1:aD<(l_l:Int):=by omega) (u2:Ix aD l_l:=by omega) (u3:0<aD:=by omega) (u4:I6 (aD-1):=by omega) (u5:Ix (aD-1) l_l:=by omega) (u6:nG≤nD:=by omega):zFF (some l_a) l_l l_c low high aD σ Nx Qr Q0 :=
 kO 1 false [.b true,.g,.i,.l (iV nG),.g,.g,.g,.g,.g,.c (.bool true) σ,.g,.g,.g,.b true,.g,.g,.g,.g,.n (aD-1),.i,.l (iV nD),.b true,.g,.g,.g] (fun _ f=>an3 (zR u1) u2 h1 (an6 h2 (zR u3) (w64 u4) u5 h3 (yE u6) f)) nx
theorem xAN (h1:lz σ 3 (zN l_a (Int.toNat aD*1)) (iV nG)) (h2:qn 30 [iV nG,iV low,iV high] σ (.bool true) σ) (h3:lz σ 3 (zN l_a (Int.toNat (aD-1)*1)) (iV nD)) (nx:Nx (aD+1) σ) (u1:aD<(l_l:Int):=by omega) (u2:Ix aD l_l:=by omega) (u3:0<aD:=by omega) (u4:I6 (aD-1):=by omega) (u5:Ix (aD-1) l_l:=by omega) (u6:¬ nG≤nD:=by omega) (u7:I6 (aD+1):=by omega):zFF (some l_a) l_l l_c low high aD σ Nx Qr Q0 :=
 kO 0 (aD+1) [.b true,.g,.i,.l (iV nG),.g,.g,.g,.g,.g,.c (.bool true) σ,.g,.g,.g,.b true,.g,.g,.g,.g,.n (aD-1),.i,.l (iV nD),.b false,.g,.g,.n (aD+1),.g] (fun _ f=>an4 (zR u1) u2 h1 h2 (an6 (zR u3) (w64 u4) u5 h3 (yJ u6) (w64 u7) f)) nx
theorem xAM (h1:lz σ 3 (zN l_a (Int.toNat aD*1)) (iV nG)) (h2:qn 30 [iV nG,iV low,iV high] σ (.bool true) σ) (nx:Nx (aD+1) σ) (u1:aD<(l_l:Int):=by omega) (u2:Ix aD l_l:=by omega) (u3:¬ 0<aD:=by omega) (u4:I6 (aD+1):=by omega):zFF (some l_a) l_l l_c low high aD σ Nx Qr Q0 :=
 kO 0 (aD+1) [.b true,.g,.i,.l (iV nG),.g,.g,.g,.g,.g,.c (.bool true) σ,.g,.g,.g,.b false,.g,.g,.g,.n (aD+1),.g] (fun _ f=>an6 (zR u1) u2 h1 h2 (zT u3) (w64 u4) f) nx
theorem xAL (h1:lz σ 3 (zN l_a (Int.toNat aD*1)) (iV nG)) (h2:qn 30 [iV nG,iV low,iV high] σ (.bool false) σ) (nx:Qr false σ) (u1:aD<(l_l:Int):=by omega) (u2:Ix aD l_l:=by omega):zFF (some l_a) l_l l_c low high aD σ Nx Qr Q0 :=
 kO 1 false [.b true,.g,.i,.l (iV nG),.g,.g,.g,.g,.g,.c (.bool false) σ,.g,.g,.g,.g] (fun _ f=>an4 (zR u1) u2 h1 h2 f) nx
theorem xAK (nx:Q0 σ) (u1:¬ aD<(l_l:Int):=by omega):zFF l l_l l_c low high aD σ Nx Qr Q0 :=
 kO 2 () [.b false] (fun _ f=>ai (zT u1) f) nx
theorem xGY (hL:yKK l l_l l_c low high 0 σ Pr P0) (kr:∀ t6_1' σ',Pr t6_1' σ'→zWR l l_l l_c low high t6_1' σ' Q) (k0:∀ σ',P0 σ'→zWS l l_l l_c low high σ' Q):qi 60 [.slice l l_l l_c,iV low,iV high] σ Q :=
 zI [.g,.g,.g,.g,.lf 35 (zIO l l_l l_c low high 0) [zMY l l_l l_c low high Pr,zMZ l l_l l_c low high P0]] (kd (ai (ai tt (ai (arf (zIO l l_l l_c low high 0)) hL)) (ai (kz1 kr) (ai (kz0 k0) trivial))))
theorem yKG (nx:Q (.bool t6_1) σ):zWR l l_l l_c low high t6_1 σ Q :=
 sK [] nx
theorem yKH (nx:Q (.bool true) σ):zWS l l_l l_c low high σ Q :=
 sK [.g] nx
theorem xQV (nx:Q (.bool false) σ) (u1:¬ (bX:Int)=(b_l:Int):=by omega):qi 19 [.slice a_0 bX dj,.slice b b_l b_c] σ Q :=
 zI [.g,.g,.g,.g,.g,.b true,.g] (kd (ai (zCF u1) nx))
theorem yTK (hb:∀ k eO σ,Inv k eO σ→zVE a_0 bX dj b b_l b_c eO σ (NX1 Inv k) Qr Q0):∀ k eO σ,Inv k eO σ→yYF a_0 bX dj b b_l b_c eO σ Qr Q0 :=
 xJ (ai zCK (ai (wI 0) trivial)) hb
theorem xKA (h1:lz σ 3 (zN a_0_a (Int.toNat eO*1)) (iV nG)) (h2:lz σ 3 (zN b_a (Int.toNat eO*1)) (iV nF)) (nx:Qr false σ) (u1:eO<(bX:Int):=by omega) (u2:Ix eO bX:=by omega) (u3:Ix eO b_l:=by omega) (u4:¬ nG=nF:=by omega):zVE (some a_0_a) bX dj (some b_a) b_l b_c eO σ Nx Qr Q0 :=
 kO 1 false [.g,.g,.g,.b true,.g,.g,.i,.l (iV nG),.g,.g,.i,.l (iV nF),.b true,.g] (fun _ f=>an6 (zR u1) u2 h1 u3 h2 (zCF u4) f) nx
theorem xJZ (h1:lz σ 3 (zN a_0_a (Int.toNat eO*1)) (iV nG)) (h2:lz σ 3 (zN b_a (Int.toNat eO*1)) (iV nF)) (nx:Nx (eO+1) σ) (u1:eO<(bX:Int):=by omega) (u2:Ix eO bX:=by omega) (u3:Ix eO b_l:=by omega) (u4:nG=nF:=by omega) (u5:I6 (eO+1):=by omega):zVE (some a_0_a) bX dj (some b_a) b_l b_c eO σ Nx Qr Q0 :=
 kO 0 (eO+1) [.g,.g,.g,.b true,.g,.g,.i,.l (iV nG),.g,.g,.i,.l (iV nF),.b false,.g,.n (eO+1),.g] (fun _ f=>ai (zR u1) (an6 u2 h1 u3 h2 (zAF u4) (w64 u5) f)) nx
theorem xJY (nx:Q0 σ) (u1:¬ eO<(bX:Int):=by omega):zVE a_0 bX dj b b_l b_c eO σ Nx Qr Q0 :=
 kO 2 () [.g,.g,.g,.b false] (fun _ f=>ai (zT u1) f) nx
theorem xQU (hL:yYF a_0 bX dj b b_l b_c 0 σ Pr P0) (kr:∀ t4_1' σ',Pr t4_1' σ'→yDI a_0 bX dj b b_l b_c t4_1' σ' Q) (k0:∀ σ',P0 σ'→yDJ a_0 bX dj b b_l b_c σ' Q) (u1:(bX:Int)=(b_l:Int):=by omega):qi 19 [.slice a_0 bX dj,.slice b b_l b_c] σ Q :=
 zI [.g,.g,.g,.g,.g,.b false,.g,.lf 26 (zPB a_0 bX dj b b_l b_c 0) [zRB a_0 bX dj b b_l b_c Pr,zRC a_0 bX dj b b_l b_c P0]] (kd (ai (zAF u1) (ai (ai tt (ai (arf (zPB a_0 bX dj b b_l b_c 0)) hL)) (ai (kz1 kr) (ai (kz0 k0) trivial)))))
theorem yTI (nx:Q (.bool t4_1) σ):yDI a_0 bX dj b b_l b_c t4_1 σ Q :=
 sK [] nx
theorem yTJ (nx:Q (.bool true) σ):yDJ a_0 bX dj b b_l b_c σ Q :=
 sK [.g] nx
theorem yYD (h1:yD Pg 29 29 (.slice (some (qg σ.y 0)) 0 0) (.slice l l_l l_c) (σ.row [] 1)=some (.slice q2 l2 c2,σ1)) (nx:Q (.slice q2 l2 c2) σ1):qi 10 [.slice l l_l l_c] σ Q :=
 zI [.g,.g,.g,.e (.slice q2 l2 c2) σ1,.g] (kd (ai h1 nx))
end
end Go.Proofs.Ytgfiniccfpfplaa
