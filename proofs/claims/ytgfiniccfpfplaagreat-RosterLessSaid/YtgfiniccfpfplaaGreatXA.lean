import Derived.Test.YtgfiniccfpfplaaGreatTy
import Derived.Test.YtgfiniccfpfplaaGreatLayD
set_option linter.unusedVariables false
set_option linter.unusedSimpArgs false
set_option maxRecDepth 20000
namespace Go.Proofs.YtgfiniccfpfplaaGreat
open Go Go.Lay
open Tryz renaming prog → Pg
structure Rec where
 k:Int
 a:Int
 b:Int
 deriving DecidableEq,Inhabited
abbrev yA (n:Int):Value:=iV n
abbrev zAX (x:Rec):List Value:=rcd x.k x.a x.b
abbrev zEG (x:Rec):Value:=.agg ⟨zAX x⟩
def inB (n lo hi:Int):Bool:=decide (lo≤n) && decide (n≤hi)
theorem zAQ {n lo hi:Int}:inB n lo hi=true↔lo≤n∧n≤hi:=by simp [inB]
theorem yEG {n lo hi:Int}:inB n lo hi=false↔¬ (lo≤n∧n≤hi):=by rw [← Bool.not_eq_true,zAQ]
theorem wO {α:Type} {xs:List α} {i:Nat} {x:α} (h:xs[i]?=some x):xs.take (i+1)=xs.take i++[x]:=by
 rw [List.take_add_one,h];rfl
theorem le0 (σ:St):Le σ σ.re:=Le.re' (Le.refl _)
section
noncomputable section
variable (l roster:oAa) (l_l aG l_c aN:Nat) (n low aW dp high bu bM aF:Int) (q4:Int→Int→St→Prop) (t4_1 fP:Bool) (q0:Int→St→Prop) (q1:Bool→St→Prop) (q3:St→Prop) (σ:St) (Nx:Int→St→Prop) (q5:Int→Int→St→Prop) (Q:vPa) (Qr:Bool→St→Prop) (q6:Int→St→Prop) (Q0:St→Prop)
def yYC:Code:=(Code.part [1,0,1,0,0] (qh 43))
def zOV:lNa:=[(0,.slice l l_l l_c),(1,iV n),(5,iV dp)]
def xHW:Alt:=⟨Int,.normal,fun t=>zOV l l_l l_c n t,fun t=>[],fun t σ=>q0 t σ⟩
def yCQ (l:oAa) (l_l l_c:Nat) (n:Int) (t4_1:Bool):lNa:=[(4,.bool t4_1)]
def zQW:Alt:=⟨Bool,.ret,fun t=>yCQ l l_l l_c n t,fun t=>[],fun t σ=>q1 t σ⟩
def yCR (l:oAa) (l_l l_c:Nat) (n:Int):lNa:=[]
def zQX:Alt:=⟨Unit,(.exit 0),fun t=>yCR l l_l l_c n,fun t=>[],fun t σ=>q3 σ⟩
def zVF:Prop:=qi qj none yYC 18 (zOV l l_l l_c n dp) [] [xHW l l_l l_c n Nx,zQW l l_l l_c n Qr,zQX l l_l l_c n Q0] σ
def yYD:Prop:=qk qj none yYC 18 (zOV l l_l l_c n dp) [] [zQW l l_l l_c n Qr,zQX l l_l l_c n Q0] σ
def yCS:Prop:=kZ qj (qh 43) [1,0,1,0] (ql 43 Q) .ret 18 (yCQ l l_l l_c n t4_1) σ
def yCT:Prop:=kZ qj (qh 43) [1,0,1,0] (ql 43 Q) (.exit 0) 18 (yCR l l_l l_c n) σ
def yCO:Code:=(Code.part [1,0,1,0,0] (qh 42))
def zFF:lNa:=[(0,.slice l l_l l_c),(1,iV low),(2,iV high),(7,iV bM)]
def yRS:Alt:=⟨Int,.normal,fun t=>zFF l l_l l_c low high t,fun t=>[],fun t σ=>q0 t σ⟩
def zTB (l:oAa) (l_l l_c:Nat) (low high:Int) (fP:Bool):lNa:=[(6,.bool fP)]
def zIS:Alt:=⟨Bool,.ret,fun t=>zTB l l_l l_c low high t,fun t=>[],fun t σ=>q1 t σ⟩
def zTC (l:oAa) (l_l l_c:Nat) (low high:Int):lNa:=[]
def zIT:Alt:=⟨Unit,(.exit 0),fun t=>zTC l l_l l_c low high,fun t=>[],fun t σ=>q3 σ⟩
def zCW:Prop:=qi qj none yCO 38 (zFF l l_l l_c low high bM) [] [yRS l l_l l_c low high Nx,zIS l l_l l_c low high Qr,zIT l l_l l_c low high Q0] σ
def yCP:Prop:=qk qj none yCO 38 (zFF l l_l l_c low high bM) [] [zIS l l_l l_c low high Qr,zIT l l_l l_c low high Q0] σ
def zTD:Prop:=kZ qj (qh 42) [1,0,1,0] (ql 42 Q) .ret 38 (zTB l l_l l_c low high fP) σ
def zTE:Prop:=kZ qj (qh 42) [1,0,1,0] (ql 42 Q) (.exit 0) 38 (zTC l l_l l_c low high) σ
def yKY:Code:=(Code.part [1,0,1,0,0] (qh 71))
def zIO:lNa:=[(0,.slice l l_l l_c),(1,iV low),(2,iV high),(9,.slice l l_l l_c),(10,iV (l_l:Int)),(11,iV aF)]
def xBJ:Alt:=⟨Int,.normal,fun t=>zIO l l_l l_c low high t,fun t=>[],fun t σ=>q0 t σ⟩
def zWY (l:oAa) (l_l l_c:Nat) (low high:Int) (fP:Bool):lNa:=[(6,.bool fP)]
def zMX:Alt:=⟨Bool,.ret,fun t=>zWY l l_l l_c low high t,fun t=>[],fun t σ=>q1 t σ⟩
def zWZ (l:oAa) (l_l l_c:Nat) (low high:Int):lNa:=[]
def zMY:Alt:=⟨Unit,(.exit 0),fun t=>zWZ l l_l l_c low high,fun t=>[],fun t σ=>q3 σ⟩
def zFD:Prop:=qi qj none yKY 35 (zIO l l_l l_c low high aF) [] [xBJ l l_l l_c low high Nx,zMX l l_l l_c low high Qr,zMY l l_l l_c low high Q0] σ
def yKZ:Prop:=qk qj none yKY 35 (zIO l l_l l_c low high aF) [] [zMX l l_l l_c low high Qr,zMY l l_l l_c low high Q0] σ
def zXA:Prop:=kZ qj (qh 71) [1,0,1,0] (ql 71 Q) .ret 35 (zWY l l_l l_c low high fP) σ
def zXB:Prop:=kZ qj (qh 71) [1,0,1,0] (ql 71 Q) (.exit 0) 35 (zWZ l l_l l_c low high) σ
def zXH:Code:=(Code.part [1,1,0,1,0,0] (qh 27))
def zDN:lNa:=[(0,.slice roster aG aN),(3,iV aW),(4,iV bu)]
def yLI:Alt:=⟨Int × Int,.normal,fun t=>zDN roster aG aN t.1 t.2,fun t=>[],fun t σ=>q4 t.1 t.2 σ⟩
def zOW (roster:oAa) (aG aN:Nat) (aW:Int):lNa:=[(3,iV aW)]
def zGK:Alt:=⟨Int,(.exit 0),fun t=>zOW roster aG aN t,fun t=>[],fun t σ=>q0 t σ⟩
def zGL:Prop:=qi qj none zXH 19 (zDN roster aG aN aW bu) [] [yLI roster aG aN q5,zGK roster aG aN q6] σ
def zXI:Prop:=qk qj none zXH 19 (zDN roster aG aN aW bu) [] [zGK roster aG aN q6] σ
def zOX:Prop:=kZ qj (qh 27) [1,1,0,1,0] (ql 27 Q) (.exit 0) 19 (zOW roster aG aN aW) σ
end
variable {n low high dp nE bM nD aF aW bu duty df:Int} {σ σ1 σ3:St} {Q:vPa} {l roster q2:oAa} {l_l l_c aG aN l2 c2:Nat} {Inv:Nat→Int→St→Prop} {Qr Pr:Bool→St→Prop} {Q0 P0:St→Prop} {l_a eL q2_a:Addr} {Nx:Int→St→Prop} {t4_1 fP:Bool}
theorem xAL (nx:Q (.bool true) σ) (u1:low≤n:=by omega) (u2:n≤high:=by omega):qg 47 [iV n,iV low,iV high] σ Q :=
 zG [.g,.g,.g,.b true,.g,.g,.g,.b true,.g,.g] (kd (an2 (yD u1) (yD u2) nx))
theorem xAK (nx:Q (.bool false) σ) (u1:low≤n:=by omega) (u2:¬ n≤high:=by omega):qg 47 [iV n,iV low,iV high] σ Q :=
 zG [.g,.g,.g,.b true,.g,.g,.g,.b false,.g,.g] (kd (an2 (yD u1) (yF u2) nx))
theorem yCD (nx:Q (.bool false) σ) (u1:¬ low≤n:=by omega):qg 47 [iV n,iV low,iV high] σ Q :=
 zG [.g,.g,.g,.b false,.g,.g,.g] (kd (ai (yF u1) nx))
theorem xUS (nx:Q (.bool true) σ) (u1:low≤n:=by omega) (u2:n≤high:=by omega):qg 33 [iV n,iV low,iV high] σ Q :=
 zG [.g,.g,.g,.b true,.g,.g,.g,.b true,.g,.g] (kd (an2 (yD u1) (yD u2) nx))
theorem xUR (nx:Q (.bool false) σ) (u1:low≤n:=by omega) (u2:¬ n≤high:=by omega):qg 33 [iV n,iV low,iV high] σ Q :=
 zG [.g,.g,.g,.b true,.g,.g,.g,.b false,.g,.g] (kd (an2 (yD u1) (yF u2) nx))
theorem xHR (nx:Q (.bool false) σ) (u1:¬ low≤n:=by omega):qg 33 [iV n,iV low,iV high] σ Q :=
 zG [.g,.g,.g,.b false,.g,.g,.g] (kd (ai (yF u1) nx))
theorem yRV (hb:∀ k dp σ,Inv k dp σ→zVF l l_l l_c n dp σ (NX1 Inv k) Qr Q0):∀ k dp σ,Inv k dp σ→yYD l l_l l_c n dp σ Qr Q0 :=
 xE (ai zAN (ai (wA 0) trivial)) hb
theorem xHV (h1:lz σ 3 (zL l_a (Int.toNat dp*1)) (iV nE)) (nx:Qr true σ) (u1:dp<(l_l:Int):=by omega) (u2:Ix dp l_l:=by omega) (u3:nE=n:=by omega):zVF (some l_a) l_l l_c n dp σ Nx Qr Q0 :=
 kO 1 true [.g,.g,.g,.b true,.g,.g,.i,.l (iV nE),.g,.b true,.g] (fun _ f=>an4 (zR u1) u2 h1 (xL u3) f) nx
theorem xHU (h1:lz σ 3 (zL l_a (Int.toNat dp*1)) (iV nE)) (nx:Nx (dp+1) σ) (u1:dp<(l_l:Int):=by omega) (u2:Ix dp l_l:=by omega) (u3:¬ nE=n:=by omega) (u4:I6 (dp+1):=by omega):zVF (some l_a) l_l l_c n dp σ Nx Qr Q0 :=
 kO 0 (dp+1) [.g,.g,.g,.b true,.g,.g,.i,.l (iV nE),.g,.b false,.g,.n (dp+1),.g] (fun _ f=>an5 (zR u1) u2 h1 (xG u3) (w64 u4) f) nx
theorem xHT (nx:Q0 σ) (u1:¬ dp<(l_l:Int):=by omega):zVF l l_l l_c n dp σ Nx Qr Q0 :=
 kO 2 () [.g,.g,.g,.b false] (fun _ f=>ai (zU u1) f) nx
theorem xPV (hL:yYD l l_l l_c n 0 σ Pr P0) (kr:∀ t4_1' σ',Pr t4_1' σ'→yCS l l_l l_c n t4_1' σ' Q) (k0:∀ σ',P0 σ'→yCT l l_l l_c n σ' Q):qg 43 [.slice l l_l l_c,iV n] σ Q :=
 zG [.g,.g,.lf 18 (zOV l l_l l_c n 0) [zQW l l_l l_c n Pr,zQX l l_l l_c n P0]] (kd (ai (ai tt (ai (arf (zOV l l_l l_c n 0)) hL)) (ai (kz1 kr) (ai (kz0 k0) trivial))))
theorem yRT (nx:Q (.bool t4_1) σ):yCS l l_l l_c n t4_1 σ Q :=
 sK [] nx
theorem yRU (nx:Q (.bool false) σ):yCT l l_l l_c n σ Q :=
 sK [.g] nx
theorem yGX (hb:∀ k bM σ,Inv k bM σ→zCW l l_l l_c low high bM σ (NX1 Inv k) Qr Q0):∀ k bM σ,Inv k bM σ→yCP l l_l l_c low high bM σ Qr Q0 :=
 xE (ai zAN (ai (wA 0) trivial)) hb
theorem yRR (h1:lz σ 3 (zL l_a (Int.toNat bM*1)) (iV nE)) (h2:qm 33 [iV nE,iV low,iV high] σ (.bool true) σ) (h3:lz σ 3 (zL l_a (Int.toNat (bM-1)*1)) (iV nD)) (nx:Qr false σ) (u1:bM<(l_l:Int):=by omega) (u2:Ix bM l_l:=by omega) (u3:0<bM:=by omega) (u4:I6 (bM-1):=by omega) (u5:Ix (bM-1) l_l:=by omega) (u6:nE≤nD:=by omega):zCW (some l_a) l_l l_c low high bM σ Nx Qr Q0 :=
 kO 1 false [.g,.g,.g,.b true,.g,.g,.i,.l (iV nE),.g,.g,.c (.bool true) σ,.g,.g,.g,.b true,.g,.g,.g,.i,.l (iV nE),.g,.g,.n (bM-1),.i,.l (iV nD),.b true,.g,.g,.g] (fun _ f=>an5 (zR u1) u2 h1 h2 (zR u3) (an6 u2 h1 (w64 u4) u5 h3 (yD u6) f)) nx
theorem yRQ (h1:lz σ 3 (zL l_a (Int.toNat bM*1)) (iV nE)) (h2:qm 33 [iV nE,iV low,iV high] σ (.bool true) σ) (h3:lz σ 3 (zL l_a (Int.toNat (bM-1)*1)) (iV nD)) (nx:Nx (bM+1) σ) (u1:bM<(l_l:Int):=by omega) (u2:Ix bM l_l:=by omega) (u3:0<bM:=by omega) (u4:I6 (bM-1):=by omega) (u5:Ix (bM-1) l_l:=by omega) (u6:¬ nE≤nD:=by omega) (u7:I6 (bM+1):=by omega):zCW (some l_a) l_l l_c low high bM σ Nx Qr Q0 :=
 kO 0 (bM+1) [.g,.g,.g,.b true,.g,.g,.i,.l (iV nE),.g,.g,.c (.bool true) σ,.g,.g,.g,.b true,.g,.g,.g,.i,.l (iV nE),.g,.g,.n (bM-1),.i,.l (iV nD),.b false,.g,.g,.g,.n (bM+1),.g] (fun _ f=>an6 (zR u1) u2 h1 h2 (zR u3) u2 (an6 h1 (w64 u4) u5 h3 (yF u6) (w64 u7) f)) nx
theorem yRP (h1:lz σ 3 (zL l_a (Int.toNat bM*1)) (iV nE)) (h2:qm 33 [iV nE,iV low,iV high] σ (.bool true) σ) (nx:Nx (bM+1) σ) (u1:bM<(l_l:Int):=by omega) (u2:Ix bM l_l:=by omega) (u3:¬ 0<bM:=by omega) (u4:I6 (bM+1):=by omega):zCW (some l_a) l_l l_c low high bM σ Nx Qr Q0 :=
 kO 0 (bM+1) [.g,.g,.g,.b true,.g,.g,.i,.l (iV nE),.g,.g,.c (.bool true) σ,.g,.g,.g,.b false,.g,.g,.g,.g,.n (bM+1),.g] (fun _ f=>an6 (zR u1) u2 h1 h2 (zU u3) (w64 u4) f) nx
theorem yRO (h1:lz σ 3 (zL l_a (Int.toNat bM*1)) (iV nE)) (h2:qm 33 [iV nE,iV low,iV high] σ (.bool false) σ) (nx:Qr false σ) (u1:bM<(l_l:Int):=by omega) (u2:Ix bM l_l:=by omega):zCW (some l_a) l_l l_c low high bM σ Nx Qr Q0 :=
 kO 1 false [.g,.g,.g,.b true,.g,.g,.i,.l (iV nE),.g,.g,.c (.bool false) σ,.g,.g,.g,.g] (fun _ f=>an4 (zR u1) u2 h1 h2 f) nx
theorem yRN (nx:Q0 σ) (u1:¬ bM<(l_l:Int):=by omega):zCW l l_l l_c low high bM σ Nx Qr Q0 :=
 kO 2 () [.g,.g,.g,.b false] (fun _ f=>ai (zU u1) f) nx
theorem xBL (hL:yCP l l_l l_c low high 0 σ Pr P0) (kr:∀ t6_1' σ',Pr t6_1' σ'→zTD l l_l l_c low high t6_1' σ' Q) (k0:∀ σ',P0 σ'→zTE l l_l l_c low high σ' Q):qg 42 [.slice l l_l l_c,iV low,iV high] σ Q :=
 zG [.g,.g,.lf 38 (zFF l l_l l_c low high 0) [zIS l l_l l_c low high Pr,zIT l l_l l_c low high P0]] (kd (ai (ai tt (ai (arf (zFF l l_l l_c low high 0)) hL)) (ai (kz1 kr) (ai (kz0 k0) trivial))))
theorem yGV (nx:Q (.bool fP) σ):zTD l l_l l_c low high fP σ Q :=
 sK [] nx
theorem yGW (nx:Q (.bool true) σ):zTE l l_l l_c low high σ Q :=
 sK [.g] nx
theorem yKX (hb:∀ k aF σ,Inv k aF σ→zFD l l_l l_c low high aF σ (NX1 Inv k) Qr Q0):∀ k aF σ,Inv k aF σ→yKZ l l_l l_c low high aF σ Qr Q0 :=
 xE (ai zAN (ai (wA 0) trivial)) hb
theorem xBI (h1:lz σ 3 (zL l_a (Int.toNat aF*1)) (iV nE)) (h2:qm 47 [iV nE,iV low,iV high] σ (.bool true) σ) (h3:lz σ 3 (zL l_a (Int.toNat (aF-1)*1)) (iV nD)) (nx:Qr false σ) (u1:aF<(l_l:Int):=by omega) (u2:Ix aF l_l:=by omega) (u3:0<aF:=by omega) (u4:I6 (aF-1):=by omega) (u5:Ix (aF-1) l_l:=by omega) (u6:nE≤nD:=by omega):zFD (some l_a) l_l l_c low high aF σ Nx Qr Q0 :=
 kO 1 false [.b true,.g,.i,.l (iV nE),.g,.g,.g,.g,.g,.c (.bool true) σ,.g,.g,.g,.b true,.g,.g,.g,.g,.n (aF-1),.i,.l (iV nD),.b true,.g,.g,.g] (fun _ f=>an3 (zR u1) u2 h1 (an6 h2 (zR u3) (w64 u4) u5 h3 (yD u6) f)) nx
theorem xBH (h1:lz σ 3 (zL l_a (Int.toNat aF*1)) (iV nE)) (h2:qm 47 [iV nE,iV low,iV high] σ (.bool true) σ) (h3:lz σ 3 (zL l_a (Int.toNat (aF-1)*1)) (iV nD)) (nx:Nx (aF+1) σ) (u1:aF<(l_l:Int):=by omega) (u2:Ix aF l_l:=by omega) (u3:0<aF:=by omega) (u4:I6 (aF-1):=by omega) (u5:Ix (aF-1) l_l:=by omega) (u6:¬ nE≤nD:=by omega) (u7:I6 (aF+1):=by omega):zFD (some l_a) l_l l_c low high aF σ Nx Qr Q0 :=
 kO 0 (aF+1) [.b true,.g,.i,.l (iV nE),.g,.g,.g,.g,.g,.c (.bool true) σ,.g,.g,.g,.b true,.g,.g,.g,.g,.n (aF-1),.i,.l (iV nD),.b false,.g,.g,.n (aF+1),.g] (fun _ f=>an4 (zR u1) u2 h1 h2 (an6 (zR u3) (w64 u4) u5 h3 (yF u6) (w64 u7) f)) nx
theorem xBG (h1:lz σ 3 (zL l_a (Int.toNat aF*1)) (iV nE)) (h2:qm 47 [iV nE,iV low,iV high] σ (.bool true) σ) (nx:Nx (aF+1) σ) (u1:aF<(l_l:Int):=by omega) (u2:Ix aF l_l:=by omega) (u3:¬ 0<aF:=by omega) (u4:I6 (aF+1):=by omega):zFD (some l_a) l_l l_c low high aF σ Nx Qr Q0 :=
 kO 0 (aF+1) [.b true,.g,.i,.l (iV nE),.g,.g,.g,.g,.g,.c (.bool true) σ,.g,.g,.g,.b false,.g,.g,.g,.n (aF+1),.g] (fun _ f=>an6 (zR u1) u2 h1 h2 (zU u3) (w64 u4) f) nx
theorem xBF (h1:lz σ 3 (zL l_a (Int.toNat aF*1)) (iV nE)) (h2:qm 47 [iV nE,iV low,iV high] σ (.bool false) σ) (nx:Qr false σ) (u1:aF<(l_l:Int):=by omega) (u2:Ix aF l_l:=by omega):zFD (some l_a) l_l l_c low high aF σ Nx Qr Q0 :=
 kO 1 false [.b true,.g,.i,.l (iV nE),.g,.g,.g,.g,.g,.c (.bool false) σ,.g,.g,.g,.g] (fun _ f=>an4 (zR u1) u2 h1 h2 f) nx
theorem xBE (nx:Q0 σ) (u1:¬ aF<(l_l:Int):=by omega):zFD l l_l l_c low high aF σ Nx Qr Q0 :=
 kO 2 () [.b false] (fun _ f=>ai (zU u1) f) nx
theorem xHJ (hL:yKZ l l_l l_c low high 0 σ Pr P0) (kr:∀ t6_1' σ',Pr t6_1' σ'→zXA l l_l l_c low high t6_1' σ' Q) (k0:∀ σ',P0 σ'→zXB l l_l l_c low high σ' Q):qg 71 [.slice l l_l l_c,iV low,iV high] σ Q :=
 zG [.g,.g,.g,.g,.lf 35 (zIO l l_l l_c low high 0) [zMX l l_l l_c low high Pr,zMY l l_l l_c low high P0]] (kd (ai (ai tt (ai (arf (zIO l l_l l_c low high 0)) hL)) (ai (kz1 kr) (ai (kz0 k0) trivial))))
theorem yKV (nx:Q (.bool fP) σ):zXA l l_l l_c low high fP σ Q :=
 sK [] nx
theorem yKW (nx:Q (.bool true) σ):zXB l l_l l_c low high σ Q :=
 sK [.g] nx
theorem yBQ {Inv:Nat→Int→Int→St→Prop} {Q0:Int→St→Prop} (hb:∀ k aW bu σ,Inv k aW bu σ→zGL roster aG aN aW bu σ (NX2 Inv k) Q0):∀ k aW bu σ,Inv k aW bu σ→zXI roster aG aN aW bu σ Q0 :=
 zDP (ai (wA 0) trivial) hb
theorem yLH {Nx:Int→Int→St→Prop} {Q0:Int→St→Prop} (h1:lz σ 3 (zL eL (Int.toNat bu*1)) (iV nE)) (nx:Nx (aW+1) (bu+1) σ) (u1:bu<(aG:Int):=by omega) (u2:Ix bu aG:=by omega) (u3:0≤nE:=by omega) (u4:I6 (aW+1):=by omega) (u5:I6 (bu+1):=by omega):zGL (some eL) aG aN aW bu σ Nx Q0 :=
 kO 0 (aW+1,bu+1) [.g,.g,.g,.b true,.g,.g,.i,.l (iV nE),.b true,.g,.n (aW+1),.g,.g,.n (bu+1),.g] (fun _ f=>an6 (zR u1) u2 h1 (yD u3) (w64 u4) (w64 u5) f) nx
theorem yLG {Nx:Int→Int→St→Prop} {Q0:Int→St→Prop} (h1:lz σ 3 (zL eL (Int.toNat bu*1)) (iV nE)) (nx:Nx aW (bu+1) σ) (u1:bu<(aG:Int):=by omega) (u2:Ix bu aG:=by omega) (u3:¬ 0≤nE:=by omega) (u4:I6 (bu+1):=by omega):zGL (some eL) aG aN aW bu σ Nx Q0 :=
 kO 0 (aW,bu+1) [.g,.g,.g,.b true,.g,.g,.i,.l (iV nE),.b false,.g,.n (bu+1),.g] (fun _ f=>an5 (zR u1) u2 h1 (yF u3) (w64 u4) f) nx
theorem yLF {Nx:Int→Int→St→Prop} {Q0:Int→St→Prop} (nx:Q0 aW σ) (u1:¬ bu<(aG:Int):=by omega):zGL roster aG aN aW bu σ Nx Q0 :=
 kO 1 aW [.g,.g,.g,.b false] (fun _ f=>ai (zU u1) f) nx
theorem ySN {P0:Int→St→Prop} (hL:zXI roster aG aN 0 0 σ P0) (k0:∀ i3_1' σ',P0 i3_1' σ'→zOX roster aG aN i3_1' σ' Q):qg 27 [.slice roster aG aN] σ Q :=
 zG [.g,.g,.g,.lf 19 (zDN roster aG aN 0 0) [zGK roster aG aN P0]] (kd (ai (ai tt (ai (arf (zDN roster aG aN 0 0)) hL)) (ai (kz1 k0) trivial)))
theorem yBP (nx:Q (iV aW) σ):zOX roster aG aN aW σ Q :=
 sK [.g,.g] nx
theorem xHQ (h1:yG Pg 26 26 (.slice (some (qe σ.y 0)) 0 0) (.slice roster aG aN) (σ.row [] 1)=some (.slice (some q2_a) l2 c2,σ1)) (h2:qn (evL [pz (zL q2_a (Int.toNat duty*1)),iV df]) σ1 (.store 3 (.tmp 0) (.tmp 1))=some (undef,σ3)) (nx:Q (.slice (some q2_a) l2 c2) σ3) (u1:Ix duty l2:=by omega):qg 34 [.slice roster aG aN,iV duty,iV df] σ Q :=
 zG [.g,.g,.g,.e (.slice (some q2_a) l2 c2) σ1,.g,.g,.g,.g,.i,.e undef σ3,.g,.g] (kd (an3 h1 u1 h2 nx))
theorem xRB (h1:yG Pg 26 26 (.slice (some (qe σ.y 0)) 0 0) (.slice l l_l l_c) (σ.row [] 1)=some (.slice q2 l2 c2,σ1)) (nx:Q (.slice q2 l2 c2) σ1):qg 19 [.slice l l_l l_c] σ Q :=
 zG [.g,.g,.g,.e (.slice q2 l2 c2) σ1,.g] (kd (ai h1 nx))
end
end Go.Proofs.YtgfiniccfpfplaaGreat
