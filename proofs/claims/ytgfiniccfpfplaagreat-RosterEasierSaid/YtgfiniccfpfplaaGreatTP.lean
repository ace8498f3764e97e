import Derived.Test.YtgfiniccfpfplaaGreatTy
import Derived.Test.YtgfiniccfpfplaaGreatTK
import Derived.Test.YtgfiniccfpfplaaGreatRN
set_option linter.unusedVariables false
set_option maxRecDepth 20000
set_option linter.unusedSimpArgs false
namespace Go.Proofs.YtgfiniccfpfplaaGreat
open Go Go.Lay
open Tryz renaming prog -> Pg
section
noncomputable section
variable (l:oAa) (l_l l_c:Nat) (n:Int) (Q:(Option Addr)->Nat->Nat->Bool->Int->St->Prop) (dm:oAa) (q0:(Option Addr)->Nat->Nat->Bool->St->Prop) (dp dv:Nat) (eX:Bool) (bG:Int) (Z:St) (q1:vPa) (Nx:(Option Addr)->Nat->Nat->Bool->Int->St->Prop) (Q0:(Option Addr)->Nat->Nat->Bool->St->Prop)
def xKB:Code:=(Code.part [1,1,1,0,1,0,0] (qj 44))
def zYE:lNa:=[(0,.slice l l_l l_c),(1,iV n),(5,.slice dm dp dv),(6,.bool eX),(7,iV bG)]
def xRZ:Alt:=⟨(Option Addr) × Nat × Nat × Bool × Int,.normal,fun t=>zYE l l_l l_c n t.1 t.2.1 t.2.2.1 t.2.2.2.1 t.2.2.2.2,fun t=>[],fun t Z=>Q t.1 t.2.1 t.2.2.1 t.2.2.2.1 t.2.2.2.2 Z⟩
def yMK (l:oAa) (l_l l_c:Nat) (n:Int) (dm:oAa) (dp dv:Nat) (eX:Bool):lNa:=[(1,iV n),(5,.slice dm dp dv),(6,.bool eX)]
def zYF:Alt:=⟨(Option Addr) × Nat × Nat × Bool,(.exit 0),fun t=>yMK l l_l l_c n t.1 t.2.1 t.2.2.1 t.2.2.2,fun t=>[],fun t Z=>q0 t.1 t.2.1 t.2.2.1 t.2.2.2 Z⟩
def zRQ:Prop:=qk ql none xKB 48 (zYE l l_l l_c n dm dp dv eX bG) [] [xRZ l l_l l_c n Nx,zYF l l_l l_c n Q0] Z
def yUH:Prop:=qm ql none xKB 48 (zYE l l_l l_c n dm dp dv eX bG) [] [zYF l l_l l_c n Q0] Z
def zYG:Prop:=kZ ql (qj 44) [1,1,1,0,1,0] (qn 44 q1) (.exit 0) 48 (yMK l l_l l_c n dm dp dv eX) Z
end
variable {l dm qF qN qO:oAa} {l_l l_c dp dv lH cF lQ cO lS cP:Nat} {n bG nA nG:Int} {Inv:Nat->(Option Addr)->Nat->Nat->Bool->Int->St->Prop} {Q0 P0:(Option Addr)->Nat->Nat->Bool->St->Prop} {l_a:Addr} {ZB Z ZI ZBL:St} {Nx:(Option Addr)->Nat->Nat->Bool->Int->St->Prop} {eX:Bool} {Q:vPa}
theorem xDX (hb:∀ k dm dp dv eX bG Z,Inv k dm dp dv eX bG Z->zRQ l l_l l_c n dm dp dv eX bG Z (NX5 Inv k) Q0):∀ k dm dp dv eX bG Z,Inv k dm dp dv eX bG Z->yUH l l_l l_c n dm dp dv eX bG Z Q0 :=
 xLY (ai (xZ 0) trivial) hb
theorem xRY (h1:lz Z 3 (zJ l_a (Int.toNat bG*1)) (iV nA)) (h2:yC Pg 26 26 (.slice dm dp dv) (.slice (some (qg Z.y 0)) 1 1) (Z.row [iV nA] 1)=some (.slice qF lH cF,ZB)) (nx:Nx qF lH cF true (bG+1) ZB) (u1:bG<(l_l:Int):=by omega) (u2:Ix bG l_l:=by omega) (u3:I6 (bG+1):=by omega):zRQ (some l_a) l_l l_c n dm dp dv true bG Z Nx Q0 :=
 kO 0 (qF,lH,cF,true,bG+1) [.g,.g,.g,.b true,.g,.g,.g,.g,.g,.g,.g,.i,.l (iV nA),.g,.e (.slice qF lH cF) ZB,.g,.g,.n (bG+1),.g] (fun _ f=>an5 (zR u1) u2 h1 h2 (w64 u3) f) nx
theorem xRX (h1:lz Z 3 (zJ l_a (Int.toNat bG*1)) (iV nA)) (h2:yC Pg 26 26 (.slice dm dp dv) (.slice (some (qg Z.y 0)) 1 1) (Z.row [iV n] 1)=some (.slice qF lH cF,ZB)) (h3:lz ZB 3 (zJ l_a (Int.toNat bG*1)) (iV nG)) (h4:yC Pg 26 26 (.slice qF lH cF) (.slice (some (qg ZB.y 0)) 1 1) (ZB.row [iV nG] 1)=some (.slice qN lQ cO,ZI)) (nx:Nx qN lQ cO true (bG+1) ZI) (u1:bG<(l_l:Int):=by omega) (u2:Ix bG l_l:=by omega) (u3:n<=nA:=by omega) (u4:n<nA:=by omega) (u5:I6 (bG+1):=by omega):zRQ (some l_a) l_l l_c n dm dp dv false bG Z Nx Q0 :=
 kO 0 (qN,lQ,cO,true,bG+1) [.g,.g,.g,.b true,.g,.g,.g,.g,.g,.i,.l (iV nA),.g,.b true,.g,.g,.g,.g,.i,.l (iV nA),.g,.b true,.g,.g,.g,.e (.slice qF lH cF) ZB,.g,.g,.g,.g,.i,.l (iV nG),.g,.e (.slice qN lQ cO) ZI,.g,.g,.n (bG+1),.g] (fun _ f=>an6 (zR u1) u2 h1 (yE u3) u2 h1 (an6 (zR u4) h2 u2 h3 h4 (w64 u5) f)) nx
theorem xRW (h1:lz Z 3 (zJ l_a (Int.toNat bG*1)) (iV nA)) (h2:yC Pg 26 26 (.slice dm dp dv) (.slice (some (qg Z.y 0)) 1 1) (Z.row [iV nA] 1)=some (.slice qF lH cF,ZB)) (nx:Nx qF lH cF true (bG+1) ZB) (u1:bG<(l_l:Int):=by omega) (u2:Ix bG l_l:=by omega) (u3:n<=nA:=by omega) (u4:¬ n<nA:=by omega) (u5:I6 (bG+1):=by omega):zRQ (some l_a) l_l l_c n dm dp dv false bG Z Nx Q0 :=
 kO 0 (qF,lH,cF,true,bG+1) [.g,.g,.g,.b true,.g,.g,.g,.g,.g,.i,.l (iV nA),.g,.b true,.g,.g,.g,.g,.i,.l (iV nA),.g,.b false,.g,.g,.g,.i,.l (iV nA),.g,.e (.slice qF lH cF) ZB,.g,.g,.n (bG+1),.g] (fun _ f=>an5 (zR u1) u2 h1 (yE u3) u2 (an6 h1 (zS u4) u2 h1 h2 (w64 u5) f)) nx
theorem xRV (h1:lz Z 3 (zJ l_a (Int.toNat bG*1)) (iV nA)) (h2:yC Pg 26 26 (.slice dm dp dv) (.slice (some (qg Z.y 0)) 1 1) (Z.row [iV nA] 1)=some (.slice qF lH cF,ZB)) (nx:Nx qF lH cF false (bG+1) ZB) (u1:bG<(l_l:Int):=by omega) (u2:Ix bG l_l:=by omega) (u3:¬ n<=nA:=by omega) (u4:I6 (bG+1):=by omega):zRQ (some l_a) l_l l_c n dm dp dv false bG Z Nx Q0 :=
 kO 0 (qF,lH,cF,false,bG+1) [.g,.g,.g,.b true,.g,.g,.g,.g,.g,.i,.l (iV nA),.g,.b false,.g,.g,.g,.g,.i,.l (iV nA),.g,.e (.slice qF lH cF) ZB,.g,.g,.n (bG+1),.g] (fun _ f=>an2 (zR u1) u2 (an6 h1 (yH u3) u2 h1 h2 (w64 u4) f)) nx
theorem xRU (nx:Q0 dm dp dv eX Z) (u1:¬ bG<(l_l:Int):=by omega):zRQ l l_l l_c n dm dp dv eX bG Z Nx Q0 :=
 kO 1 (dm,dp,dv,eX) [.g,.g,.g,.b false] (fun _ f=>ai (zS u1) f) nx
theorem xWZ (hL:yUH l l_l l_c n none 0 0 false 0 Z P0) (k0:∀ p5_1' l5_1' c5_1' t6_1' Z',P0 p5_1' l5_1' c5_1' t6_1' Z'->zYG l l_l l_c n p5_1' l5_1' c5_1' t6_1' Z' Q):qi 44 [.slice l l_l l_c,iV n] Z Q :=
 zG [.g,.g,.g,.g,.lf 48 (zYE l l_l l_c n none 0 0 false 0) [zYF l l_l l_c n P0]] (kd (ai (ai tt (ai (arf (zYE l l_l l_c n none 0 0 false 0)) hL)) (ai (kz4 k0) trivial)))
theorem xDW (nx:Q (.slice dm dp dv) Z):zYG l l_l l_c n dm dp dv true Z Q :=
 sK [.g,.g,.g,.g] nx
theorem xDV (h1:yC Pg 26 26 (.slice dm dp dv) (.slice (some (qg Z.y 0)) 1 1) (Z.row [iV n] 1)=some (.slice qO lS cP,ZBL)) (nx:Q (.slice qO lS cP) ZBL):zYG l l_l l_c n dm dp dv false Z Q :=
 sK [.g,.g,.g,.g,.g,.e (.slice qO lS cP) ZBL,.g,.g,.g] (ai h1 nx)
end
section
variable {z:St} {p:Option Addr} {l c:Nat} {xs:List Int}
theorem yKA {z y:St} {p5:Option Addr} {l5 c5:Nat} {out:List Int} (x:Int) (J1:New z y) (J3:Ax y z.y 1 p5 l5 c5 (out.map zY)) (hl:l5<=100000) :
  ∃ p4 c4 s4,yC Tryz.prog 26 26 (.slice p5 l5 c5) (.slice (some ⟨y.y,0,none⟩) 1 1) (y.row [iV x] 1)=some (.slice p4 (l5+1) c4,s4)/\New z s4/\Ax s4 z.y 1 p4 (l5+1) c4 ((out++[x]).map zY):=by
 obtain ⟨t3,ht3⟩:∃ t3,t3=y.row [iV x] 1:=⟨_,rfl⟩;have M3:New y t3:=by rw [ht3];exact New.row _ _ _
 have r3:Row t3 ⟨y.y,0,none⟩ [iV x]:=by rw [ht3];exact xP _ _ _
 have nx3:=M3.nx;have nx1:=J1.nx;obtain ⟨p4,c4,s4,ap4,A4,O4,b4⟩:=Ax.append (P:=Tryz.prog) (k:=1) (m:=1) (n0:=z.y) uJ (J3.le M3.le) (r3.sl rfl) (by omega) rfl (by omega);have N4:New z s4:=(J1.trans M3).of_only O4 (fun b hb=>(J3.bd b hb).1);rw [ht3] at ap4;exact ⟨p4,c4,s4,ap4,N4,by rw [List.map_append];exact A4⟩
theorem xZD {n:Int} (h:yG z p l xs) (hl:l<=1000) :
  ∃ p' c' z',zD Tryz.prog 44 [.slice p l c,iV n] z (.slice p' (zAG xs n).length c') z'/\New z z'/\yG z' p' (zAG xs n).length (zAG xs n)/\∀ b,AtP p' b->z.y<=b:=by
 have hxl:=h.len;let J:Nat->Option Addr->Nat->Nat->Bool->St->Prop:=fun j p5 l5 c5 t6 y=>∃ out:List Int,New z.re y/\Ax y z.re.y 1 p5 l5 c5 (out.map zY)/\l5=out.length/\((t6=false/\out=xs.take j/\∀ a∈xs.take j,a<n)\/(t6=true/\out=zAG (xs.take j) n/\∃ a∈xs.take j,n<=a))
 have hL:yUH p l c n none 0 0 false 0 z.re (fun p5 l5 c5 t6 y=>J l p5 l5 c5 t6 y):=by
  refine xDX (Inv:=fun k p5 l5 c5 t6 i y=>∃ j:Nat,i=(j:Int)/\j+k=l/\J j p5 l5 c5 t6 y) ?_ l none 0 0 false 0 z.re ⟨0,rfl,by omega,[],New.refl _,Ax.nil,rfl,.inl ⟨rfl,rfl,fun a ha=>by cases ha⟩⟩;rintro k p5 l5 c5 t6 i y ⟨j,rfl,hk,out,J1,J3,rfl,J4⟩;by_cases hj:j<l;rotate_left
  ·have:j=l:=by omega
   subst this;exact xRU ⟨out,J1,J3,rfl,J4⟩ (by omega)
  have hx1:yG y p l xs:=SlV.le h ((le0 z).trans J1.le);obtain ⟨a,rfl,x,hx,ldx⟩:=wZ hx1 hj;have etk:=wD hx;have hol:out.length<=1001:=by
   rcases J4 with ⟨_,e,_⟩ | ⟨_,e,_⟩
   ·rw [e,List.length_take];omega
   ·have:=zYI (n:=n) (xs:=xs.take j);rw [List.length_take] at this;rw [e];omega
  obtain ⟨p4,c4,s4,ap4,N4,A4⟩:=yKA x J1 J3 (by omega);rcases J4 with ⟨rfl,e,hlt⟩ | ⟨rfl,e,hex⟩
  ·by_cases g1:n<=x
   ·have hat:=xAA g1 hlt;by_cases g2:n<x
    ·rw [if_pos g2] at hat
     obtain ⟨p6,c6,s6,ap6,N6,A6⟩:=yKA n J1 J3 (by omega);obtain ⟨p7,c7,s7,ap7,N7,A7⟩:=yKA x N6 A6 (by omega);have hx2:yG s6 (some a) l xs:=SlV.le h ((le0 z).trans N6.le);obtain ⟨a',ea,x',hx',ldx'⟩:=wZ hx2 hj;cases ea
     have:x'=x:=by rw [hx] at hx';exact (Option.some.inj hx').symm
     subst this;exact xRX ldx ap6 ldx' ap7 ⟨k-1,by omega,j+1,by omega,by omega,out++[n]++[x'],N7,A7,by simp,.inr ⟨rfl,by rw [etk,hat,e];simp,x',by rw [etk];simp,g1⟩⟩ (by omega) ⟨by omega,by omega⟩ g1 g2 ⟨by omega,by omega⟩
    ·rw [if_neg g2] at hat
     exact xRW ldx ap4 ⟨k-1,by omega,j+1,by omega,by omega,out++[x],N4,A4,by simp,.inr ⟨rfl,by rw [etk,hat,e],x,by rw [etk];simp,g1⟩⟩ (by omega) ⟨by omega,by omega⟩ g1 g2 ⟨by omega,by omega⟩
   ·exact xRV ldx ap4 ⟨k-1,by omega,j+1,by omega,by omega,out++[x],N4,A4,by simp,.inl ⟨rfl,by rw [etk,e],fun b hb=>by
     rw [etk] at hb;rcases List.mem_append.1 hb with hb | hb
     ·exact hlt b hb
     ·rw [List.mem_singleton.1 hb];omega⟩⟩ (by omega) ⟨by omega,by omega⟩ g1 ⟨by omega,by omega⟩
  ·exact xRY ldx ap4 ⟨k-1,by omega,j+1,by omega,by omega,out++[x],N4,A4,by simp,.inr ⟨rfl,by rw [etk,yDW hex,e],by obtain ⟨b,hb,hn⟩:=hex;exact ⟨b,by rw [etk];exact List.mem_append_left _ hb,hn⟩⟩⟩ (by omega) ⟨by omega,by omega⟩ ⟨by omega,by omega⟩
 have etl:xs.take l=xs:=List.take_of_length_le (by omega);have fin:∀ {y:St} {p5:Option Addr} {l5 c5:Nat},New z.re y->Ax y z.re.y 1 p5 l5 c5 ((zAG xs n).map zY)->l5=(zAG xs n).length->New z.re y/\∃ p' c',Value.slice p5 l5 c5=.slice p' (zAG xs n).length c'/\yG y p' (zAG xs n).length (zAG xs n)/\∀ b,AtP p' b->z.re.y<=b:=by
  intro y p5 l5 c5 J1 J3 e;subst e;exact ⟨J1,p5,c5,rfl,Ax.slv (by rw [wH _ .i64];exact J3) (by simp) (fun v hv=>by obtain ⟨x,_,rfl⟩:=List.mem_map.1 hv;exact vV x),fun b hb=>(J3.bd b hb).1⟩
 refine zP.newSl (xWZ hL ?_);rintro p5 l5 c5 t6 y ⟨out,J1,J3,rfl,J4⟩;rw [etl] at J4;rcases J4 with ⟨rfl,rfl,hlt⟩ | ⟨rfl,rfl,_⟩
 ·obtain ⟨p4,c4,s4,ap4,N4,A4⟩:=yKA n J1 J3 (by omega);rw [<- zRR hlt] at A4;exact xDV ap4 (fin N4 A4 (by rw [zRR hlt];simp))
 ·exact xDW (fin J1 J3 rfl)
end
section
noncomputable section
variable (bM qG:oAa) (bb lK bj cI:Nat) (duty:Int) (qH:oAa) (BA lL BB cH:Nat) (A1003:Addr) (q2:Bool->St->Prop) (t12_2:Bool) (eS kD kC:Int) (q1:Int->St->Prop) (Z:St) (q0 Qn:St->Prop) (Nx:Int->St->Prop) (Q:vPa) (Qr:Bool->St->Prop) (Q1:St->Prop)
def yVU:Code:=(Code.part [1,1,1,1,1,1,0,1] (qj 13))
def zZM:lNa:=[(1,.slice bM bb bj),(4,.int .u8 duty),(6,pq BA 0),(13,pq BB 0),(14,pz A1003),(15,iV kD),(65,.int .u8 kC)]
def zPY (bM:oAa) (bb bj:Nat) (duty:Int) (BA BB:Nat) (A1003:Addr) (kD kC:Int):lNa:=[(1,.slice bM bb bj),(4,.int .u8 duty),(6,pq BA 0),(13,pq BB 0)]
def zPZ:Alt:=⟨Unit,.normal,fun t=>zPY bM bb bj duty BA BB A1003 kD kC,fun t=>[],fun t Z=>q0 Z⟩
def vB:Prop:=qk (zIP Pg 15) none yVU 254 (zZM bM bb bj duty BA BB A1003 kD kC) [] [zPZ bM bb bj duty BA BB A1003 kD kC Qn] Z
def zAY:Prop:=kZ (zIP Pg 15) (qj 13) [1,1,1,1,1,1,0,1] (qn 13 Q) .normal 254 (zPY bM bb bj duty BA BB A1003 kD kC) Z
def zZN:Code:=(Code.part [1,1,1,1,1,1,1,1,1,1,1,1,1,0,1,0,0] (qj 13))
def zAK:lNa:=[(25,.slice qG lK cI),(27,.slice qH lL cH),(29,iV eS)]
def yOM:Alt:=⟨Int,.normal,fun t=>zAK qG lK cI qH lL cH t,fun t=>[],fun t Z=>q1 t Z⟩
def zPW (qG:oAa) (lK cI:Nat) (qH:oAa) (lL cH:Nat) (t12_2:Bool):lNa:=[(12,.bool t12_2)]
def zCX:Alt:=⟨Bool,.ret,fun t=>zPW qG lK cI qH lL cH t,fun t=>[],fun t Z=>q2 t Z⟩
def zPX (qG:oAa) (lK cI:Nat) (qH:oAa) (lL cH:Nat):lNa:=[]
def zCY:Alt:=⟨Unit,(.exit 1),fun t=>zPX qG lK cI qH lL cH,fun t=>[],fun t Z=>q0 Z⟩
def zNZ:Prop:=qk (zIP Pg 15) none zZN 254 (zAK qG lK cI qH lL cH eS) [] [yOM qG lK cI qH lL cH Nx,zCX qG lK cI qH lL cH Qr,zCY qG lK cI qH lL cH Q1] Z
def zHD:Prop:=qm (zIP Pg 15) none zZN 254 (zAK qG lK cI qH lL cH eS) [] [zCX qG lK cI qH lL cH Qr,zCY qG lK cI qH lL cH Q1] Z
def zHE:Prop:=kZ (zIP Pg 15) (qj 13) [1,1,1,1,1,1,1,1,1,1,1,1,1,0,1,0] (qn 13 Q) .ret 254 (zPW qG lK cI qH lL cH t12_2) Z
def zCZ:Prop:=kZ (zIP Pg 15) (qj 13) [1,1,1,1,1,1,1,1,1,1,1,1,1,0,1,0] (qn 13 Q) (.exit 1) 254 (zPX qG lK cI qH lL cH) Z
end
variable {ao ar ay am which bZ duty by_5 kD kC nA nH nM n4 eS nQ nYB nHC nIC nBa nBb nBc nBd:Int} {af ae bM qD qE qF qK qN qV qKB qG qH qO qM qGB qHB qCB qDB qQ qZB:oAa} {ac ad aa ab bb bj BA BB lE cE lG cG lH cF lN cL lQ cO lZ cW lOB cLB l3 c3 lK cI lL cH lS cP lP cN lKB cHB lLB cIB lGB cCB lHB cDB lT cR lDC cZB:Nat} {Z ZC ZBM ZI ZCB ZV Z2 ZD ZN ZX ZIB ZY ZJB ZKB ZZ ZLB ZMB ZAB ZNB ZO ZBN ZOB:St} {Q:vPa} {A1003 q3_a qG_a:Addr} {Qn Pn Q1 P1:St->Prop} {Inv:Nat->Int->St->Prop} {Qr Pr:Bool->St->Prop} {Nx:Int->St->Prop} {cs1838 cs1843 cs1844 cs1850 cs1851 cs1857 cs1858 cs1865 cs1866 cs1873 cs1874 cs1879 cs1880:lVa}
theorem yVT:let s1:=Z.row (wkc ao af ac ad ae aa ab ar ay am) 6;∀ (h1:qo 36 [qh (wkc ao af ac ad ae aa ab ar ay am)] s1 (.bool true) s1) (nx:Q (.bool true) s1) (u1:(aa:Int)=0:=by omega),yKH Pg 15 13 [qh (wkc ao af ac ad ae aa ab ar ay am),.slice bM bb bj,.int .u8 which,.int .u8 bZ,.int .u8 duty,.int .u16 by_5] Z Q:=
 let s1:=Z.row (wkc ao af ac ad ae aa ab ar ay am) 6;fun h1 nx u1=>zVT [.g,.g,.l (qh (wkc ao af ac ad ae aa ab ar ay am)),.c (.bool true) s1,.g,.g,.g,.l (.slice ae aa ab),.g,.b true,.g,.g,.g,.c (.bool true) s1,.g] (kc (by kernel_rfl) (an5 ((zC _ _ _).rw.ldN zCU uQ (k:=0) rfl rfl (nle rfl):lz s1 25 (qg Z.y 0) (qh (wkc ao af ac ad ae aa ab ar ay am))) (zD.top (aw:=15) h1) ((zC _ _ _).rw.ld zBF (k:=2) rfl:lz s1 23 (qg Z.y 2) (.slice ae aa ab)) (xH u1) (xQY:zEK (zIP Pg 15) (.func 15) [] s1 (.bool true) s1) nx))
theorem yVS:let s1:=Z.row (wkc ao af ac ad ae aa ab ar ay am) 6;∀ (h1:qo 36 [qh (wkc ao af ac ad ae aa ab ar ay am)] s1 (.bool true) s1) (nx:Q (.bool true) s1) (u1:¬ (aa:Int)=0:=by omega) (u2:(ac:Int)=0:=by omega),yKH Pg 15 13 [qh (wkc ao af ac ad ae aa ab ar ay am),.slice bM bb bj,.int .u8 which,.int .u8 bZ,.int .u8 duty,.int .u16 by_5] Z Q:=
 let s1:=Z.row (wkc ao af ac ad ae aa ab ar ay am) 6;fun h1 nx u1 u2=>zVT [.g,.g,.l (qh (wkc ao af ac ad ae aa ab ar ay am)),.c (.bool true) s1,.g,.g,.g,.l (.slice ae aa ab),.g,.b false,.g,.g,.g,.l (.slice af ac ad),.g,.b true,.g,.c (.bool true) s1,.g] (kc (by kernel_rfl) (ai ((zC _ _ _).rw.ldN zCU uQ (k:=0) rfl rfl (nle rfl):lz s1 25 (qg Z.y 0) (qh (wkc ao af ac ad ae aa ab ar ay am))) (an6 (zD.top (aw:=15) h1) ((zC _ _ _).rw.ld zBF (k:=2) rfl:lz s1 23 (qg Z.y 2) (.slice ae aa ab)) (yD u1) ((zC _ _ _).rw.ld zBG (k:=1) rfl:lz s1 22 (qg Z.y 1) (.slice af ac ad)) (xH u2) (xQY:zEK (zIP Pg 15) (.func 15) [] s1 (.bool true) s1) nx)))
theorem yOL (h1:lz Z 3 (qg BB 3) (iV nA)) (h2:yR Pg (evL [iV 0,iV (nA-kD)]) Z (.call { callee:=.builtin .max,args:=⟨xJ 2⟩,argTypes:=⟨[3,3]⟩ })=some (iV nH)) (h3:qq (evL [pq BB 3,iV nH]) Z (.store 3 (.tmp 0) (.tmp 1))=some (undef,ZC)) (nx:Qn ZC) (u1:kC=0:=by omega) (u2:I6 (nA-kD):=by omega):vB bM bb bj duty BA BB A1003 kD kC Z Qn :=
 kO 0 () [.b true,.g,.g,.l (iV nA),.g,.n (nA-kD),.v (iV nH),.g,.e undef ZC] (fun _ f=>an5 (xH u1) h1 (w64 u2) h2 h3 f) nx
theorem yOK (h1:lz Z 3 (qg BB 4) (iV nA)) (h2:yR Pg (evL [iV 14,iV (nA+1)]) Z (.call { callee:=.builtin .min,args:=⟨xJ 2⟩,argTypes:=⟨[3,3]⟩ })=some (iV nH)) (h3:qq (evL [pq BB 4,iV nH]) Z (.store 3 (.tmp 0) (.tmp 1))=some (undef,ZC)) (nx:Qn ZC) (u1:¬ kC=0:=by omega) (u2:kC=1:=by omega) (u3:I6 (nA+1):=by omega):vB bM bb bj duty BA BB A1003 kD kC Z Qn :=
 kO 0 () [.b false,.g,.b true,.g,.g,.l (iV nA),.n (nA+1),.v (iV nH),.g,.e undef ZC] (fun _ f=>an6 (yD u1) (xH u2) h1 (w64 u3) h2 h3 f) nx
theorem yOJ (h1:lz Z 3 (qg BB 5) (iV nA)) (h2:yR Pg (evL [iV 20000,iV (nA+kD)]) Z (.call { callee:=.builtin .min,args:=⟨xJ 2⟩,argTypes:=⟨[3,3]⟩ })=some (iV nH)) (h3:qq (evL [pq BB 5,iV nH]) Z (.store 3 (.tmp 0) (.tmp 1))=some (undef,ZC)) (nx:Qn ZC) (u1:¬ kC=0:=by omega) (u2:¬ kC=1:=by omega) (u3:kC=2:=by omega) (u4:I6 (nA+kD):=by omega):vB bM bb bj duty BA BB A1003 kD kC Z Qn :=
 kO 0 () [.b false,.g,.b false,.g,.b true,.g,.g,.l (iV nA),.g,.n (nA+kD),.v (iV nH),.g,.e undef ZC] (fun _ f=>ai (yD u1) (an6 (yD u2) (xH u3) h1 (w64 u4) h2 h3 f)) nx
theorem yOI (h1:lz Z 26 A1003 (.slice qD lE cE)) (h2:qo 44 [.slice qD lE cE,iV (Int.tmod kD 16)] Z (.slice qE lG cG) ZC) (h3:qq (evL [pz A1003,.slice qE lG cG]) ZC (.store 26 (.tmp 0) (.tmp 1))=some (undef,ZBM)) (nx:Qn ZBM) (u1:¬ kC=0:=by omega) (u2:¬ kC=1:=by omega) (u3:¬ kC=2:=by omega) (u4:kC=3:=by omega):vB bM bb bj duty BA BB A1003 kD kC Z Qn :=
 kO 0 () [.b false,.g,.b false,.g,.b false,.g,.b true,.g,.g,.g,.g,.g,.l (.slice qD lE cE),.g,.g,.c (.slice qE lG cG) ZC,.g,.g,.e undef ZBM] (fun _ f=>ai (yD u1) (an6 (yD u2) (yD u3) (xH u4) h1 (zD.top (aw:=15) h2) h3 f)) nx
theorem yOH:let y0:Value:=.slice qN lQ cO;let y1:=zJ A1003 1;let y2:Value:=.slice qV lZ cW;let y3:=some (iV (nM+1));∀ (h1:lz Z 26 y1 (.slice qD lE cE)) (h2:vP Pg .rem 3 (.tmp 125) (.tmp 126) (iV kD) (iV (lE:Int))=some (iV nH)) (h3:vA Pg Z 26 (.slice qD lE cE) none (some (iV nH)) none=some (.slice qF lH cF)) (h4:qo 19 [.slice qF lH cF] Z (.slice qK lN cL) ZI) (h5:lz ZI 26 y1 y0) (h6:vP Pg .rem 3 (.tmp 134) (.tmp 135) (iV kD) (iV (lE:Int))=some (iV nM)) (h7:vA Pg ZI 26 y0 y3 none none=some y2) (h8:yC Pg 26 26 (.slice qK lN cL) y2 ZI=some (.slice qKB lOB cLB,ZCB)) (h9:qq (evL [pz y1,.slice qKB lOB cLB]) ZCB (.store 26 (.tmp 0) (.tmp 1))=some (undef,ZV)) (h10:zH ZI.y [pz y1]) (h11:zH ZI.y [.slice qN lQ cO,iV (nM+1)]) (h12:zH ZI.y [.slice qK lN cL,.slice qV lZ cW]) (h13:zH ZCB.y [pz y1,.slice qKB lOB cLB]) (h14:lz Z 26 y1 y0) (h15:(zLq ZI 26 y1 y0)) (h16:((zH Z.y [.slice qN lQ cO,iV (nM+1)]/\zM RD y2=true)/\vA Pg Z 26 y0 y3 none none=some y2)) (h17:((zH ZI.y [.slice qN lQ cO,iV (nM+1)]/\zM RD y2=true)/\vA Pg ZI 26 y0 y3 none none=some y2)) (b_qD:∀ a,qD=some a->a.block<Z.y) (b_qF:∀ a,qF=some a->a.block<Z.y) (nx:Qn ZV) (u1:¬ kC=0:=by omega) (u2:¬ kC=1:=by omega) (u3:¬ kC=2:=by omega) (u4:¬ kC=3:=by omega) (u5:kC=4:=by omega) (u6:0<(lE:Int):=by omega) (u7:I6 (nM+1):=by omega) (gj:A1003.block<Z.y:=by omega),vB bM bb bj duty BA BB A1003 kD kC Z Qn :=
 let y0:Value:=.slice qN lQ cO;let y1:=zJ A1003 1;let y2:Value:=.slice qV lZ cW;fun h1 h2 h3 h4 h5 h6 h7 h8 h9 h10 h11 h12 h13 h14 h15 h16 h17 b_qD b_qF nx u1 u2 u3 u4 u5 u6 u7 gj=>kO 0 () [.b false,.g,.b false,.g,.b false,.g,.b false,.g,.b true,.g,.g,.g,.g,.l (.slice qD lE cE),.g,.g,.g,.b true,.g,.g,.g,.g,.l (.slice qD lE cE),.g,.g,.v (iV nH),.v (.slice qF lH cF),.c (.slice qK lN cL) ZI,.g,.g,.g,.l y0,.g,.g,.v (iV nM),.n (nM+1),.v y2,.e (.slice qKB lOB cLB) ZCB,.g,.g,.e undef ZV] (fun _ f=>an4 (yD u1) (yD u2) (yD u3) (yD u4) (an6 (xH u5) h1 (zR u6) h1 h2 h3 (an6 (zD.top (aw:=15) h4) h5 h6 (w64 u7) h7 h8 (an6 h9 ((zE (zO gj) zI):zH Z.y [pz y1]) ((zE (yQ b_qD) (zE (yK rfl) zI)):zH Z.y [.slice qD lE cE,iV nH]) ((zE (yQ b_qF) zI):zH Z.y [.slice qF lH cF]) h10 h11 (an6 h12 h13 (⟨⟨gj,rfl⟩,h14⟩:(zLq Z 26 y1 y0)) h15 h16 h17 f))))) nx
theorem yOG (h1:lz Z 26 (zJ A1003 1) (.slice qD lE cE)) (nx:Qn Z) (u1:¬ kC=0:=by omega) (u2:¬ kC=1:=by omega) (u3:¬ kC=2:=by omega) (u4:¬ kC=3:=by omega) (u5:kC=4:=by omega) (u6:¬ 0<(lE:Int):=by omega):vB bM bb bj duty BA BB A1003 kD kC Z Qn :=
 kO 0 () [.b false,.g,.b false,.g,.b false,.g,.b false,.g,.b true,.g,.g,.g,.g,.l (.slice qD lE cE),.g,.g,.g,.b false] (fun _ f=>ai (yD u1) (an6 (yD u2) (yD u3) (yD u4) (xH u5) h1 (zS u6) f)) nx
theorem yOF (h1:lz Z 3 (zJ A1003 3) (iV nA)) (h2:yR Pg (evL [iV (-10080),iV (nA-kD)]) Z (.call { callee:=.builtin .max,args:=⟨xJ 2⟩,argTypes:=⟨[3,3]⟩ })=some (iV nH)) (h3:qq (evL [pz (zJ A1003 3),iV nH]) Z (.store 3 (.tmp 0) (.tmp 1))=some (undef,ZC)) (nx:Qn ZC) (u1:¬ kC=0:=by omega) (u2:¬ kC=1:=by omega) (u3:¬ kC=2:=by omega) (u4:¬ kC=3:=by omega) (u5:¬ kC=4:=by omega) (u6:kC=5:=by omega) (u7:I6 (nA-kD):=by omega):vB bM bb bj duty BA BB A1003 kD kC Z Qn :=
 kO 0 () [.b false,.g,.b false,.g,.b false,.g,.b false,.g,.b false,.g,.b true,.g,.g,.g,.g,.g,.l (iV nA),.g,.n (nA-kD),.v (iV nH),.g,.g,.e undef ZC] (fun _ f=>an4 (yD u1) (yD u2) (yD u3) (yD u4) (an6 (yD u5) (xH u6) h1 (w64 u7) h2 h3 f)) nx
theorem yOE (h1:lz Z 3 (zJ A1003 4) (iV nA)) (h2:yR Pg (evL [iV 0,iV (nA-1)]) Z (.call { callee:=.builtin .max,args:=⟨xJ 2⟩,argTypes:=⟨[3,3]⟩ })=some (iV nH)) (h3:qq (evL [pz (zJ A1003 4),iV nH]) Z (.store 3 (.tmp 0) (.tmp 1))=some (undef,ZC)) (nx:Qn ZC) (u1:¬ kC=0:=by omega) (u2:¬ kC=1:=by omega) (u3:¬ kC=2:=by omega) (u4:¬ kC=3:=by omega) (u5:¬ kC=4:=by omega) (u6:¬ kC=5:=by omega) (u7:kC=6:=by omega) (u8:I6 (nA-1):=by omega):vB bM bb bj duty BA BB A1003 kD kC Z Qn :=
 kO 0 () [.b false,.g,.b false,.g,.b false,.g,.b false,.g,.b false,.g,.b false,.g,.b true,.g,.g,.g,.g,.g,.l (iV nA),.n (nA-1),.v (iV nH),.g,.g,.e undef ZC] (fun _ f=>an5 (yD u1) (yD u2) (yD u3) (yD u4) (yD u5) (an6 (yD u6) (xH u7) h1 (w64 u8) h2 h3 f)) nx
theorem yOD (h1:lz Z 3 (zJ A1003 5) (iV nA)) (h2:yR Pg (evL [iV 0,iV (nA-kD)]) Z (.call { callee:=.builtin .max,args:=⟨xJ 2⟩,argTypes:=⟨[3,3]⟩ })=some (iV nH)) (h3:qq (evL [pz (zJ A1003 5),iV nH]) Z (.store 3 (.tmp 0) (.tmp 1))=some (undef,ZC)) (nx:Qn ZC) (u1:¬ kC=0:=by omega) (u2:¬ kC=1:=by omega) (u3:¬ kC=2:=by omega) (u4:¬ kC=3:=by omega) (u5:¬ kC=4:=by omega) (u6:¬ kC=5:=by omega) (u7:¬ kC=6:=by omega) (u8:I6 (nA-kD):=by omega):vB bM bb bj duty BA BB A1003 kD kC Z Qn :=
 kO 0 () [.b false,.g,.b false,.g,.b false,.g,.b false,.g,.b false,.g,.b false,.g,.b false,.g,.g,.g,.g,.g,.l (iV nA),.g,.n (nA-kD),.v (iV nH),.g,.g,.e undef ZC] (fun _ f=>an5 (yD u1) (yD u2) (yD u3) (yD u4) (yD u5) (an6 (yD u6) (yD u7) h1 (w64 u8) h2 h3 f)) nx
theorem yVR:let s1:=Z.row (wkc ao af ac ad ae aa ab ar ay am) 6;let s2:=s1.row (wkc 0 none 0 0 none 0 0 0 0 0) 6;let s4:=zJ q3_a (Int.toNat n4*6);let s6:=Z.y+1;let s3:=s2.own s6 (wkc ao af ac ad ae aa ab ar ay am) 6;let Y1:=Z2.own s6 (wkc ao af ac ad (some q3_a) l3 c3 ar ay am) 6;∀ (h1:qo 36 [qh (wkc ao af ac ad ae aa ab ar ay am)] s1 (.bool true) s1) (h2:yC Pg 23 23 (.slice (some ⟨(Z.y+2),0,none⟩) 0 0) (.slice ae aa ab) (s3.row [] 6)=some (.slice (some q3_a) l3 c3,Z2)) (h3:qq (evL [pq s6 2,.slice (some q3_a) l3 c3]) Z2 (.store 23 (.tmp 0) (.tmp 1))=some (undef,Y1)) (h4:lz Y1 23 (qg s6 2) (.slice (some q3_a) l3 c3)) (h5:vP Pg .rem 3 (.tmp 55) (.tmp 58) (iV bZ) (iV (l3:Int))=some (iV n4)) (hL:vB bM bb bj duty Z.y s6 s4 (Int.tmod by_5 1500) (Int.tmod which 8) Y1 Pn) (kn:∀ Z',Pn Z'->zAY bM bb bj duty Z.y s6 s4 (Int.tmod by_5 1500) (Int.tmod which 8) Z' Q) (u1:¬ (aa:Int)=0:=by omega) (u2:¬ (ac:Int)=0:=by omega) (u3:I6 bZ:=by omega) (u4:Ix n4 l3:=by omega) (u5:I6 by_5:=by omega),yKH Pg 15 13 [qh (wkc ao af ac ad ae aa ab ar ay am),.slice bM bb bj,.int .u8 which,.int .u8 bZ,.int .u8 duty,.int .u16 by_5] Z Q:=
 let s1:=Z.row (wkc ao af ac ad ae aa ab ar ay am) 6;let s2:=s1.row (wkc 0 none 0 0 none 0 0 0 0 0) 6;let s4:=zJ q3_a (Int.toNat n4*6);let s6:=Z.y+1;let s3:=s2.own s6 (wkc ao af ac ad ae aa ab ar ay am) 6;let s5:=zZM bM bb bj duty Z.y s6 s4 (Int.tmod by_5 1500) (Int.tmod which 8);fun h1 h2 h3 h4 h5 hL kn u1 u2 u3 u4 u5=>zVT [.g,.g,.l (qh (wkc ao af ac ad ae aa ab ar ay am)),.c (.bool true) s1,.g,.g,.g,.l (.slice ae aa ab),.g,.b false,.g,.g,.g,.l (.slice af ac ad),.g,.b false,.g,.l (qh (wkc ao af ac ad ae aa ab ar ay am)),.g,.e undef s3,.g,.g,.l (.slice ae aa ab),.e (.slice (some q3_a) l3 c3) Z2,.g,.e undef (Z2.own s6 (wkc ao af ac ad (some q3_a) l3 c3 ar ay am) 6),.g,.l (.slice (some q3_a) l3 c3),.g,.n bZ,.g,.l (.slice (some q3_a) l3 c3),.g,.v (iV n4),.i,.g,.g,.n by_5,.g,.g,.g,.g,.cut 254 s5 [zPZ bM bb bj duty Z.y s6 s4 (Int.tmod by_5 1500) (Int.tmod which 8) Pn]] (kc (by kernel_rfl) (an5 ((zC _ _ _).rw.ldN zCU uQ (k:=0) rfl rfl (nle rfl):lz s1 25 (qg Z.y 0) (qh (wkc ao af ac ad ae aa ab ar ay am))) (zD.top (aw:=15) h1) ((zC _ _ _).rw.ld zBF (k:=2) rfl:lz s1 23 (qg Z.y 2) (.slice ae aa ab)) (yD u1) ((zC _ _ _).rw.ld zBG (k:=1) rfl:lz s1 22 (qg Z.y 1) (.slice af ac ad)) (an6 (yD u2) ((zC _ _ _).rw.ldN zCU uQ (k:=0) rfl rfl (nle rfl):lz s1 25 (qg Z.y 0) (qh (wkc ao af ac ad ae aa ab ar ay am))) ((zC _ _ _).store (vs:=(wkc ao af ac ad ae aa ab ar ay am)) rfl uQ rfl (nle rfl) rfl:qq (evL [pq s6 0,qh (wkc ao af ac ad ae aa ab ar ay am)]) s2 (.store 25 (.tmp 0) (.tmp 1))=some (undef,s3)) (((zC _ _ _).row.own (nne Z.y 0 1 rfl)).row.rw.ld zBF (k:=2) rfl:lz (s3.row [] 6) 23 (qg Z.y 2) (.slice ae aa ab)) h2 h3 (an6 h4 (w64 u3) h4 h5 u4 (w64 u5) (ai (ai tt (ai (arf s5) hL)) (ai (fun (t:Unit) (g':Nat->Value) (Z':St) (q:Pn Z')=>kn Z' q g') trivial))))))
theorem yVQ:let s1:=Z.row (wkc ao af ac ad ae aa ab ar ay am) 6;∀ (h1:qo 36 [qh (wkc ao af ac ad ae aa ab ar ay am)] s1 (.bool false) s1) (nx:Q (.bool true) s1),yKH Pg 15 13 [qh (wkc ao af ac ad ae aa ab ar ay am),.slice bM bb bj,.int .u8 which,.int .u8 bZ,.int .u8 duty,.int .u16 by_5] Z Q:=
 let s1:=Z.row (wkc ao af ac ad ae aa ab ar ay am) 6;fun h1 nx=>zVT [.g,.g,.l (qh (wkc ao af ac ad ae aa ab ar ay am)),.c (.bool false) s1,.g,.g,.g,.g,.g,.c (.bool true) s1,.g] (kc (by kernel_rfl) (an3 ((zC _ _ _).rw.ldN zCU uQ (k:=0) rfl rfl (nle rfl):lz s1 25 (qg Z.y 0) (qh (wkc ao af ac ad ae aa ab ar ay am))) (zD.top (aw:=15) h1) (xQY:zEK (zIP Pg 15) (.func 15) [] s1 (.bool true) s1) nx))
theorem yCN (hb:∀ k eS Z,Inv k eS Z->zNZ qG lK cI qH lL cH eS Z (NX1 Inv k) Qr Q1):∀ k eS Z,Inv k eS Z->zHD qG lK cI qH lL cH eS Z Qr Q1 :=
 xL (ai zBE (ai (xZ 1) trivial)) hb
theorem yOC (h1:lz Z 3 (zJ qG_a (Int.toNat eS*1)) (iV nQ)) (h2:qo 43 [.slice qH lL cH,iV nQ] Z (.bool true) Z) (nx:Nx (eS+1) Z) (u1:eS<(lK:Int):=by omega) (u2:Ix eS lK:=by omega) (u3:I6 (eS+1):=by omega):zNZ (some qG_a) lK cI qH lL cH eS Z Nx Qr Q1 :=
 kO 0 (eS+1) [.g,.g,.g,.b true,.g,.g,.g,.i,.l (iV nQ),.c (.bool true) Z,.g,.g,.n (eS+1),.g] (fun _ f=>an5 (zR u1) u2 h1 (zD.top (aw:=15) h2) (w64 u3) f) nx
theorem yOB (nx:Q1 Z) (u1:¬ eS<(lK:Int):=by omega):zNZ qG lK cI qH lL cH eS Z Nx Qr Q1 :=
 kO 2 () [.g,.g,.g,.b false] (fun _ f=>ai (zS u1) f) nx
@[reducible] def Hb0 (Z ZD ZN ZX ZIB ZY ZJB ZKB ZZ ZLB ZMB ZAB ZNB ZO:St) (BA bb bj lS cP lP cN lKB cHB BB lLB cIB lGB cCB lK cI lHB cDB lL cH lT cR:Nat) (cs1838 cs1843 cs1844 cs1850 cs1851 cs1857 cs1858 cs1865 cs1866 cs1873 cs1874:lVa) (bM qO qM qGB qHB qCB qG qDB qH qQ:oAa) (duty nYB nHC nIC nBa nBb nBc nBd:Int):Prop:=qp Z 25 ⟨BA,0,none⟩=some (.agg ⟨cs1838⟩)/\(qo 39 [.agg ⟨cs1838⟩,.slice bM bb bj] Z (.slice qO lS cP) ZD)/\qp ZD 22 ⟨BA,1,none⟩=some (.slice qM lP cN)/\vP Pg .rem 3 (.tmp 169) (.tmp 172) (iV duty) (iV ((lP:Nat):Int))=some (iV nYB)/\(zH Z.y [.agg ⟨cs1838⟩,.slice bM bb bj])/\zH ZD.y [.pointer (some ⟨BA,1,none⟩)]/\zH ZD.y [.slice qM lP cN]/\(((zH Z.y [.int .u8 duty]/\zM RD (iV duty)=true)/\yR Pg (evL [.int .u8 duty]) Z (.convert 5 3 (.tmp 0))=some (iV duty)))/\(((zH ZD.y [.int .u8 duty]/\zM RD (iV duty)=true)/\yR Pg (evL [.int .u8 duty]) ZD (.convert 5 3 (.tmp 0))=some (iV duty)))/\qp Z 22 ⟨BA,1,none⟩=some (.slice qM lP cN)/\((zLq ZD 22 ⟨BA,1,none⟩ (.slice qM lP cN)))/\(((zH Z.y [.slice qM lP cN]/\zM RD (iV ((lP:Nat):Int))=true)/\Callee.builtin .len=Callee.builtin .len/\yR Pg (evL [.slice qM lP cN]) Z (.call { callee:=.builtin .len,args:=⟨xJ 1⟩,argTypes:=⟨[22]⟩ })=some (iV ((lP:Nat):Int))))/\(((zH ZD.y [.slice qM lP cN]/\zM RD (iV ((lP:Nat):Int))=true)/\Callee.builtin .len=Callee.builtin .len/\yR Pg (evL [.slice qM lP cN]) ZD (.call { callee:=.builtin .len,args:=⟨xJ 1⟩,argTypes:=⟨[22]⟩ })=some (iV ((lP:Nat):Int))))/\qp ZD 25 ⟨BA,0,none⟩=some (.agg ⟨cs1843⟩)/\qo 17 [.agg ⟨cs1843⟩] ZD (.agg ⟨cs1844⟩) ZN/\qo 37 [.agg ⟨cs1844⟩] ZN (.tuple ⟨[.slice qGB lKB cHB,iV nHC,iV nIC]⟩) ZX/\qp ZX 25 ⟨BB,0,none⟩=some (.agg ⟨cs1850⟩)/\qo 17 [.agg ⟨cs1850⟩] ZX (.agg ⟨cs1851⟩) ZIB/\qo 37 [.agg ⟨cs1851⟩] ZIB (.tuple ⟨[.slice qHB lLB cIB,iV nBa,iV nBb]⟩) ZY/\qp ZY 25 ⟨BA,0,none⟩=some (.agg ⟨cs1857⟩)/\qo 17 [.agg ⟨cs1857⟩] ZY (.agg ⟨cs1858⟩) ZJB/\qo 19 [.slice qO lS cP] ZJB (.slice qCB lGB cCB) ZKB/\(qo 32 [.agg ⟨cs1858⟩,.slice qCB lGB cCB,iV nYB] ZKB (.tuple ⟨[.slice qG lK cI,iV nBc]⟩) ZZ)/\qp ZZ 25 ⟨BB,0,none⟩=some (.agg ⟨cs1865⟩)/\qo 17 [.agg ⟨cs1865⟩] ZZ (.agg ⟨cs1866⟩) ZLB/\qo 19 [.slice qO lS cP] ZLB (.slice qDB lHB cDB) ZMB/\(qo 32 [.agg ⟨cs1866⟩,.slice qDB lHB cDB,iV nYB] ZMB (.tuple ⟨[.slice qH lL cH,iV nBd]⟩) ZAB)/\qp ZAB 25 ⟨BA,0,none⟩=some (.agg ⟨cs1873⟩)/\qo 17 [.agg ⟨cs1873⟩] ZAB (.agg ⟨cs1874⟩) ZNB/\qo 19 [.slice qO lS cP] ZNB (.slice qQ lT cR) ZO
theorem yCM (H:Hb0 Z ZD ZN ZX ZIB ZY ZJB ZKB ZZ ZLB ZMB ZAB ZNB ZO BA bb bj lS cP lP cN lKB cHB BB lLB cIB lGB cCB lK cI lHB cDB lL cH lT cR cs1838 cs1843 cs1844 cs1850 cs1851 cs1857 cs1858 cs1865 cs1866 cs1873 cs1874 bM qO qM qGB qHB qCB qG qDB qH qQ duty nYB nHC nIC nBa nBb nBc nBd) (h31:qo 35 [qh cs1874,.slice qQ lT cR,iV 0] ZO (.bool true) ZO) (h32:lz ZO 25 (qg BB 0) (qh cs1879)) (h33:qo 17 [qh cs1879] ZO (qh cs1880) ZBN) (h34:qo 19 [.slice qO lS cP] ZBN (.slice qZB lDC cZB) ZOB) (h35:qo 35 [qh cs1880,.slice qZB lDC cZB,iV 0] ZOB (.bool true) ZOB) (hL:zHD qG lK cI qH lL cH 0 ZOB Pr P1) (kr:∀ t12_2' Z',Pr t12_2' Z'->zHE qG lK cI qH lL cH t12_2' Z' Q) (k1:∀ Z',P1 Z'->zCZ qG lK cI qH lL cH Z' Q) (u1:I6 duty:=by omega) (u2:nIC=0:=by omega) (u3:nBb=0:=by omega) (u4:nBc=0:=by omega) (u5:nBd=0:=by omega) (u6:¬ nBa<nHC:=by omega) (b_BA:BA<Z.y:=by omega):zAY bM bb bj duty BA BB A1003 kD kC Z Q :=
 match H with|⟨h1,h2,h3,h4,h5,h6,h7,h8,h9,h10,h11,h12,h13,h14,h15,h16,h17,h18,h19,h20,h21,h22,h23,h24,h25,h26,h27,h28,h29,h30⟩=>sK [.l (qh cs1838),.g,.c (.slice qO lS cP) ZD,.g,.n duty,.g,.l (.slice qM lP cN),.g,.v (iV nYB),.g,.g,.l (qh cs1843),.c (qh cs1844) ZN,.c (.tuple ⟨[.slice qGB lKB cHB,iV nHC,iV nIC]⟩) ZX,.g,.g,.g,.g,.g,.g,.g,.l (qh cs1850),.c (qh cs1851) ZIB,.c (.tuple ⟨[.slice qHB lLB cIB,iV nBa,iV nBb]⟩) ZY,.g,.g,.g,.g,.g,.g,.g,.l (qh cs1857),.c (qh cs1858) ZJB,.g,.c (.slice qCB lGB cCB) ZKB,.g,.c (.tuple ⟨[.slice qG lK cI,iV nBc]⟩) ZZ,.g,.g,.g,.g,.g,.l (qh cs1865),.c (qh cs1866) ZLB,.g,.c (.slice qDB lHB cDB) ZMB,.g,.c (.tuple ⟨[.slice qH lL cH,iV nBd]⟩) ZAB,.g,.g,.g,.g,.g,.g,.b false,.g,.g,.b false,.g,.g,.g,.b false,.g,.g,.g,.b false,.g,.g,.g,.g,.b false,.g,.g,.l (qh cs1873),.c (qh cs1874) ZNB,.g,.c (.slice qQ lT cR) ZO,.c (.bool true) ZO,.g,.l (qh cs1879),.c (qh cs1880) ZBN,.g,.c (.slice qZB lDC cZB) ZOB,.c (.bool true) ZOB,.g,.g,.g,.g,.lf 254 (zAK qG lK cI qH lL cH 0) [zCX qG lK cI qH lL cH Pr,zCY qG lK cI qH lL cH P1]] (an6 h1 (zD.top (aw:=15) h2) (w64 u1) h3 h4 ((zE (zO b_BA) zI):zH Z.y [pq BA 0]) (an6 h5 h6 h7 h8 h9 (⟨⟨b_BA,rfl⟩,h10⟩:(zLq Z 22 (qg BA 1) (.slice qM lP cN))) (an6 h11 h12 h13 h14 (zD.top (aw:=15) h15) (zD.top (aw:=15) h16) (an6 h17 (zD.top (aw:=15) h18) (zD.top (aw:=15) h19) h20 (zD.top (aw:=15) h21) (zD.top (aw:=15) h22) (an6 (zD.top (aw:=15) h23) h24 (zD.top (aw:=15) h25) (zD.top (aw:=15) h26) (zD.top (aw:=15) h27) (vG u2) (an6 (vG u3) (vG u4) (vG u5) (zS u6) h28 (zD.top (aw:=15) h29) (an6 (zD.top (aw:=15) h30) (zD.top (aw:=15) h31) h32 (zD.top (aw:=15) h33) (zD.top (aw:=15) h34) (zD.top (aw:=15) h35) (ai (ai tt (ai (arf (zAK qG lK cI qH lL cH 0)) hL)) (ai (fun (t:Bool) (g':Nat->Value) (Z':St) (q:Pr t Z')=>kr t Z' q g') (ai (fun (t:Unit) (g':Nat->Value) (Z':St) (q:P1 Z')=>k1 Z' q g') trivial))))))))))
theorem yCL (H:Hb0 Z ZD ZN ZX ZIB ZY ZJB ZKB ZZ ZLB ZMB ZAB ZNB ZO BA bb bj lS cP lP cN lKB cHB BB lLB cIB lGB cCB lK cI lHB cDB lL cH lT cR cs1838 cs1843 cs1844 cs1850 cs1851 cs1857 cs1858 cs1865 cs1866 cs1873 cs1874 bM qO qM qGB qHB qCB qG qDB qH qQ duty nYB nHC nIC nBa nBb nBc nBd) (h31:qo 35 [qh cs1874,.slice qQ lT cR,iV 0] ZO (.bool false) ZO) (hL:zHD qG lK cI qH lL cH 0 ZO Pr P1) (kr:∀ t12_2' Z',Pr t12_2' Z'->zHE qG lK cI qH lL cH t12_2' Z' Q) (k1:∀ Z',P1 Z'->zCZ qG lK cI qH lL cH Z' Q) (u1:I6 duty:=by omega) (u2:nIC=0:=by omega) (u3:nBb=0:=by omega) (u4:nBc=0:=by omega) (u5:nBd=0:=by omega) (u6:¬ nBa<nHC:=by omega) (b_BA:BA<Z.y:=by omega):zAY bM bb bj duty BA BB A1003 kD kC Z Q :=
 match H with|⟨h1,h2,h3,h4,h5,h6,h7,h8,h9,h10,h11,h12,h13,h14,h15,h16,h17,h18,h19,h20,h21,h22,h23,h24,h25,h26,h27,h28,h29,h30⟩=>sK [.l (qh cs1838),.g,.c (.slice qO lS cP) ZD,.g,.n duty,.g,.l (.slice qM lP cN),.g,.v (iV nYB),.g,.g,.l (qh cs1843),.c (qh cs1844) ZN,.c (.tuple ⟨[.slice qGB lKB cHB,iV nHC,iV nIC]⟩) ZX,.g,.g,.g,.g,.g,.g,.g,.l (qh cs1850),.c (qh cs1851) ZIB,.c (.tuple ⟨[.slice qHB lLB cIB,iV nBa,iV nBb]⟩) ZY,.g,.g,.g,.g,.g,.g,.g,.l (qh cs1857),.c (qh cs1858) ZJB,.g,.c (.slice qCB lGB cCB) ZKB,.g,.c (.tuple ⟨[.slice qG lK cI,iV nBc]⟩) ZZ,.g,.g,.g,.g,.g,.l (qh cs1865),.c (qh cs1866) ZLB,.g,.c (.slice qDB lHB cDB) ZMB,.g,.c (.tuple ⟨[.slice qH lL cH,iV nBd]⟩) ZAB,.g,.g,.g,.g,.g,.g,.b false,.g,.g,.b false,.g,.g,.g,.b false,.g,.g,.g,.b false,.g,.g,.g,.g,.b false,.g,.g,.l (qh cs1873),.c (qh cs1874) ZNB,.g,.c (.slice qQ lT cR) ZO,.c (.bool false) ZO,.g,.g,.g,.g,.lf 254 (zAK qG lK cI qH lL cH 0) [zCX qG lK cI qH lL cH Pr,zCY qG lK cI qH lL cH P1]] (an2 h1 (zD.top (aw:=15) h2) (an6 (w64 u1) h3 h4 ((zE (zO b_BA) zI):zH Z.y [pq BA 0]) h5 h6 (an6 h7 h8 h9 (⟨⟨b_BA,rfl⟩,h10⟩:(zLq Z 22 (qg BA 1) (.slice qM lP cN))) h11 h12 (an6 h13 h14 (zD.top (aw:=15) h15) (zD.top (aw:=15) h16) h17 (zD.top (aw:=15) h18) (an6 (zD.top (aw:=15) h19) h20 (zD.top (aw:=15) h21) (zD.top (aw:=15) h22) (zD.top (aw:=15) h23) h24 (an6 (zD.top (aw:=15) h25) (zD.top (aw:=15) h26) (zD.top (aw:=15) h27) (vG u2) (vG u3) (vG u4) (an6 (vG u5) (zS u6) h28 (zD.top (aw:=15) h29) (zD.top (aw:=15) h30) (zD.top (aw:=15) h31) (ai (ai tt (ai (arf (zAK qG lK cI qH lL cH 0)) hL)) (ai (fun (t:Bool) (g':Nat->Value) (Z':St) (q:Pr t Z')=>kr t Z' q g') (ai (fun (t:Unit) (g':Nat->Value) (Z':St) (q:P1 Z')=>k1 Z' q g') trivial))))))))))
theorem yCK (nx:Q (.bool true) Z):zCZ qG lK cI qH lL cH Z Q :=
 sK [.c (.bool true) Z,.g] (ai (xQY:zEK (zIP Pg 15) (.func 15) [] Z (.bool true) Z) nx)
end
section
variable {Z:St}
theorem zBJ {n:Nat} {cs:List Value} (h:WT Pg Z (n+1) 3 cs):∃ i,cs=[zY i]:=by
 unfold WT at h;simp only [Tryz.underlying3] at h;obtain ⟨i,h,_⟩:=h;exact ⟨i,h⟩
theorem zOR {n:Nat} {t e:TypeId} {cs:List Value} {k:Nat} (hu:Pg.underlying t=some (.slice e)) (hk:Pg.cellsOf e=k) (h:WT Pg Z (n+1) t cs) :
  ∃ p len cap rs,cs=[.slice p len cap]/\len<=maxLen/\SlP Z k p len rs/\rs.length=len*k/\∀ i,i<len->WT Pg Z n e ((rs.drop (i*k)).take k):=by
 unfold WT at h;simp only [hu,hk] at h;rcases h with rfl | ⟨b,len,cap,rs,rfl,h1,h2,h3,h4,h5,h6⟩
 ·exact ⟨none,0,0,[],rfl,by decide,SlP.nil _ _,by simp,fun i hi=>by omega⟩
 ·refine ⟨_,len,cap,rs,rfl,h1,⟨h3, ?_,h5⟩,h3,h6⟩
  simp only [yO,h4,yB,wW,Nat.zero_add,List.drop_zero,List.take_length];show (bif Nat.ble rs.length rs.length then some rs else none)=some rs;rw [show Nat.ble rs.length rs.length=true from by simp];rfl
theorem zYK {α:Type} {k:Nat} {Q:List Value->Prop} {f:α->List Value} (hq:∀ cs,Q cs->∃ x,cs=f x):∀ (len:Nat) (rs:List Value),rs.length=len*k->(∀ i,i<len->Q ((rs.drop (i*k)).take k))->∃ xs:List α,xs.length=len/\rs=xs.flatMap f
 | 0,rs,hl,_=>⟨[],rfl,by simpa using hl⟩
 | len+1,rs,hl,h=>by
  obtain ⟨x,hx⟩:=hq _ (h 0 (by omega));obtain ⟨xs,h1,h2⟩:=zYK (k:=k) hq len (rs.drop k) (by simp [hl,Nat.add_mul]) (fun i hi=>by
   have:=h (i+1) (by omega);rwa [Nat.add_mul,Nat.one_mul,Nat.add_comm (i*k),<- List.drop_drop] at this)
  refine ⟨x::xs,by simp [h1], ?_⟩
  simp only [List.flatMap_cons,<- h2,<- hx];simp
theorem yFX {α:Type} (f:α->List Value) (xs:List α):xF (xs.map fun x=>.agg ⟨f x⟩)=xs.flatMap f:=by
 induction xs with
 | nil=>rfl
 | cons x xs ih=>rw [List.map_cons,List.flatMap_cons,<- ih];simp [xF,Value.cells]
theorem xNX (xs:List Int):xF (xs.map zY)=xs.flatMap fun x=>[zY x]:=by
 induction xs with
 | nil=>rfl
 | cons x xs ih=>rw [List.map_cons,List.flatMap_cons,<- ih];rfl
theorem yZG {n:Nat} {cs:List Value} (h:WT Pg Z (n+1) 5 cs):∃ i:Int,cs=[.int .u8 i]/\0<=i/\i<=255:=by
 unfold WT at h;simp only [Tryz.underlying5] at h;obtain ⟨i,h,hk⟩:=h;refine ⟨i,h, ?_⟩
 rw [show IntKind.u8.min=0 by decide,show IntKind.u8.max=255 by decide] at hk;exact hk
theorem xWE {n:Nat} {cs:List Value} (h:WT Pg Z (n+1) 73 cs):∃ i:Int,cs=[.int .u16 i]/\0<=i/\i<=65535:=by
 unfold WT at h;simp only [Tryz.underlying73] at h;obtain ⟨i,h,hk⟩:=h;refine ⟨i,h, ?_⟩
 rw [show IntKind.u16.min=0 by decide,show IntKind.u16.max=65535 by decide] at hk;exact hk
theorem yRT {n:Nat} {t e:TypeId} {p:Option Addr} {l c k:Nat} (hu:Pg.underlying t=some (.slice e)) (hk:Pg.cellsOf e=k) (h:WT Pg Z (n+1) t [.slice p l c]):zIA Z k p l c:=by
 unfold WT at h;simp only [hu,hk] at h;rcases h with h | ⟨b,len,cap,rs,h1,h2,h3,h4,h5,h6,h7⟩
 ·obtain ⟨rfl,rfl,rfl⟩:p=none/\l=0/\c=0:=by simpa using h
  exact .inl ⟨rfl,rfl,rfl⟩
 ·obtain ⟨rfl,rfl,rfl⟩:p=some ⟨b,0,none⟩/\l=len/\c=cap:=by simpa using h1
  exact .inr ⟨b,rs,1,true,rfl,by rw [<- zFY h3.2];exact h3.1,h3.2,h5,h4,h6⟩
theorem yHC {n:Nat} {cs:List Value} (h:WT Pg Z (n+2) 26 cs):∃ p l c xs,cs=[.slice p l c]/\yG Z p l xs/\zIA Z 1 p l c:=by
 obtain ⟨p,l,c,rs,e1,_,s1,l1,w1⟩:=zOR Tryz.underlying26 (k:=1) (by kernel_rfl) h;subst e1;have ha:=yRT Tryz.underlying26 (k:=1) (by kernel_rfl) h;obtain ⟨xs,n1,rfl⟩:=zYK (f:=fun x:Int=>[zY x]) (fun cs h=>zBJ h) l rs l1 w1;refine ⟨p,l,c,xs,rfl,⟨by rw [xNX];exact s1,by simpa using n1,fun v hv=>?_⟩,ha⟩
 obtain ⟨x,_,rfl⟩:=List.mem_map.1 hv;exact vV x
theorem xIC {n:Nat} {cs:List Value} (h:WT Pg Z (n+2) 63 cs):∃ p l c,∃ xs:List Int,cs=[.slice p l c]/\SlV Pg Z 5 1 p l (xs.map fun x=>.int .u8 x)/\∀ x∈xs,0<=x/\x<=255:=by
 obtain ⟨p,l,c,rs,e1,_,s1,l1,w1⟩:=zOR Tryz.underlying63 (k:=1) (by kernel_rfl) h;obtain ⟨xs,n1,rfl⟩:=zYK (f:=fun x:{x:Int // 0<=x/\x<=255}=>[Value.int .u8 x.1]) (fun cs h=>by
  obtain ⟨i,e,h⟩:=yZG h;exact ⟨⟨i,h⟩,e⟩) l rs l1 w1
 have hf:xF ((xs.map (·.1)).map fun x=>Value.int .u8 x)=xs.flatMap fun x=>[Value.int .u8 x.1]:=by
  clear n1 s1 l1 w1;induction xs with
  | nil=>rfl
  | cons x xs ih=>rw [List.map_cons,List.map_cons,List.flatMap_cons,<- ih];rfl
 refine ⟨p,l,c,xs.map (·.1),e1,⟨by rw [hf];exact s1,by simpa using n1,fun v hv=>?_⟩,fun x hx=>?_⟩
 ·obtain ⟨x,_,rfl⟩:=List.mem_map.1 hv;exact .inl ⟨xVD,rfl,rfl⟩
 ·obtain ⟨x,_,rfl⟩:=List.mem_map.1 hx;exact x.2
theorem xWF {n:Nat} {cs:List Value} (h:WT Pg Z (n+3) 92 cs):∃ x:Dty,cs=zF x.day x.on x.lo x.hi x.route:=by
 unfold WT at h;simp only [Tryz.underlying92] at h;obtain ⟨hl,h⟩:=h;have hl:cs.length=5:=hl.trans (by kernel_rfl);obtain ⟨c1,c2,c3,c4,c5,rfl⟩:∃ c1 c2 c3 c4 c5,cs=[c1,c2,c3,c4,c5]:=by
  match cs,hl with
  | [c1,c2,c3,c4,c5],_=>exact ⟨_,_,_,_,_,rfl⟩
 have k3:Pg.cellsOf 3=1:=by kernel_rfl
 have k90:Pg.cellsOf 90=2:=by kernel_rfl
 simp only [List.mem_cons,List.not_mem_nil,or_false,forall_eq_or_imp,forall_eq,k3,k90] at h;obtain ⟨⟨_,h1⟩,⟨_,h2⟩,⟨_,h3⟩,⟨_,h5⟩⟩:=h;obtain ⟨x1,h1⟩:=zBJ h1;obtain ⟨x2,h2⟩:=zBJ h2;obtain ⟨x5,h5⟩:=zBJ h5;unfold WT at h3;simp only [Tryz.underlying90] at h3;obtain ⟨_,h3⟩:=h3;simp only [List.mem_cons,List.not_mem_nil,or_false,forall_eq_or_imp,forall_eq,k3] at h3;obtain ⟨⟨_,h3⟩,⟨_,h4⟩⟩:=h3;obtain ⟨x3,h3⟩:=zBJ h3;obtain ⟨x4,h4⟩:=zBJ h4;obtain rfl:c1=zY x1:=by simpa using h1
 obtain rfl:c2=zY x2:=by simpa using h2
 obtain rfl:c3=zY x3:=by simpa using h3
 obtain rfl:c4=zY x4:=by simpa using h4
 obtain rfl:c5=zY x5:=by simpa using h5
 exact ⟨⟨x1,x2,x3,x4,x5⟩,rfl⟩
theorem xQS {n:Nat} {cs:List Value} (h:WT Pg Z (n+4) 22 cs):∃ p l c xs,cs=[.slice p l c]/\zVN Z 92 p l xs/\zIA Z 5 p l c:=by
 obtain ⟨p,l,c,rs,e1,_,s1,l1,w1⟩:=zOR Tryz.underlying22 (k:=5) (by kernel_rfl) h;subst e1;have ha:=yRT Tryz.underlying22 (k:=5) (by kernel_rfl) h;obtain ⟨xs,n1,rfl⟩:=zYK (f:=fun x:Dty=>zF x.day x.on x.lo x.hi x.route) (fun cs h=>xWF h) l rs l1 w1;refine ⟨p,l,c,xs,rfl,⟨?_,by simpa using n1,fun v hv=>?_⟩,ha⟩
 ·rw [yFX fun x:Dty=>zF x.day x.on x.lo x.hi x.route];exact s1
 ·obtain ⟨x,_,rfl⟩:=List.mem_map.1 hv;exact .inr ⟨wAG,zIU,_,rfl,rfl⟩
def yRS (Z:St) (v:Value) (x:Drv):Prop:=∃ p l c q m d r n e,v=.agg ⟨zN p l c q m d r n e x.off x.row x.used⟩/\(yG Z p l x.knows/\zIA Z 1 p l c)/\(yG Z q m x.leave/\zIA Z 1 q m d)/\yG Z r n x.wish
theorem yRS.v {v:Value} {x:Drv} (h:yRS Z v x):zTO Z v x:=by
 obtain ⟨p,l,c,q,m,d,r,n,e,h1,h2,h3,h4⟩:=h;exact ⟨p,l,c,q,m,d,r,n,e,h1,h2.1,h3.1,h4⟩
theorem xWG {n:Nat} {cs:List Value} (h:WT Pg Z (n+3) 76 cs):∃ (x:Drv) (p q r:Option Addr) (l c m d j e:Nat),cs=zN p l c q m d r j e x.off x.row x.used/\(yG Z p l x.knows/\zIA Z 1 p l c)/\(yG Z q m x.leave/\zIA Z 1 q m d)/\yG Z r j x.wish:=by
 unfold WT at h;simp only [Tryz.underlying76] at h;obtain ⟨hl,h⟩:=h;have hl:cs.length=6:=hl.trans (by kernel_rfl);obtain ⟨c1,c2,c3,c4,c5,c6,rfl⟩:∃ c1 c2 c3 c4 c5 c6,cs=[c1,c2,c3,c4,c5,c6]:=by
  match cs,hl with
  | [c1,c2,c3,c4,c5,c6],_=>exact ⟨_,_,_,_,_,_,rfl⟩
 have k3:Pg.cellsOf 3=1:=by kernel_rfl
 have k26:Pg.cellsOf 26=1:=by kernel_rfl
 simp only [List.mem_cons,List.not_mem_nil,or_false,forall_eq_or_imp,forall_eq,k3,k26] at h;obtain ⟨⟨_,h1⟩,⟨_,h2⟩,⟨_,h3⟩,⟨_,h4⟩,⟨_,h5⟩,⟨_,h6⟩⟩:=h;obtain ⟨p1,l1,e1,x1,h1,i1,a1⟩:=yHC h1;obtain ⟨p2,l2,e2,x2,h2,i2,a2⟩:=yHC h2;obtain ⟨p3,l3,e3,x3,h3,i3,_⟩:=yHC h3;obtain ⟨x4,h4⟩:=zBJ h4;obtain ⟨x5,h5⟩:=zBJ h5;obtain ⟨x6,h6⟩:=zBJ h6;obtain rfl:c1=.slice p1 l1 e1:=by simpa using h1
 obtain rfl:c2=.slice p2 l2 e2:=by simpa using h2
 obtain rfl:c3=.slice p3 l3 e3:=by simpa using h3
 obtain rfl:c4=zY x4:=by simpa using h4
 obtain rfl:c5=zY x5:=by simpa using h5
 obtain rfl:c6=zY x6:=by simpa using h6
 exact ⟨⟨x1,x2,x3,x4,x5,x6⟩,p1,p2,p3,l1,e1,l2,e2,l3,e3,rfl,⟨i1,a1⟩,⟨i2,a2⟩,i3⟩
structure DrvsA (Z:St) (p:Option Addr) (l c:Nat) (xs:List Drv):Prop where
 vs:∃ vs:List Value,SlV Pg Z 76 6 p l vs/\xs.length=l/\∀ (i:Nat) (x:Drv),xs[i]?=some x->∃ v,vs[i]?=some v/\yRS Z v x
 arg:zIA Z 6 p l c
theorem DrvsA.p {p:Option Addr} {l c:Nat} {xs:List Drv} (h:DrvsA Z p l c xs):zVO Z 76 p l xs:=by
 obtain ⟨vs,h1,h2,h3⟩:=h.vs;exact ⟨vs,h1,h2,fun i x hx=>by obtain ⟨v,g1,g2⟩:=h3 i x hx;exact ⟨v,g1,g2.v⟩⟩
theorem xQT {n:Nat} {cs:List Value} (h:WT Pg Z (n+4) 23 cs):∃ p l c xs,cs=[.slice p l c]/\DrvsA Z p l c xs:=by
 obtain ⟨p,l,c,rs,e1,_,s1,l1,w1⟩:=zOR Tryz.underlying23 (k:=6) (by kernel_rfl) h;subst e1;have ha:=yRT Tryz.underlying23 (k:=6) (by kernel_rfl) h;obtain ⟨xs,n1,rfl⟩:=zYK (f:=fun x:{x:List Value × Drv // ∃ p q r l c m d j e,x.1=zN p l c q m d r j e x.2.off x.2.row x.2.used/\(yG Z p l x.2.knows/\zIA Z 1 p l c)/\(yG Z q m x.2.leave/\zIA Z 1 q m d)/\yG Z r j x.2.wish}=>x.1.1) (fun cs h=>by
  obtain ⟨x,p,q,r,l,c,m,d,j,e,h1,h2⟩:=xWG h;exact ⟨⟨⟨cs,x⟩,p,q,r,l,c,m,d,j,e,h1,h2⟩,rfl⟩) l rs l1 w1
 refine ⟨p,l,c,xs.map fun x=>x.1.2,rfl,⟨⟨xs.map fun x=>.agg ⟨x.1.1⟩,⟨?_,by simpa using n1,fun v hv=>?_⟩,by simpa using n1,fun i x hx=>?_⟩,ha⟩⟩
 ·have:xF (xs.map fun x=>Value.agg ⟨x.1.1⟩)=xs.flatMap fun x=>x.1.1:=yFX (fun x:{x:List Value × Drv // ∃ p q r l c m d j e,x.1=zN p l c q m d r j e x.2.off x.2.row x.2.used/\(yG Z p l x.2.knows/\zIA Z 1 p l c)/\(yG Z q m x.2.leave/\zIA Z 1 q m d)/\yG Z r j x.2.wish}=>x.1.1) xs
  rw [this];exact s1
 ·obtain ⟨x,_,rfl⟩:=List.mem_map.1 hv;obtain ⟨p,q,r,l,c,m,d,j,e,h1,_⟩:=x.2;exact .inr ⟨xBY,zAB,_,rfl,by rw [h1];rfl⟩
 ·rw [List.getElem?_map] at hx;cases hy:xs[i]? with
  | none=>rw [hy] at hx;cases hx
  | some y =>
   rw [hy] at hx;obtain rfl:y.1.2=x:=by simpa using hx
   obtain ⟨p,q,r,l,c,m,d,j,e,h1,h2⟩:=y.2;exact ⟨.agg ⟨y.1.1⟩,by rw [List.getElem?_map,hy];rfl,p,l,c,q,m,d,r,j,e,by rw [h1],h2⟩
theorem xQR {n:Nat} {cs:List Value} (h:WT Pg Z (n+5) 25 cs):∃ (w:Wk) (p q:Option Addr) (l c m d:Nat),cs=wkc w.days p l c q m d w.rest w.run w.hours/\WkP Z 92 76 w p l q m/\zIA Z 5 p l c/\DrvsA Z q m d w.drivers:=by
 unfold WT at h;simp only [Tryz.underlying25] at h;obtain ⟨hl,h⟩:=h;have hl:cs.length=6:=hl.trans (by kernel_rfl);obtain ⟨c1,c2,c3,c4,c5,c6,rfl⟩:∃ c1 c2 c3 c4 c5 c6,cs=[c1,c2,c3,c4,c5,c6]:=by
  match cs,hl with
  | [c1,c2,c3,c4,c5,c6],_=>exact ⟨_,_,_,_,_,_,rfl⟩
 have k3:Pg.cellsOf 3=1:=by kernel_rfl
 have k22:Pg.cellsOf 22=1:=by kernel_rfl
 have k23:Pg.cellsOf 23=1:=by kernel_rfl
 simp only [List.mem_cons,List.not_mem_nil,or_false,forall_eq_or_imp,forall_eq,k3,k22,k23] at h;obtain ⟨⟨_,h1⟩,⟨_,h2⟩,⟨_,h3⟩,⟨_,h4⟩,⟨_,h5⟩,⟨_,h6⟩⟩:=h;obtain ⟨x1,h1⟩:=zBJ h1;obtain ⟨p,l,c,xs,h2,i2,a2⟩:=xQS h2;obtain ⟨q,m,d,ys,h3,i3⟩:=xQT h3;obtain ⟨x4,h4⟩:=zBJ h4;obtain ⟨x5,h5⟩:=zBJ h5;obtain ⟨x6,h6⟩:=zBJ h6;obtain rfl:c1=zY x1:=by simpa using h1
 obtain rfl:c2=.slice p l c:=by simpa using h2
 obtain rfl:c3=.slice q m d:=by simpa using h3
 obtain rfl:c4=zY x4:=by simpa using h4
 obtain rfl:c5=zY x5:=by simpa using h5
 obtain rfl:c6=zY x6:=by simpa using h6
 exact ⟨⟨x1,xs,ys,x4,x5,x6⟩,p,q,l,c,m,d,rfl,⟨i2,i3.p⟩,a2,i3⟩
theorem zPT {U:Inj} {av v:Value} (h:VR U av v) (hv:∀ cs,v≠.agg cs):∀ cs,av≠.agg cs:=by
 rintro cs rfl;cases h with
 | atom h=>simp [uU] at h
 | agg _ _=>exact hv _ rfl
theorem xWK {W:World} {t e:TypeId} {v:Value} (hu:Pg.underlying t=some (.slice e)) (h:Value.okWide Pg W .any 0 t v):∀ cs,v≠.agg cs:=by
 rintro cs rfl;unfold Value.okWide at h;rw [hu] at h;simp [Cell.okWide,Cell.ok,hu] at h
theorem zWI {W:World} {t:TypeId} {k:IntKind} {v:Value} (hu:Pg.underlying t=some (.int k)) (h:Value.okWide Pg W .any 0 t v):∀ cs,v≠.agg cs:=by
 rintro cs rfl;unfold Value.okWide at h;rw [hu] at h;simp [Cell.okWide,Cell.ok,hu] at h
theorem yQQ {v:Value} {p:Option Addr} {l c:Nat} (h:v.cells.toList=[.slice p l c]) (hn:∀ cs,v≠.agg cs):v=.slice p l c:=by
 cases v with
 | agg cs=>exact absurd rfl (hn cs)
 | _=>first | (simp [Value.cells] at h;done) | simpa [Value.cells] using h
theorem zLX {v:Value} {k:IntKind} {x:Int} (h:v.cells.toList=[.int k x]) (hn:∀ cs,v≠.agg cs):v=.int k x:=by
 cases v with
 | agg cs=>exact absurd rfl (hn cs)
 | _=>first | (simp [Value.cells] at h;done) | simpa [Value.cells] using h
end
theorem xAT {a b:Int} {Z:St}:yR Pg (evL [iV a,iV b]) Z (.call { callee:=.builtin .min,args:=⟨xJ 2⟩,argTypes:=⟨[3,3]⟩ })=some (iV (min a b)):=by
 have e:yA Pg (Builtin.min_ ⟨[3,3]⟩ 0 ⟨[iV a,iV b]⟩)=some (iV (min a b)):=by
  rw [show min a b=if b<a then b else a by split <;> omega];simp only [Builtin.min_,List.foldlM,Builtin.min2];rfl
 have e2:yR Pg (evL [iV a,iV b]) Z (.call { callee:=.builtin .min,args:=⟨xJ 2⟩,argTypes:=⟨[3,3]⟩ }) =
   match ((yA Pg (Builtin.min_ ⟨[3,3]⟩ 0 ⟨[iV a,iV b]⟩)).filter (zW RD)) with | some v=>some v | none=>xN Pg (evL [iV a,iV b]) Z (.call { callee:=.builtin .min,args:=⟨xJ 2⟩,argTypes:=⟨[3,3]⟩ }):=rfl
 rw [e2,e];rfl
theorem yFW {n j:Nat} {y:Value} {cs:List Value} (hj:j<n):∀ {vs:List Value} {k:Nat},(∀ v∈vs,v.cells.toList.length=n)->vs[k]?=some (.agg ⟨cs⟩)->(xF vs).set (k*n+j) y=xF (vs.set k (.agg ⟨cs.set j y⟩))
 | [],k,_,h=>by simp at h
 | v::vs,0,hn,h=>by
  have e:v=.agg ⟨cs⟩:=by simpa using h
  subst e;have hl:cs.length=n:=hn _ List.mem_cons_self;show (cs++xF vs).set (0*n+j) y=cs.set j y++xF vs;rw [Nat.zero_mul,Nat.zero_add,List.set_append_left _ _ (by omega)]
 | v::vs,k+1,hn,h=>by
  have hl:=hn v List.mem_cons_self;have ih:=yFW (y:=y) hj (vs:=vs) (k:=k) (fun z hz=>hn z (List.mem_cons_of_mem _ hz)) (by simpa using h);have e:(k+1)*n+j=v.cells.toList.length+(k*n+j):=by rw [hl,Nat.add_mul,Nat.one_mul];omega
  show (v.cells.toList++xF vs).set ((k+1)*n+j) y=v.cells.toList++xF (vs.set k (.agg ⟨cs.set j y⟩));rw [e,List.set_append_right _ _ (by omega),Nat.add_sub_cancel_left,ih]
theorem yRS.le {Z τ:St} {v:Value} {x:Drv} (h:yRS Z v x) (k:Le Z τ):yRS τ v x:=by
 obtain ⟨p,l,c,q,m,d,r,n,e,h1,h2,h3,h4⟩:=h;exact ⟨p,l,c,q,m,d,r,n,e,h1,⟨SlV.le h2.1 k,h2.2.le k⟩,⟨SlV.le h3.1 k,h3.2.le k⟩,SlV.le h4 k⟩
theorem yAL (p q r:Option Addr) (l c m d n e:Nat) (x y z:Int):zCL Pg 76 6 (.agg ⟨zN p l c q m d r n e x y z⟩):=.inr ⟨xBY,zAB,_,rfl,rfl⟩
section
variable {t1 z z':St} {w x:Wk} {p q:Option Addr} {l m c c3 B D:Nat} {vs:List Value}
structure EzW (t1 z:St) (w:Wk) (p:Option Addr) (l c m c3 B D:Nat) (vs:List Value):Prop where
 dty:zVN t1 92 p l w.duties
 len:w.drivers.length=m
 vlen:vs.length=m
 drv:∀ (i:Nat) (y:Drv),w.drivers[i]?=some y->∃ v,vs[i]?=some v/\yRS t1 v y
 ok:∀ v∈vs,zCL Pg 76 6 v
 new:New t1 z
 oB:Own z B (wkc w.days p l c (some ⟨D,0,none⟩) m c3 w.rest w.run w.hours) 6
 oD:Own z D (xF vs) 6
 nB:t1.y<=B
 nD:t1.y<=D
 ne:B≠D
def EzX (t1 z:St) (w:Wk) (p:Option Addr) (l c m c3 B D:Nat):Prop :=
 ∃ x,EasD w x/\New t1 z/\Row z ⟨B,0,none⟩ (wkc x.days p l c (some ⟨D,0,none⟩) m c3 x.rest x.run x.hours)/\WkP z 92 76 x p l (some ⟨D,0,none⟩) m
theorem EzW.head (E:EzW t1 z w p l c m c3 B D vs) {r u h:Int} (hx:EasD w ⟨w.days,w.duties,w.drivers,r,u,h⟩):EzX t1 (z.own B (wkc w.days p l c (some ⟨D,0,none⟩) m c3 r u h) 6) w p l c m c3 B D:=by
 have N:New t1 (z.own B (wkc w.days p l c (some ⟨D,0,none⟩) m c3 r u h) 6):=E.new.own E.nB;have oD:=E.oD.own (ds:=wkc w.days p l c (some ⟨D,0,none⟩) m c3 r u h) (m:=6) (Ne.symm E.ne);have hfl:=zEA E.ok;exact ⟨_,hx,N,E.oB.put.rw,SlV.le E.dty N.le,vs,⟨⟨by rw [hfl,E.vlen],oD.rw⟩,E.vlen,E.ok⟩,E.len,fun i y hi=>by
  obtain ⟨v,g1,g2⟩:=E.drv i y hi;exact ⟨v,g1,(g2.le N.le).v⟩⟩
theorem EzW.one (E:EzW t1 z w p l c m c3 B D vs) (N:New t1 z') (oB:Row z' ⟨B,0,none⟩ (wkc w.days p l c (some ⟨D,0,none⟩) m c3 w.rest w.run w.hours)) {k:Nat} {v:Value} {d:Drv} (hk:k<m) (oD:Own z' D (xF (vs.set k v)) 6) (hv:zTO z' v d) (hx:EasD w (ySO w k d)) (he:zCL Pg 76 6 v):EzX t1 z' w p l c m c3 B D:=by
 have hok:∀ u∈vs.set k v,zCL Pg 76 6 u:=fun u hu=>by
  rcases List.mem_or_eq_of_mem_set hu with hu | rfl
  ·exact E.ok u hu
  ·exact he
 have hfl:=zEA hok;have hvl:(vs.set k v).length=m:=by rw [List.length_set];exact E.vlen
 refine ⟨_,hx,N,oB,SlV.le E.dty N.le,vs.set k v,⟨⟨by rw [hfl,hvl],oD.rw⟩,hvl,hok⟩,by simpa [ySO] using E.len,fun i y hi=>?_⟩
 have hi:(w.drivers.set k d)[i]?=some y:=hi;rw [List.getElem?_set] at hi;rw [List.getElem?_set];by_cases e:k=i
 ·subst e;rw [if_pos rfl,if_pos (by rw [E.len];exact hk)] at hi;rw [if_pos rfl,if_pos (by rw [E.vlen];exact hk)];cases hi
  exact ⟨v,rfl,hv⟩
 ·rw [if_neg e] at hi;rw [if_neg e];obtain ⟨v,g1,g2⟩:=E.drv i y hi;exact ⟨v,g1,(g2.le N.le).v⟩
theorem EzW.cell (E:EzW t1 z w p l c m c3 B D vs) (oD:Own z' D (xF vs) 6) {k j t:Nat} {y:Value} {cs:List Value} (hj:j<6) (hv:vs[k]?=some (.agg ⟨cs⟩)) (hy:y.cells.toList=[y]) (hc:cellB y=true) (ht:yU Pg t=some 1) :
  zQ Pg (evL [.pointer (some ⟨D,k*6+j,none⟩),y]) z' (.store t (.tmp 0) (.tmp 1))=some (undef,z'.own D (xF (vs.set k (.agg ⟨cs.set j y⟩))) 6):=by
 have hfl:=zEA E.ok;have hkl:=(List.getElem?_eq_some_iff.1 hv).1;have hle:k*6+j+1<=(xF vs).length:=by rw [hfl];omega
 refine oD.store hy ht (by simp [hc]) hle ?_
 rw [<- yFW hj (fun u hu=>(E.ok u hu).len) hv,List.set_eq_take_append_cons_drop,if_pos (by omega)];rfl
end
theorem xTD {Z:St} {p:Option Addr} {l c:Nat} {xs:List Int} (h:yG Z p l xs) (hl:l<=1073741824) :
  ∃ p' c' Z',zD Pg 19 [.slice p l c] Z (.slice p' l c') Z'/\New Z Z'/\Ax Z' Z.y 1 p' l c' (xs.map zY):=by
 have hc:(xF (xs.map zY)).all cellB=true:=by rw [wH xs .i64];simp [List.all_eq_true];intro a _;rfl
 have N1:New Z.re (Z.re.row [] 1):=New.row _ _ _;obtain ⟨p6,c6,s5,ap1,A6,O6,b6⟩:=Ax.append (P:=Pg) (k:=c) (n0:=Z.re.y) uJ (Ax.lit (len:=0) (zC Z.re [] 1) rfl ((yS 0).2 wO) (Nat.le_refl _)) (SlV.le h ((le0 Z).trans N1.le)).1 (by omega) hc N1.nx;have N5:New Z.re s5:=N1.of_only O6 (by rintro b ⟨a,e,rfl⟩;cases e;exact Nat.le_refl _);rw [Nat.zero_add] at ap1 A6;rw [List.nil_append,wH xs .i64] at A6;obtain ⟨v,s,h1,h2,p',c',rfl,h3⟩:=zP.new (Q:=fun v s=>∃ p' c',v=.slice p' l c'/\Ax s Z.y 1 p' l c' (xs.map zY)) (xAX ap1 ⟨N5,p6,c6,rfl,A6⟩) (by
  rintro v s s' ⟨p',c',rfl,g⟩ hle;exact ⟨p',c',rfl,g.le hle⟩) (by
  rintro v s hr ⟨p',c',rfl,g⟩;refine ⟨p',c',rfl, ?_⟩
  cases p' with
  | some a=>exact Bool.noConfusion (show false=true from hr)
  | none =>
   generalize xs.map zY=cs at g ⊢;rcases g with g | ⟨b,e,_⟩
   ·cases g;exact .inl .nil
   ·cases e)
 exact ⟨p',c',s,h1,h2,h3⟩
theorem xOE {t:Nat} {xs:List Int} (h:t<xs.length):(xs.take t).map zY++xF (((xs.map zY).drop (t+1)).take (xs.length-(t+1)))=xF ((xs.eraseIdx t).map zY):=by
 have e1:((xs.map zY).drop (t+1)).take (xs.length-(t+1))=(xs.drop (t+1)).map zY:=by
  rw [List.take_of_length_le (by simp),List.map_drop]
 rw [e1,wH _ .i64,wH _ .i64,List.eraseIdx_eq_take_drop_succ,List.map_append]
section
variable {t1 z z':St} {w x:Wk} {p q bM:Option Addr} {l m c c3 B D wl wc B1 k:Nat} {vs:List Value} {n wh duty:Int}
theorem xYC (hm:w.drivers.length=m) (hk:k<m):w.drivers[k]?=some (drQ w k):=by
 unfold drQ;rw [List.getD_eq_getElem?_getD,List.getElem?_eq_getElem (by omega)];rfl
theorem xGH (hl:zDX w=true) (E:EzW t1 z w p l c m c3 B D vs) (hk:k<m) (hn:0<=n/\n<=1499) (hwh:0<=wh/\wh<=7):vB bM wl wc duty B1 B ⟨D,k*6,none⟩ n wh z (fun z'=>EzX t1 z' w p l c m c3 B D):=by
 have E0:=E;obtain ⟨hsh,hf,_,_⟩:=zCJ hl;obtain ⟨f1,f2,f3,f4,f5⟩:=zAS hf;obtain ⟨gd,gr',gu,gh⟩:=zHH f3;have hmem:drQ w k∈w.drivers:=zQO (by rw [E.len];exact hk);obtain ⟨e1,e2,e3,e4,e5,e6⟩:=zLV (f5 _ hmem);obtain ⟨h20a,h20b,h20c⟩:=yVP hl _ hmem;have hwk:k<w.drivers.length:=by rw [E.len];exact hk
 obtain ⟨v,hv,pk,lk,ck,pl,ll,cl,pw,lw,cw,rfl,⟨gk,ak⟩,⟨gl,al⟩,gw⟩:=E.drv k _ (xYC E.len hk);have len6:∀ y∈vs,y.cells.toList.length=6:=fun u hu=>(E.ok u hu).len
 by_cases w0:wh=0
 ·refine yOL (E.oB.rw.ld (k:=3) zU rfl) zPV (E.oB.store (k:=3) (t:=3) (v:=iV (max 0 (w.rest-n))) (vs:=[iV (max 0 (w.rest-n))]) (ds:=wkc w.days p l c (some ⟨D,0,none⟩) m c3 (max 0 (w.rest-n)) w.run w.hours) rfl wE rfl (nle rfl) rfl) ?_ w0 ⟨by omega,by omega⟩;exact E.head (zJX hl ⟨by omega,by omega⟩ ⟨by omega,by omega⟩ ⟨by omega,by omega⟩)
 by_cases w1:wh=1
 ·refine yOK (E.oB.rw.ld (k:=4) zU rfl) xAT (E.oB.store (k:=4) (t:=3) (v:=iV (min 14 (w.run+1))) (vs:=[iV (min 14 (w.run+1))]) (ds:=wkc w.days p l c (some ⟨D,0,none⟩) m c3 w.rest (min 14 (w.run+1)) w.hours) rfl wE rfl (nle rfl) rfl) ?_ w0 w1 ⟨by omega,by omega⟩;exact E.head (zJX hl ⟨by omega,by omega⟩ ⟨by omega,by omega⟩ ⟨by omega,by omega⟩)
 by_cases w2:wh=2
 ·refine yOJ (E.oB.rw.ld (k:=5) zU rfl) xAT (E.oB.store (k:=5) (t:=3) (v:=iV (min 20000 (w.hours+n))) (vs:=[iV (min 20000 (w.hours+n))]) (ds:=wkc w.days p l c (some ⟨D,0,none⟩) m c3 w.rest w.run (min 20000 (w.hours+n))) rfl wE rfl (nle rfl) rfl) ?_ w0 w1 w2 ⟨by omega,by omega⟩;exact E.head (zJX hl ⟨by omega,by omega⟩ ⟨by omega,by omega⟩ ⟨by omega,by omega⟩)
 have cell:∀ (j:Nat) (y:Value),j<6->(zN pk lk ck pl ll cl pw lw cw (drQ w k).off (drQ w k).row (drQ w k).used)[j]?=some y->∀ {s:St} {t:Nat},Le z s->wL Pg t=some false->zB Pg s t ⟨D,k*6+j,none⟩=some y:=fun j y hj hy {s} {t} hs ht=>(E.oD.le hs).rw.ld (k:=k*6+j) ht (zSR (x:=.agg ⟨zN pk lk ck pl ll cl pw lw cw (drQ w k).off (drQ w k).row (drQ w k).used⟩) hj hy len6 hv)
 have num:∀ (y:Int) (j:Nat) (a b u:Int),j<6->(zN pk lk ck pl ll cl pw lw cw (drQ w k).off (drQ w k).row (drQ w k).used).set j (iV y)=zN pk lk ck pl ll cl pw lw cw a b u->a<=(drQ w k).off->-10080<=a->b<=(drQ w k).row->0<=b->u<=(drQ w k).used->0<=u ->
   zQ Pg (evL [.pointer (some ⟨D,k*6+j,none⟩),iV y]) z (.store 3 (.tmp 0) (.tmp 1))=some (undef,z.own D (xF (vs.set k (.agg ⟨zN pk lk ck pl ll cl pw lw cw a b u⟩))) 6)/\EzX t1 (z.own D (xF (vs.set k (.agg ⟨zN pk lk ck pl ll cl pw lw cw a b u⟩))) 6) w p l c m c3 B D:=by
  intro y j a b u hj he ha ha2 hb hb2 hu hu2
  have st:=E.cell (y:=iV y) E.oD hj hv rfl rfl wE
  rw [he] at st
  have N:New t1 (z.own D (xF (vs.set k (.agg ⟨zN pk lk ck pl ll cl pw lw cw a b u⟩))) 6):=E.new.own E.nD
  refine ⟨st,E.one N (E.oB.own E.ne).rw hk E.oD.put (d:=⟨(drQ w k).knows,(drQ w k).leave,(drQ w k).wish,a,b,u⟩) ⟨pk,lk,ck,pl,ll,cl,pw,lw,cw,rfl,SlV.le gk N.le,SlV.le gl N.le,SlV.le gw N.le⟩ ?_ (yAL ..)⟩
  exact zXN hl hwk ⟨fun r h=>h,fun r h=>h,ha,hb,hu⟩ (yJK e1 e2 e3 ⟨ha2,by show a<=1440;omega⟩ ⟨hb2,by show b<=14;omega⟩ ⟨hu2,by show u<=w.hours;omega⟩) ⟨by show (drQ w k).knows.length<=1000;omega,by show (drQ w k).leave.length<=1000;omega,by show (drQ w k).wish.length<=1000;omega⟩
 by_cases w3:wh=3
 ·have e16:n.tmod 16=n % 16:=Int.tmod_eq_emod_of_nonneg (by omega);have b16:0<=n.tmod 16/\n.tmod 16<=15:=by omega
  have gkl:=gk.len;obtain ⟨pp,cp,z1,hc,N1,i1,fr⟩:=xZD (c:=ck) (n:=n.tmod 16) (SlV.le gk E.new.le) (by omega);have st:=E.cell (y:=.slice pp (zAG (drQ w k).knows (n.tmod 16)).length cp) (E.oD.le N1.le) (j:=0) (by omega) hv rfl rfl zXH;refine yOI (cell 0 _ (by omega) rfl (Le.refl _) yV) hc st ?_ w0 w1 w2 w3;have hDz:=E.oD.lt;have N:New t1 (z1.own D (xF (vs.set k (.agg ⟨(zN pk lk ck pl ll cl pw lw cw (drQ w k).off (drQ w k).row (drQ w k).used).set 0 (.slice pp (zAG (drQ w k).knows (n.tmod 16)).length cp)⟩))) 6):=(E.new.trans N1).own E.nD;have kO:Only (·=D) z1 (z1.own D (xF (vs.set k (.agg ⟨(zN pk lk ck pl ll cl pw lw cw (drQ w k).off (drQ w k).row (drQ w k).used).set 0 (.slice pp (zAG (drQ w k).knows (n.tmod 16)).length cp)⟩))) 6):=Only.own (.inr rfl);refine E.one N ((E.oB.le N1.le).own E.ne).rw hk (E.oD.le N1.le).put (d:=⟨zAG (drQ w k).knows (n.tmod 16),(drQ w k).leave,(drQ w k).wish,(drQ w k).off,(drQ w k).row,(drQ w k).used⟩) ⟨pp,_,cp,pl,ll,cl,pw,lw,cw,rfl,kO.slv' i1 (fun a ea e=>by have:=fr _ ⟨a,ea,rfl⟩;omega),SlV.le gl N.le,SlV.le gw N.le⟩ ?_ (yAL ..);obtain ⟨r1,r2⟩:=yZS e1;refine zXN hl hwk ⟨fun r h=>?_,fun r h=>h,Int.le_refl _,Int.le_refl _,Int.le_refl _⟩ (yJK (yZR (yZZ r1) fun y hy=>?_) e2 e3 e4 e5 e6) ⟨?_,by show (drQ w k).leave.length<=1000;omega,by show (drQ w k).wish.length<=1000;omega⟩
  ·rw [List.contains_iff_mem] at h ⊢;exact yNX h
  ·rcases zYH hy with rfl | hy
   ·exact b16
   ·exact r2 y hy
  ·have:=zYI (n:=n.tmod 16) (xs:=(drQ w k).knows);show (zAG (drQ w k).knows (n.tmod 16)).length<=1000;omega
 by_cases w4:wh=4
 ·have gll:=gl.len;by_cases hz:0<ll;rotate_left
  ·refine yOG (cell 1 _ (by omega) rfl (Le.refl _) yV) ?_ w0 w1 w2 w3 w4 (by omega);obtain ⟨w',a1,a2,a3,a4⟩:=E.head (r:=w.rest) (u:=w.run) (h:=w.hours) (zJX hl ⟨by omega,by omega⟩ ⟨by omega,by omega⟩ ⟨by omega,by omega⟩);have hwid:EasD w ⟨w.days,w.duties,w.drivers,w.rest,w.run,w.hours⟩:=zJX hl ⟨by omega,by omega⟩ ⟨by omega,by omega⟩ ⟨by omega,by omega⟩;have hfl:=zEA E.ok;exact ⟨_,hwid,E.new,E.oB.rw,SlV.le E.dty E.new.le,vs,⟨⟨by rw [hfl,E.vlen],E.oD.rw⟩,E.vlen,E.ok⟩,E.len,fun i y hi=>by
    obtain ⟨v,g1,g2⟩:=E.drv i y hi;exact ⟨v,g1,(g2.le E.new.le).v⟩⟩
  obtain ⟨t,ht,et⟩:∃ t:Nat,t<ll/\n.tmod (ll:Int)=(t:Int):=by
   have e7:n.tmod (ll:Int)=n % (ll:Int):=Int.tmod_eq_emod_of_nonneg (by omega);have e8:=Int.emod_nonneg n (show (ll:Int)≠0 by omega);have e9:=Int.emod_lt_of_pos n (show 0<(ll:Int) by omega);exact ⟨(n % (ll:Int)).toNat,by omega,by omega⟩
  have rm1:vP Pg .rem 3 (.tmp 125) (.tmp 126) (iV n) (iV ((ll:Nat):Int))=some (iV (t:Int)):=by rw [zRL (by omega),et]
  have rm2:vP Pg .rem 3 (.tmp 134) (.tmp 135) (iV n) (iV ((ll:Nat):Int))=some (iV (t:Int)):=by rw [zRL (by omega),et]
  have hcap:ll<=cl:=by rcases al with ⟨_,h0,_⟩ | ⟨_,_,_,_,_,h1,_⟩ <;> omega
  have glz:yG z pl ll (drQ w k).leave:=SlV.le gl E.new.le;have alz:=al.le E.new.le;obtain ⟨sl1,i1,b1⟩:=alz.part (P:=Pg) (t:=26) (lo:=0) (hi:=t) (lo':=none) (hi':=some (iV (t:Int))) glz Tryz.underlying26 wE rfl (zHR rfl (by omega)) (by omega) (by omega);have i1':yG z (zUI pl 1 0 cl) (t-0) ((drQ w k).leave.take t):=by
   have:((drQ w k).leave.take t).map zY=(((drQ w k).leave.map zY).drop 0).take (t-0):=by rw [List.drop_zero,Nat.sub_zero,List.map_take]
   show SlV Pg z 3 1 _ _ _;rw [this];exact i1
  obtain ⟨p4,c4,s5,k4,N5,A5⟩:=xTD (c:=cl-0) i1' (by omega);have gl5:yG s5 pl ll (drQ w k).leave:=SlV.le glz N5.le;obtain ⟨sl2,i2,b2⟩:=(alz.le N5.le).part (P:=Pg) (t:=26) (lo:=t+1) (hi:=ll) (lo':=some (iV ((t:Int)+1))) (hi':=none) gl5 Tryz.underlying26 wE (zHR (x:=t+1) (by omega) (by omega)) rfl (by omega) (Nat.le_refl _);obtain ⟨sl2z,_,b2z⟩:=alz.part (P:=Pg) (t:=26) (lo:=t+1) (hi:=ll) (lo':=some (iV ((t:Int)+1))) (hi':=none) glz Tryz.underlying26 wE (zHR (x:=t+1) (by omega) (by omega)) rfl (by omega) (Nat.le_refl _);have hcb:(xF ((((drQ w k).leave.map zY).drop (t+1)).take (ll-(t+1)))).all cellB=true:=by
   rw [<- List.map_drop,<- List.map_take,wH _ .i64,List.all_eq_true];intro a ha;obtain ⟨y,_,rfl⟩:=List.mem_map.1 ha;rfl
  obtain ⟨p6,c6,s9,ap6,A6,O6,b6⟩:=Ax.append (P:=Pg) (k:=cl-(t+1)) (n0:=z.y) uJ A5 i2.1 (by omega) hcb N5.nx;have N9:New z s9:=N5.of_only O6 (fun b hb=>(A5.bd b hb).1);rw [<- gll,xOE (by omega),gll] at A6;have hel:((drQ w k).leave.eraseIdx t).length=t-0+(ll-(t+1)):=by rw [List.length_eraseIdx_of_lt (by omega)];omega
  have i6:yG s9 p6 (t-0+(ll-(t+1))) ((drQ w k).leave.eraseIdx t):=Ax.slv A6 (by rw [List.length_map];exact hel) (fun v hv=>by obtain ⟨y,_,rfl⟩:=List.mem_map.1 hv;exact vV y);have st:=E.cell (y:=.slice p6 (t-0+(ll-(t+1))) c6) (E.oD.le N9.le) (j:=1) (by omega) hv rfl rfl zXH;have hDz:=E.oD.lt;have hD5:D<s5.y:=by have:=N5.nx;omega
  have hD9:D<s9.y:=by have:=N9.nx;omega
  have ld1:∀ s,Le z s->zB Pg s 26 ⟨D,k*6+1,none⟩=some (.slice pl ll cl):=fun s hs=>cell 1 _ (by omega) rfl hs yV
  have bpt:∀ s:St,D<s.y->zH s.y [.pointer (some ⟨D,k*6+1,none⟩)]:=fun s hs=>zE (zO hs) zI
  have bsl:∀ {s:St},yG s pl ll (drQ w k).leave->zH s.y [.slice pl ll cl,iV ((t:Int)+1)]:=fun {s} hs=>zE (yQ (wA hs)) (zE rfl zI)
  have h12:zH s5.y [.slice p4 (t-0) c4,.slice (zUI pl 1 (t+1) cl) (ll-(t+1)) (cl-(t+1))]:=zE (yQ (fun a e=>(A5.bd _ ⟨a,e,rfl⟩).2)) (zE (yQ b2) zI);have h13:zH s9.y [.pointer (some ⟨D,k*6+1,none⟩),.slice p6 (t-0+(ll-(t+1))) c6]:=zE (zO hD9) (zE (yQ (wA i6)) zI);refine yOH (ld1 z (Le.refl _)) rm1 sl1 k4 (ld1 s5 N5.le) rm2 sl2 ap6 st (bpt s5 hD5) (bsl gl5) h12 h13 (ld1 z (Le.refl _)) ⟨⟨hD5,rfl⟩,ld1 s5 N5.le⟩ ⟨⟨bsl glz,rfl⟩,sl2z⟩ ⟨⟨bsl gl5,rfl⟩,sl2⟩ (wA glz) b1 ?_ w0 w1 w2 w3 w4 (by omega) ⟨by omega,by omega⟩ hDz;have N:New t1 (s9.own D (xF (vs.set k (.agg ⟨(zN pk lk ck pl ll cl pw lw cw (drQ w k).off (drQ w k).row (drQ w k).used).set 1 (.slice p6 (t-0+(ll-(t+1))) c6)⟩))) 6):=(E.new.trans N9).own E.nD;have kO:Only (·=D) s9 (s9.own D (xF (vs.set k (.agg ⟨(zN pk lk ck pl ll cl pw lw cw (drQ w k).off (drQ w k).row (drQ w k).used).set 1 (.slice p6 (t-0+(ll-(t+1))) c6)⟩))) 6):=Only.own (.inr rfl);refine E.one N ((E.oB.le N9.le).own E.ne).rw hk (E.oD.le N9.le).put (d:=⟨(drQ w k).knows,(drQ w k).leave.eraseIdx t,(drQ w k).wish,(drQ w k).off,(drQ w k).row,(drQ w k).used⟩) ⟨pk,lk,ck,p6,_,c6,pw,lw,cw,rfl,SlV.le gk N.le,kO.slv' i6 (fun a ea e=>by
   have h0:a.block=D:=e;rcases b6 _ ⟨a,ea,rfl⟩ with hb | hb
   ·have:=(A5.bd _ hb).1;omega
   ·omega),SlV.le gw N.le⟩ ?_ (yAL ..)
  have hsub:((drQ w k).leave.eraseIdx t).Sublist (drQ w k).leave:=List.eraseIdx_sublist _ _;obtain ⟨r1,r2⟩:=yZS e2;refine zXN hl hwk ⟨fun r h=>h,fun r h=>?_,Int.le_refl _,Int.le_refl _,Int.le_refl _⟩ (yJK e1 (yZR (r1.sublist hsub) fun y hy=>r2 y (hsub.subset hy)) e3 e4 e5 e6) ⟨by show (drQ w k).knows.length<=1000;omega, ?_,by show (drQ w k).wish.length<=1000;omega⟩
  ·rw [List.contains_iff_mem] at h ⊢;exact hsub.subset h
  ·have:=hsub.length_le;show ((drQ w k).leave.eraseIdx t).length<=1000;omega
 by_cases w5:wh=5
 ·obtain ⟨st,hx⟩:=num (max (-10080) ((drQ w k).off-n)) 3 (max (-10080) ((drQ w k).off-n)) (drQ w k).row (drQ w k).used (by omega) rfl (by omega) (by omega) (by omega) (by omega) (by omega) (by omega);exact yOF (cell 3 _ (by omega) rfl (Le.refl _) zU) zPV st hx w0 w1 w2 w3 w4 w5 ⟨by omega,by omega⟩
 by_cases w6:wh=6
 ·obtain ⟨st,hx⟩:=num (max 0 ((drQ w k).row-1)) 4 (drQ w k).off (max 0 ((drQ w k).row-1)) (drQ w k).used (by omega) rfl (by omega) (by omega) (by omega) (by omega) (by omega) (by omega);exact yOE (cell 4 _ (by omega) rfl (Le.refl _) zU) zPV st hx w0 w1 w2 w3 w4 w5 w6 ⟨by omega,by omega⟩
 ·obtain ⟨st,hx⟩:=num (max 0 ((drQ w k).used-n)) 5 (drQ w k).off (drQ w k).row (max 0 ((drQ w k).used-n)) (by omega) rfl (by omega) (by omega) (by omega) (by omega) (by omega) (by omega);exact yOD (cell 5 _ (by omega) rfl (Le.refl _) zU) zPV st hx w0 w1 w2 w3 w4 w5 w6 ⟨by omega,by omega⟩
end
theorem xOP {x:Int} {s:St} (h:0<=x/\x<=255):yR Pg (evL [.int .u8 x]) s (.convert 5 3 (.tmp 0))=some (iV x):=by
 have e:xR Pg (evL [.int .u8 x]) (.convert 5 3 (.tmp 0))=some (iV (zAE .i64 x)):=by
  simp only [xR,Tryz.underlying5,Tryz.underlying3];rfl
 unfold yR;rw [e,w64 ⟨by omega,by omega⟩]
theorem xTF {p:Option Addr} {l c:Nat} {s:St}:yR Pg (evL [.slice p l c]) s (.call { callee:=.builtin .len,args:=⟨xJ 1⟩,argTypes:=⟨[22]⟩ })=some (iV ((l:Nat):Int)):=by
 have e:xR Pg (evL [.slice p l c]) (.call { callee:=.builtin .len,args:=⟨xJ 1⟩,argTypes:=⟨[22]⟩ })=some (iV ((l:Nat):Int)):=by
  show (match Pg.underlying 22,Value.slice p l c with
    | some (.slice _),.slice _ n _=>some (goInt n)
    | some .string,.string s=>some (goInt s.size)
    | some (.array n _),_=>some (goInt n)
    | some (.map _ _),.map none=>some (goInt 0)
    | _,_=>none)=_
  rw [Tryz.underlying22];rfl
 unfold yR;rw [e]
section
variable {Z t1 z:St} {w:Wk} {p q pw:Option Addr} {l m c d c3 B D lw cw:Nat} {ws:List Int}
theorem yPV {dt n wh:Int} {A:Addr} (h:WkP t1 92 76 w p l q m) (w1:Row t1 ⟨Z.y,0,none⟩ (wkc w.days p l c q m d w.rest w.run w.hours)) (hw:SlV Pg t1 5 1 pw lw (ws.map yQT)) (hb:∀ x∈ws,0<=x/\x<=255) (hdt:0<=dt/\dt<=255) (hl:zDX w=true) (hl0:0<l) (hx:EzX t1 z w p l c m c3 B D) :
  zAY pw lw cw dt Z.y B A n wh z (fun v _=>v=.bool true):=by
 obtain ⟨x,E,N,rx,hxw⟩:=hx;obtain ⟨hsh,hf,h8,h4⟩:=zCJ hl;have hln:=h.len.1;have hm:=h.len.2;have hlx:=hxw.len.1;have hmx:=hxw.len.2;have hs:=Sane.of hf hsh hln hm;have Lz:=N.le;have hnx:=w1.lt;have ldw:∀ s,Le z s->zB Pg s 25 ⟨Z.y,0,none⟩=some (.agg ⟨wkc w.days p l c q m d w.rest w.run w.hours⟩):=fun s hs=>(w1.le (Lz.trans hs)).ldN zCU uQ (k:=0) rfl rfl (nle rfl)
 have ldd:∀ s,Le z s->zB Pg s 22 ⟨Z.y,1,none⟩=some (.slice p l c):=fun s hs=>(w1.le (Lz.trans hs)).ld zBG rfl
 have ldx:∀ s,Le z s->zB Pg s 25 ⟨B,0,none⟩=some (.agg ⟨wkc x.days p l c (some ⟨D,0,none⟩) m c3 x.rest x.run x.hours⟩):=fun s hs=>(rx.le hs).ldN zCU uQ (k:=0) rfl rfl (nle rfl)
 have bn:∀ s,Le z s->Z.y<s.y:=fun s hs=>by have:=(Lz.trans hs).y;have hnx:Z.y<t1.y:=hnx;omega
 have hz:=h.le Lz;have pab:∀ s,Le z s->∀ a,p=some a->a.block<s.y:=fun s hs=>wA (hz.le hs).dty
 have qab:∀ s,Le z s->∀ a,q=some a->a.block<s.y:=fun s hs=>by obtain ⟨vs,g,_⟩:=(hz.le hs).drv;exact wA g
 obtain ⟨i,hi,ei⟩:∃ i:Nat,i<l/\dt.tmod (l:Int)=(i:Int):=by
  have e2:dt.tmod (l:Int)=dt % (l:Int):=Int.tmod_eq_emod_of_nonneg (by omega);have e3:=Int.emod_nonneg dt (show (l:Int)≠0 by omega);have e4:=Int.emod_lt_of_pos dt (show 0<(l:Int) by omega);exact ⟨(dt % (l:Int)).toNat,by omega,by omega⟩
 have rm:vP Pg .rem 3 (.tmp 169) (.tmp 172) (iV dt) (iV ((l:Nat):Int))=some (iV (i:Int)):=by rw [zRL (by omega),ei]
 obtain ⟨out,p2,c2,s3,k2,N2,i2,hout⟩:=xVJ (c:=c) (d:=d) (cw:=cw) hz (SlV.le hw Lz) hb (by omega) (by omega);have L3:Le z s3:=N2.le;have eol:=i2.len;have hor:Ros w (zZ out):=(yHN (by omega)).2 (by rw [hm];exact hout);have horx:=E.rosk hor;have spz:∀ {y:Wk},xC y=0->y.duties.length=l->Ros y (zZ out)->zOZ y out (i:Int)=0:=fun {y} h0 h1 h2=>by
  have hisr:zIG y out=true:=zLP.2 ⟨by omega,fun j hj=>h2.ros j (by omega)⟩;unfold zOZ;rw [if_neg (by omega),hisr,vK.2 (by omega)];rfl
 obtain ⟨pa,ca,qa,da,s4,k15,Na,wa⟩:=zTH (c:=c) (d:=d) (hz.le L3) (by omega) (by omega) hsh;obtain ⟨v5,s5,k16,Nb,bv⟩:=xQK (c:=ca) (d:=da) wa hsh;obtain ⟨hf',_⟩ | ⟨_,rs,pr,cr,rfl,irs,Bw⟩:=bv
 ·exact absurd hf hf'
 have L5:Le z s5:=L3.trans (Na.le.trans Nb.le);obtain ⟨pb,cb,qb,db,s6,k18,Nc,wb⟩:=zTH (c:=c) (d:=c3) (hxw.le L5) (by omega) (by omega) E.sh;obtain ⟨v7,s7,k19,Nd,bv'⟩:=xQK (c:=cb) (d:=db) wb E.sh;obtain ⟨hf',_⟩ | ⟨_,rt,pt,ct,rfl,irt,Bx⟩:=bv'
 ·exact absurd E.ok hf'
 have L7:Le z s7:=L5.trans (Nc.le.trans Nd.le);obtain ⟨pc,cc,qc,dc,s8,k21,Ne,wc⟩:=zTH (c:=c) (d:=d) (hz.le L7) (by omega) (by omega) hsh;have L8:=L7.trans Ne.le;obtain ⟨p9,c9,s9,k22,Nf,i9,_⟩:=zNY (c:=c2) (SlV.le i2 (Na.le.trans (Nb.le.trans (Nc.le.trans (Nd.le.trans Ne.le))))) (by omega);have L9:=L8.trans Nf.le;obtain ⟨p10,c10,s10,k23,Ng,i10,_⟩:=yBN (i:=(i:Int)) (c:=cc) (d:=dc) (rc:=c9) (wc.le Nf.le) hsh i9 (by omega) (by omega) (spz hf hln hor);have L10:=L9.trans Ng.le;obtain ⟨pd,cd,qd,dd,s11,k25,Nh,wd⟩:=zTH (c:=c) (d:=c3) (hxw.le L10) (by omega) (by omega) E.sh;have L11:=L10.trans Nh.le;have i2_11:yG s11 p2 l out:=SlV.le i2 (Na.le.trans (Nb.le.trans (Nc.le.trans (Nd.le.trans (Ne.le.trans (Nf.le.trans (Ng.le.trans Nh.le)))))));obtain ⟨p12,c12,s12,k26,Ni,i12,_⟩:=zNY (c:=c2) i2_11 (by omega);have L12:=L11.trans Ni.le;obtain ⟨p13,c13,s13,k27,Nj,i13,_⟩:=yBN (i:=(i:Int)) (c:=cd) (d:=dd) (rc:=c12) (wd.le Ni.le) E.sh i12 (by omega) (by omega) (spz E.ok hlx horx);have L13:=L12.trans Nj.le;obtain ⟨pe,ce,qe,de,s14,k29,Nk,we⟩:=zTH (c:=c) (d:=d) (hz.le L13) (by omega) (by omega) hsh;have L14:=L13.trans Nk.le;have i2_14:yG s14 p2 l out:=SlV.le i2_11 (Ni.le.trans (Nj.le.trans Nk.le));obtain ⟨p15,c15,s15,k30,Nl,i15,_⟩:=zNY (c:=c2) i2_14 (by omega);have L15:=L14.trans Nl.le;have k31:=zNC (c:=ce) (d:=de) (rc:=c15) (eQ:=0) (we.le Nl.le) hsh i15 (by omega);rw [Int.toNat_natCast] at k23 i10 k27 i13;have hsp:(xM w out i m).length<=1000:=by have:=zIT (w:=w) (rs:=out) (i:=i) (j:=m);omega
 have hsx:(xM x out i m).length<=1000:=by have:=zIT (w:=x) (rs:=out) (i:=i) (j:=m);omega
 have hmost:=E.most hs hln hm Bw Bx;have hL:∀ {s0:St},Le s13 s0->zHD p10 (xM w out i m).length c10 p13 (xM x out i m).length c13 0 s0 (fun _ _=>False) (fun _=>True):=by
  intro s0 h0;refine yCN (Inv:=fun k i29 y=>∃ j:Nat,i29=(j:Int)/\j+k=(xM w out i m).length/\Le s13 y) ?_ _ 0 s0 ⟨0,rfl,by rw [Nat.zero_add],h0⟩;rintro k i29 y ⟨j,rfl,hk,hle⟩;by_cases hj:j<(xM w out i m).length;rotate_left
  ·exact yOB trivial (by omega)
  have i10y:yG y p10 (xM w out i m).length (xM w out i m):=SlV.le i10 (Nh.le.trans (Ni.le.trans (Nj.le.trans hle)));obtain ⟨a,rfl,u,hu,ldu⟩:=wZ i10y hj;have g:=xWV (c:=c13) (n:=u) (SlV.le i13 hle) (by omega);rw [List.contains_iff_mem.2 (E.spares hs hln hm u (List.mem_of_getElem? hu))] at g;exact yOC ldu g ⟨k-1,by omega,j+1,by omega,by omega,hle⟩ (by omega) ⟨by omega,by omega⟩ ⟨by omega,by omega⟩
 have kr:∀ {s0:St} b y,False->zHE p10 (xM w out i m).length c10 p13 (xM x out i m).length c13 b y (fun v _=>v=.bool true):=fun b y hh=>hh.elim
 have k1:∀ y,True->zCZ p10 (xM w out i m).length c10 p13 (xM x out i m).length c13 y (fun v _=>v=.bool true):=fun y _=>yCK rfl
 have e5:zH z.y [.agg ⟨wkc w.days p l c q m d w.rest w.run w.hours⟩,.slice pw lw cw]:=zE (zMD (pab z (Le.refl _)) (qab z (Le.refl _))) (zE (yQ (wA (SlV.le hw Lz))) zI);have e6:zH s3.y [.pointer (some ⟨Z.y,1,none⟩)]:=zE (zO (bn s3 L3)) zI;have e7:∀ s,Le z s->zH s.y [.slice p l c]:=fun s hs=>zE (yQ (pab s hs)) zI
 have e8:∀ s:St,(zH s.y [.int .u8 dt]/\zM RD (iV dt)=true)/\yR Pg (evL [.int .u8 dt]) s (.convert 5 3 (.tmp 0))=some (iV dt):=fun s=>⟨⟨zE rfl zI,rfl⟩,xOP hdt⟩
 have e11:((⟨Z.y,1,none⟩:Addr).block<s3.y/\zM RD (.slice p l c)=true)/\zB Pg s3 22 ⟨Z.y,1,none⟩=some (.slice p l c):=⟨⟨bn s3 L3,rfl⟩,ldd s3 L3⟩;have e12:∀ s,Le z s->(zH s.y [.slice p l c]/\zM RD (iV ((l:Nat):Int))=true)/\Callee.builtin .len=Callee.builtin .len/\yR Pg (evL [.slice p l c]) s (.call { callee:=.builtin .len,args:=⟨xJ 1⟩,argTypes:=⟨[22]⟩ })=some (iV ((l:Nat):Int)):=fun s hs=>⟨⟨e7 s hs,rfl⟩,rfl,xTF⟩
 cases e:zCQ w out 0 with
 | false =>
  rw [e] at k31;exact yCL ⟨(ldw z (Le.refl _)),k2,(ldd s3 L3),rm,e5,e6,(e7 s3 L3),(e8 z),(e8 s3),(ldd z (Le.refl _)),e11,(e12 z (Le.refl _)),(e12 s3 L3),(ldw s3 L3),k15,k16,(ldx s5 L5),k18,k19,(ldw s7 L7),k21,k22,k23,(ldx s10 L10),k25,k26,k27,(ldw s13 L13),k29,k30⟩ k31 (hL (Nk.le.trans Nl.le)) (kr (s0:=z)) k1 ⟨by omega,by omega⟩ rfl rfl rfl rfl (by omega) (bn z (Le.refl _))
 | true =>
  rw [e] at k31;obtain ⟨pf,cf,qf,df,s16,k33,Nm,wf⟩:=zTH (c:=c) (d:=c3) (hxw.le L15) (by omega) (by omega) E.sh;have i2_16:yG s16 p2 l out:=SlV.le i2_14 (Nl.le.trans Nm.le);obtain ⟨p17,c17,s17,k34,Nn,i17,_⟩:=zNY (c:=c2) i2_16 (by omega);have k35:=zNC (c:=cf) (d:=df) (rc:=c17) (eQ:=0) (wf.le Nn.le) E.sh i17 (by omega);rw [E.prove hf hs hln hm e] at k35;exact yCM ⟨(ldw z (Le.refl _)),k2,(ldd s3 L3),rm,e5,e6,(e7 s3 L3),(e8 z),(e8 s3),(ldd z (Le.refl _)),e11,(e12 z (Le.refl _)),(e12 s3 L3),(ldw s3 L3),k15,k16,(ldx s5 L5),k18,k19,(ldw s7 L7),k21,k22,k23,(ldx s10 L10),k25,k26,k27,(ldw s13 L13),k29,k30⟩ k31 (ldx s15 L15) k33 k34 k35 (hL (Nk.le.trans (Nl.le.trans (Nm.le.trans Nn.le)))) (kr (s0:=z)) k1 ⟨by omega,by omega⟩ rfl rfl rfl rfl (by omega) (bn z (Le.refl _))
end
theorem xPJ {P:Program} {Z:St} {st xt e n m k b:Nat} {q:Option Addr} {xs:List Value} (T:AppT P st xt e n) (o:Own Z b [] n) (hs:SlP Z n q m xs) (h0:0<m) (hroom:m<=1073741824) (hc:xs.all cellB=true) :
  yC P st xt (.slice (some ⟨b,0,none⟩) 0 0) (.slice q m k) Z=some (.slice (some ⟨Z.y,0,none⟩) m (m+wY),Z.row xs n):=by
 obtain ⟨xd,hxd,hxi⟩:=T.src;obtain ⟨ei,z,hei,hz,hby,hrz,hzl⟩:=T.info;have hsrc:uE Z n z xd (.slice q m k)=some (m,xs):=by
  have:xY Z n (.slice q m k)=some (m,xs):=by
   obtain ⟨a,rfl,hr⟩:=hs.some h0;have hrd:=hr.rd;rw [hs.1] at hrd;simp [xY,hrd]
  unfold uE;cases xd with
  | int _=>cases hxi
  | _=>simp only [this]
 have hcond:(uM (0+m) n ei.bytes && xs.all cellB && Nat.beq xs.length (m*n) && zW RD z && Nat.beq z.cells.toList.length n)=true:=by
  unfold uM;rw [(zV _ _).2 (by omega),(zV _ _).2 T.le,(zV _ _).2 hby,hc,hs.1,Nat.beq_refl,hrz,hzl];rfl
 have he:yT 0=true:=(yS 0).2 wO;have hble:Nat.ble (0+m) 0=false:=by rw [Bool.eq_false_iff];intro e;have:=(zV _ _).1 e;omega
 have hrd:=o.rw.rd;have hrd0:yO Z ⟨b,0,none⟩ (0*n)=some []:=by rw [Nat.zero_mul];exact hrd
 have key:yC P st xt (.slice (some ⟨b,0,none⟩) 0 0) (.slice q m k) Z=some (.slice (some ⟨Z.y,0,none⟩) (0+m) (0+m+wY),Z.add (.cells ([]++xs) n [(0,([]++xs).length)] 1 false)):=by
  unfold yC;simp only [T.el,hxd,hei,hz,hsrc,hcond,cond_true,wU,zFY he,hble,cond_false,he,hrd0,yL]
 rw [key,Nat.zero_add];rfl
theorem xHS:AppT Tryz.prog 23 23 76 6:=zME (by kernel_rfl)
section
variable {Z:St} {w:Wk} {p q pw:Option Addr} {l m c d lw cw:Nat} {ws:List Int}
theorem yWW {Z:St} {vs:List Value} {xs:List Drv} (hl:xs.length=vs.length) (h:∀ (i:Nat) (x:Drv),xs[i]?=some x->∃ v,vs[i]?=some v/\yRS Z v x):(xF vs).all cellB=true:=by
 rw [List.all_eq_true];intro a ha;unfold xF at ha;obtain ⟨v,hv,ha⟩:=List.mem_flatMap.1 ha;obtain ⟨i,hi,rfl⟩:=List.getElem_of_mem hv;obtain ⟨v,g1,p,l,c,q,m,d,r,n,e,g2,_⟩:=h i xs[i] (List.getElem?_eq_getElem (by omega));rw [List.getElem?_eq_getElem hi] at g1;cases g1
 rw [g2] at ha;have ha:a∈zN p l c q m d r n e _ _ _:=ha;simp at ha;rcases ha with rfl | rfl | rfl | rfl | rfl | rfl <;> rfl
theorem yOA {wh dr dt bz:Int} (h:WkP Z 92 76 w p l q m) (ag:zIA Z 5 p l c) (av:DrvsA Z q m d w.drivers) (hw:SlV Tryz.prog Z 5 1 pw lw (ws.map yQT)) (hb:∀ x∈ws,0<=x/\x<=255) (hwh:0<=wh/\wh<=255) (hdr:0<=dr/\dr<=255) (hdt:0<=dt/\dt<=255) (hbz:0<=bz/\bz<=65535) :
  yKH Tryz.prog 15 13 [.agg ⟨wkc w.days p l c q m d w.rest w.run w.hours⟩,.slice pw lw cw,.int .u8 wh,.int .u8 dr,.int .u8 dt,.int .u16 bz] Z fun v _=>v=.bool true:=by
 have hln:=h.len.1;have hm:=h.len.2;obtain ⟨t1,ht1⟩:∃ t1,t1=Z.row (wkc w.days p l c q m d w.rest w.run w.hours) 6:=⟨_,rfl⟩;have n1:t1.y=Z.y+1:=by rw [ht1];rfl
 have L1:Le Z t1:=by rw [ht1];exact Le.row _ _ _
 have w1:Row t1 ⟨Z.y,0,none⟩ (wkc w.days p l c q m d w.rest w.run w.hours):=by rw [ht1];exact xP _ _ _
 have k1:=xTE (c:=c) (d:=d) (h.le L1);cases b0:zDX w with
 | false =>
  rw [b0] at k1;subst ht1;exact yVQ k1 rfl
 | true =>
 rw [b0] at k1;obtain ⟨hsh,hf,h8,h4⟩:=zCJ b0;by_cases hm0:m=0
 ·subst ht1;exact yVT k1 rfl (by omega)
 by_cases hl0:l=0
 ·subst ht1;exact yVS k1 rfl (by omega) (by omega)
 obtain ⟨vs,hvs,hvl,hvd⟩:=av.vs;have hvlen:vs.length=m:=hvs.2.1;have hcb:=yWW (Z:=Z) (vs:=vs) (by omega) hvd;obtain ⟨t2,ht2⟩:∃ t2,t2=t1.row (wkc 0 none 0 0 none 0 0 0 0 0) 6:=⟨_,rfl⟩;have n2:t2.y=Z.y+2:=by rw [ht2];show t1.y+1=_;omega
 have M2:New t1 t2:=by rw [ht2];exact New.row _ _ _
 have o2:Own t2 (Z.y+1) (wkc 0 none 0 0 none 0 0 0 0 0) 6:=by rw [ht2,<- n1];exact zC _ _ _
 obtain ⟨t3,ht3⟩:∃ t3,t3=t2.own (Z.y+1) (wkc w.days p l c q m d w.rest w.run w.hours) 6:=⟨_,rfl⟩;have n3:t3.y=Z.y+2:=by rw [ht3];exact n2
 have M3:New t1 t3:=by rw [ht3];exact M2.own (by omega)
 have o3:Own t3 (Z.y+1) (wkc w.days p l c q m d w.rest w.run w.hours) 6:=by rw [ht3];exact o2.put
 obtain ⟨t4,ht4⟩:∃ t4,t4=t3.row [] 6:=⟨_,rfl⟩;have n4:t4.y=Z.y+3:=by rw [ht4];show t3.y+1=_;omega
 have M4:New t1 t4:=by rw [ht4];exact M3.row'
 have o4:Own t4 (Z.y+1) (wkc w.days p l c q m d w.rest w.run w.hours) 6:=by rw [ht4];exact o3.row
 have e4:Own t4 (Z.y+2) [] 6:=by rw [ht4,<- n3];exact zC _ _ _
 have ap:=xPJ (P:=Tryz.prog) (k:=d) xHS e4 (SlV.le hvs (L1.trans M4.le)).1 (by omega) (by omega) hcb;rw [n4] at ap;obtain ⟨t5,ht5⟩:∃ t5,t5=t4.row (xF vs) 6:=⟨_,rfl⟩;have M5:New t1 t5:=by rw [ht5];exact M4.row'
 have o5:Own t5 (Z.y+1) (wkc w.days p l c q m d w.rest w.run w.hours) 6:=by rw [ht5];exact o4.row
 have d5:Own t5 (Z.y+3) (xF vs) 6:=by rw [ht5,<- n4];exact zC _ _ _
 rw [<- ht5] at ap;have st:=o5.store (P:=Tryz.prog) (k:=2) (t:=23) (v:=.slice (some ⟨Z.y+3,0,none⟩) m (m+wY)) (vs:=[.slice (some ⟨Z.y+3,0,none⟩) m (m+wY)]) (ds:=wkc w.days p l c (some ⟨Z.y+3,0,none⟩) m (m+wY) w.rest w.run w.hours) rfl xWN rfl (nle rfl) rfl;obtain ⟨t6,ht6⟩:∃ t6,t6=t5.own (Z.y+1) (wkc w.days p l c (some ⟨Z.y+3,0,none⟩) m (m+wY) w.rest w.run w.hours) 6:=⟨_,rfl⟩;have o6:Own t6 (Z.y+1) (wkc w.days p l c (some ⟨Z.y+3,0,none⟩) m (m+wY) w.rest w.run w.hours) 6:=by rw [ht6];exact o5.put
 have E:EzW t1 t6 w p l c m (m+wY) (Z.y+1) (Z.y+3) vs:=⟨SlV.le h.dty L1,hm,hvlen,fun i y hi=>by obtain ⟨v,g1,g2⟩:=hvd i y hi;exact ⟨v,g1,g2.le L1⟩,hvs.2.2,by rw [ht6];exact M5.own (by omega),o6,by rw [ht6];exact d5.own (by omega),by omega,by omega,by omega⟩;have ld:=o6.rw.ld (P:=Tryz.prog) (k:=2) (t:=23) zBF (v:=.slice (some ⟨Z.y+3,0,none⟩) m (m+wY)) rfl;obtain ⟨k,hk,ek⟩:∃ k:Nat,k<m/\dr.tmod (m:Int)=(k:Int):=by
  have e2:dr.tmod (m:Int)=dr % (m:Int):=Int.tmod_eq_emod_of_nonneg (by omega);have e3:=Int.emod_nonneg dr (show (m:Int)≠0 by omega);have e4:=Int.emod_lt_of_pos dr (show 0<(m:Int) by omega);exact ⟨(dr % (m:Int)).toNat,by omega,by omega⟩
 have rm:vP Tryz.prog .rem 3 (.tmp 55) (.tmp 58) (iV dr) (iV ((m:Nat):Int))=some (iV (k:Int)):=by rw [zRL (by omega),ek]
 have eB:bz.tmod 1500=bz % 1500:=Int.tmod_eq_emod_of_nonneg (by omega);have e8:wh.tmod 8=wh % 8:=Int.tmod_eq_emod_of_nonneg (by omega);have hG:=xGH (bM:=pw) (wl:=lw) (wc:=cw) (B1:=Z.y) (n:=bz.tmod 1500) (wh:=wh.tmod 8) (duty:=dt) b0 E hk (by omega) (by omega);have eA:(zJ ⟨Z.y+3,0,none⟩ (Int.toNat (k:Int)*6):Addr)=⟨Z.y+3,k*6,none⟩:=by rw [Int.toNat_natCast];simp [zJ]
 rw [<- eA] at hG;have hK:∀ s,EzX t1 s w p l c m (m+wY) (Z.y+1) (Z.y+3)->zAY pw lw cw dt Z.y (Z.y+1) (zJ ⟨Z.y+3,0,none⟩ (Int.toNat (k:Int)*6)) (bz.tmod 1500) (wh.tmod 8) s (fun v _=>v=.bool true):=fun s hs=>yPV (h.le L1) w1 (SlV.le hw L1) hb hdt b0 (by omega) hs
 subst ht6 ht4 ht3 ht2 ht1;exact yVR k1 ap st ld rm hG hK (by omega) (by omega) ⟨by omega,by omega⟩ ⟨by omega,by omega⟩ ⟨by omega,by omega⟩
end
end Go.Proofs.YtgfiniccfpfplaaGreat
