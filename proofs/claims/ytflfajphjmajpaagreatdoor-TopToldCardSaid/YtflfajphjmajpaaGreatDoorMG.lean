import Derived.Test.YtflfajphjmajpaaGreatDoorXA
import Derived.Test.YtflfajphjmajpaaGreatDoorSD
import Derived.Test.YtflfajphjmajpaaGreatDoorLayD
import Derived.Test.YtflfajphjmajpaaGreatDoorSO
import Derived.Test.YtflfajphjmajpaaGreatDoorNC
set_option linter.unusedVariables false
set_option maxRecDepth 20000
set_option linter.unusedSimpArgs false
namespace Go.Proofs.YtflfajphjmajpaaGreatDoor
open Go Go.Lay
open Tryz renaming prog -> Pg
section
noncomputable section
variable (slices b q1 l:oA) (bL:Int) (qA:Int->(Option Addr)->Nat->Nat->St->Prop) (cs1:lVa) (ac b_l l1 l_l ae b_c c1 l_c:Nat) (aW bh aD a7:oA) (q2:Int->St->Prop) (qK:Int->Int->Int->St->Prop) (q0:Int->Int->St->Prop) (aB aJ ao:Int) (q8:(Option Addr)->Nat->Nat->Int->St->Prop) (q9:(Option Addr)->Nat->Nat->St->Prop) (aX bi aA a8 aY bj aC ba:Nat) (aV aK aL bJ:Int) (Z:St) (Nx:(Option Addr)->Nat->Nat->Int->St->Prop) (qD qJ:Int->(Option Addr)->Nat->Nat->St->Prop) (q4:Int->Int->St->Prop) (Q:vPa) (qN:Int->Int->Int->St->Prop) (Q2 Q0:(Option Addr)->Nat->Nat->St->Prop) (q7:Int->St->Prop) (qO:Int->Int->St->Prop)
def yOP:Code:=(Code.part [1,1,0,1,0,0] (dj 46))
def zKN:lNa:=[(0,.slice slices ac ae),(3,iV aB),(9,.slice slices ac ae),(10,iV (ac:Int)),(11,iV aJ)]
def xDV:Alt:=⟨Int × Int,.normal,fun t=>zKN slices ac ae t.1 t.2,fun t=>[],fun t Z=>q0 t.1 t.2 Z⟩
def zZN:lNa:=[(0,.slice slices ac ae),(3,iV aB)]
def zNV:Alt:=⟨Int,(.exit 0),fun t=>zZN slices ac ae t,fun t=>[],fun t Z=>q2 t Z⟩
def zZR:Prop:=xK Pg dl none yOP 36 (zKN slices ac ae aB aJ) [] [xDV slices ac ae q4,zNV slices ac ae q7] Z
def yOR:Prop:=xO Pg dl none yOP 36 (zKN slices ac ae aB aJ) [] [zNV slices ac ae q7] Z
def zZP:Prop:=kZ dl (dj 46) [1,1,0,1,0] (dm 46 Q) (.exit 0) 36 (zZN slices ac ae aB) Z
def yOO:Code:=(Code.part [1,1,1,1,0,1,0,0] (dj 46))
def zKM:lNa:=[(6,.slice bh bi bj),(25,.slice slices ac ae),(26,iV (ac:Int)),(27,iV aV)]
def xDU:Alt:=⟨(Option Addr) × Nat × Nat × Int,.normal,fun t=>zKM slices ac ae t.1 t.2.1 t.2.2.1 t.2.2.2,fun t=>[],fun t Z=>q8 t.1 t.2.1 t.2.2.1 t.2.2.2 Z⟩
def zZM (slices:oA) (ac ae:Nat) (bh:oA) (bi bj:Nat):lNa:=[(6,.slice bh bi bj)]
def zNU:Alt:=⟨(Option Addr) × Nat × Nat,(.exit 2),fun t=>zZM slices ac ae t.1 t.2.1 t.2.2,fun t=>[],fun t Z=>q9 t.1 t.2.1 t.2.2 Z⟩
def zZQ:Prop:=xK Pg dl none yOO 36 (zKM slices ac ae bh bi bj aV) [] [xDU slices ac ae Nx,zNU slices ac ae Q2] Z
def yOQ:Prop:=xO Pg dl none yOO 36 (zKM slices ac ae bh bi bj aV) [] [zNU slices ac ae Q2] Z
def zZO:Prop:=kZ dl (dj 46) [1,1,1,1,0,1,0] (dm 46 Q) (.exit 2) 36 (zZM slices ac ae bh bi bj) Z
def yEK:Code:=(Code.part [1,0,0,0] (dj 82))
def zGP:lNa:=[(0,iV bL),(2,.slice aW aX aY)]
def yTM:Alt:=⟨Int × (Option Addr) × Nat × Nat,.normal,fun t=>zGP t.1 t.2.1 t.2.2.1 t.2.2.2,fun t=>[],fun t Z=>qA t.1 t.2.1 t.2.2.1 t.2.2.2 Z⟩
def zUA:lNa:=[(0,iV bL),(2,.slice aW aX aY)]
def zJR:Alt:=⟨Int × (Option Addr) × Nat × Nat,(.exit 0),fun t=>zUA t.1 t.2.1 t.2.2.1 t.2.2.2,fun t=>[],fun t Z=>qA t.1 t.2.1 t.2.2.1 t.2.2.2 Z⟩
def zRX:Prop:=xK Pg dl none yEK 19 (zGP bL aW aX aY) [] [yTM qD,zJR qJ] Z
def yEL:Prop:=xO Pg dl none yEK 19 (zGP bL aW aX aY) [] [zJR qJ] Z
def zUB:Prop:=kZ dl (dj 82) [1,0,0] (dm 82 Q) (.exit 0) 19 (zUA bL aW aX aY) Z
def yPL:Code:=(Code.part [1,1,0,1,0,0] (dj 83))
def zKP:lNa:=[(3,.int .u8 aB),(4,.int .u8 ao),(7,.slice b b_l b_c),(8,iV (b_l:Int)),(9,iV aK)]
def xEI:Alt:=⟨Int × Int × Int,.normal,fun t=>zKP b b_l b_c t.1 t.2.1 t.2.2,fun t=>[],fun t Z=>qK t.1 t.2.1 t.2.2 Z⟩
def yAC (b:oA) (b_l b_c:Nat) (aB ao:Int):lNa:=[(3,.int .u8 aB),(4,.int .u8 ao)]
def zOB:Alt:=⟨Int × Int,(.exit 0),fun t=>yAC b b_l b_c t.1 t.2,fun t=>[],fun t Z=>q0 t.1 t.2 Z⟩
def yAE:Prop:=xK Pg dl none yPL 23 (zKP b b_l b_c aB ao aK) [] [xEI b b_l b_c qN,zOB b b_l b_c qO] Z
def yPM:Prop:=xO Pg dl none yPL 23 (zKP b b_l b_c aB ao aK) [] [zOB b b_l b_c qO] Z
def yAD:Prop:=kZ dl (dj 83) [1,1,0,1,0] (dm 83 Q) (.exit 0) 23 (yAC b b_l b_c aB ao) Z
def zZE:Code:=(Code.part [1,1,0,1,0,0] (dj 47))
def zFD:lNa:=[(3,.slice aD aA aC),(8,de cs1),(9,iV aK)]
def yOB:Alt:=⟨(Option Addr) × Nat × Nat × Int,.normal,fun t=>zFD cs1 t.1 t.2.1 t.2.2.1 t.2.2.2,fun t=>[],fun t Z=>q8 t.1 t.2.1 t.2.2.1 t.2.2.2 Z⟩
def zQH (cs1:lVa) (aD:oA) (aA aC:Nat):lNa:=[(3,.slice aD aA aC)]
def zIL:Alt:=⟨(Option Addr) × Nat × Nat,(.exit 0),fun t=>zQH cs1 t.1 t.2.1 t.2.2,fun t=>[],fun t Z=>q9 t.1 t.2.1 t.2.2 Z⟩
def zNR:Prop:=xK Pg dl none zZE 30 (zFD cs1 aD aA aC aK) [] [yOB cs1 Nx,zIL cs1 Q0] Z
def zZF:Prop:=xO Pg dl none zZE 30 (zFD cs1 aD aA aC aK) [] [zIL cs1 Q0] Z
def zQI:Prop:=kZ dl (dj 47) [1,1,0,1,0] (dm 47 Q) (.exit 0) 30 (zQH cs1 aD aA aC) Z
def yNG:Code:=(Code.part [1,1,0,1,0,0] (dj 24))
def zKB:lNa:=[(3,.slice aD aA aC),(8,.slice q1 l1 c1),(9,iV (l1:Int)),(10,iV aL)]
def xCW:Alt:=⟨(Option Addr) × Nat × Nat × Int,.normal,fun t=>zKB q1 l1 c1 t.1 t.2.1 t.2.2.1 t.2.2.2,fun t=>[],fun t Z=>q8 t.1 t.2.1 t.2.2.1 t.2.2.2 Z⟩
def zYR (q1:oA) (l1 c1:Nat) (aD:oA) (aA aC:Nat):lNa:=[(3,.slice aD aA aC)]
def zNP:Alt:=⟨(Option Addr) × Nat × Nat,(.exit 0),fun t=>zYR q1 l1 c1 t.1 t.2.1 t.2.2,fun t=>[],fun t Z=>q9 t.1 t.2.1 t.2.2 Z⟩
def zKC:Prop:=xK Pg dl none yNG 31 (zKB q1 l1 c1 aD aA aC aL) [] [xCW q1 l1 c1 Nx,zNP q1 l1 c1 Q0] Z
def yNH:Prop:=xO Pg dl none yNG 31 (zKB q1 l1 c1 aD aA aC aL) [] [zNP q1 l1 c1 Q0] Z
def zYS:Prop:=kZ dl (dj 24) [1,1,0,1,0] (dm 24 Q) (.exit 0) 31 (zYR q1 l1 c1 aD aA aC) Z
def yHB:Code:=(Code.part [1,1,1,0,1,0,0] (dj 11))
def zHF:lNa:=[(5,.slice a7 a8 ba),(14,.slice l l_l l_c),(15,iV (l_l:Int)),(16,iV bJ)]
def yWU:Alt:=⟨(Option Addr) × Nat × Nat × Int,.normal,fun t=>zHF l l_l l_c t.1 t.2.1 t.2.2.1 t.2.2.2,fun t=>[],fun t Z=>q8 t.1 t.2.1 t.2.2.1 t.2.2.2 Z⟩
def zUV (l:oA) (l_l l_c:Nat) (a7:oA) (a8 ba:Nat):lNa:=[(5,.slice a7 a8 ba)]
def zLD:Alt:=⟨(Option Addr) × Nat × Nat,(.exit 0),fun t=>zUV l l_l l_c t.1 t.2.1 t.2.2,fun t=>[],fun t Z=>q9 t.1 t.2.1 t.2.2 Z⟩
def zTN:Prop:=xK Pg dl none yHB 27 (zHF l l_l l_c a7 a8 ba bJ) [] [yWU l l_l l_c Nx,zLD l l_l l_c Q0] Z
def yHC:Prop:=xO Pg dl none yHB 27 (zHF l l_l l_c a7 a8 ba bJ) [] [zLD l l_l l_c Q0] Z
def zUW:Prop:=kZ dl (dj 11) [1,1,1,0,1,0] (dm 11 Q) (.exit 0) 27 (zUV l l_l l_c a7 a8 ba) Z
end
variable {s q3 q5 q6 slices qE bh qM qP qG parts q1 aW qF qQ b aD qH qR qI qFB qB l a7 qC qL:oA} {s_l s_c l3 c3 l5 c5 l6 c6 ac ae lB cC bi bj lN cM lQ cP lG cG parts_l parts_c l1 c1 aX aY lH cF lI cQ b_l b_c aA aC lJ cK lR cR lK cH lHB cFB lC cB l_l l_c a8 ba lD cD lM cL:Nat} {n n1 n2 aB aJ aV aa au ab af r_A r_B bL zG zB zC ao aK nA zF aL nD bJ nE nC nG nF:Int} {Z4 Z ZZ ZJ Z2 ZB ZC ZM ZHB ZMB ZD ZL ZF:St} {Q:vPa} {Inv:Nat->(Option Addr)->Nat->Nat->Int->St->Prop} {Q0 P0 Q2 P2:(Option Addr)->Nat->Nat->St->Prop} {bM b_a bK l_a:Addr} {Nx:(Option Addr)->Nat->Nat->Int->St->Prop} {cs1:lVa}
theorem xLC (h1:xJ Pg (evL [.slice s s_l s_c]) Z (.call { callee:=.builtin .cap,args:=⟨wN 1⟩,argTypes:=⟨[49]⟩ })=some (iV n1)) (h2:xJ Pg (evL [.slice s s_l s_c]) Z (.call { callee:=.builtin .cap,args:=⟨wN 1⟩,argTypes:=⟨[49]⟩ })=some (iV n2)) (h3:xZ Pg Z 49 (.slice s s_l s_c) none (some (iV n2)) none=some (.slice q3 l3 c3)) (h4:yA Pg 49 3 (.slice q3 l3 c3) (iV (n-(n1-(s_l:Int)))) Z=some (.slice q5 l5 c5,Z4)) (h5:xZ Pg Z4 49 (.slice q5 l5 c5) none (some (iV (s_l:Int))) none=some (.slice q6 l6 c6)) (nx:Q (.slice q6 l6 c6) Z4) (u1:¬ n<0:=by omega) (u2:I6 (n1-(s_l:Int)):=by omega) (u3:I6 (n-(n1-(s_l:Int))):=by omega) (u4:0<(n-(n1-(s_l:Int))):=by omega):dq 80 [.slice s s_l s_c,iV n] Z Q :=
 zK [.g,.g,.b false,.g,.g,.v (iV n1),.g,.g,.n (n1-(s_l:Int)),.n (n-(n1-(s_l:Int))),.g,.g,.b true,.g,.g,.v (iV n2),.v (.slice q3 l3 c3),.g,.e (.slice q5 l5 c5) Z4,.g,.g,.v (.slice q6 l6 c6),.g,.g,.g] (kd (an3 (zY u1) h1 (w64 u2) (an6 (w64 u3) (zU u4) h2 h3 h4 h5 nx)))
theorem xLB (h1:xJ Pg (evL [.slice s s_l s_c]) Z (.call { callee:=.builtin .cap,args:=⟨wN 1⟩,argTypes:=⟨[49]⟩ })=some (iV n1)) (nx:Q (.slice s s_l s_c) Z) (u1:¬ n<0:=by omega) (u2:I6 (n1-(s_l:Int)):=by omega) (u3:I6 (n-(n1-(s_l:Int))):=by omega) (u4:¬ 0<(n-(n1-(s_l:Int))):=by omega):dq 80 [.slice s s_l s_c,iV n] Z Q :=
 zK [.g,.g,.b false,.g,.g,.v (iV n1),.g,.g,.n (n1-(s_l:Int)),.n (n-(n1-(s_l:Int))),.g,.g,.b false,.g,.g] (kd (an5 (zY u1) h1 (w64 u2) (w64 u3) (zY u4) nx))
theorem yON {Inv:Nat->Int->Int->St->Prop} {Q0:Int->St->Prop} (hb:∀ k aB aJ Z,Inv k aB aJ Z->zZR slices ac ae aB aJ Z (NX2 Inv k) Q0):∀ k aB aJ Z,Inv k aB aJ Z->yOR slices ac ae aB aJ Z Q0 :=
 zXS (ai (vN 0) trivial) hb
theorem xDT {Nx:Int->Int->St->Prop} {Q0:Int->St->Prop} (h1:dg Z 49 (zS bM (Int.toNat aJ*1)) (.slice qE lB cC)) (nx:Nx (aB+(lB:Int)) (aJ+1) Z) (u1:aJ<(ac:Int):=by omega) (u2:Ix aJ ac:=by omega) (u3:I6 (aB+(lB:Int)):=by omega) (u4:¬ (aB+(lB:Int))<0:=by omega) (u5:I6 (aJ+1):=by omega):zZR (some bM) ac ae aB aJ Z Nx Q0 :=
 kO 0 ((aB+(lB:Int)),aJ+1) [.b true,.i,.l (.slice qE lB cC),.g,.g,.g,.g,.n (aB+(lB:Int)),.g,.g,.b false,.n (aJ+1),.g] (fun _ f=>an6 (zU u1) u2 h1 (w64 u3) (zY u4) (w64 u5) f) nx
theorem xDS {Nx:Int->Int->St->Prop} {Q0:Int->St->Prop} (nx:Q0 aB Z) (u1:¬ aJ<(ac:Int):=by omega):zZR slices ac ae aB aJ Z Nx Q0 :=
 kO 1 aB [.b false] (fun _ f=>ai (zY u1) f) nx
theorem xMC {P0:Int->St->Prop} (hL:yOR slices ac ae 0 0 Z P0) (k0:∀ i3_1' Z',P0 i3_1' Z'->zZP slices ac ae i3_1' Z' Q):dq 46 [.slice slices ac ae] Z Q :=
 zK [.g,.g,.g,.g,.g,.lf 36 (zKN slices ac ae 0 0) [zNV slices ac ae P0]] (kd (ai (ai tt (ai (arf (zKN slices ac ae 0 0)) hL)) (ai (kz1 k0) trivial)))
theorem yOM (hb:∀ k bh bi bj aV Z,Inv k bh bi bj aV Z->zZQ slices ac ae bh bi bj aV Z (NX4 Inv k) Q2):∀ k bh bi bj aV Z,Inv k bh bi bj aV Z->yOQ slices ac ae bh bi bj aV Z Q2 :=
 zAS (ai (vN 2) trivial) hb
theorem xDR (h1:dg Z 49 (zS bM (Int.toNat aV*1)) (.slice qM lN cM)) (h2:yA Pg 49 49 (.slice bh bi bj) (.slice qM lN cM) Z=some (.slice qP lQ cP,ZZ)) (nx:Nx qP lQ cP (aV+1) ZZ) (u1:aV<(ac:Int):=by omega) (u2:Ix aV ac:=by omega) (u3:I6 (aV+1):=by omega):zZQ (some bM) ac ae bh bi bj aV Z Nx Q2 :=
 kO 0 (qP,lQ,cP,aV+1) [.b true,.i,.l (.slice qM lN cM),.g,.g,.g,.e (.slice qP lQ cP) ZZ,.g,.n (aV+1),.g] (fun _ f=>an5 (zU u1) u2 h1 h2 (w64 u3) f) nx
theorem xDQ (nx:Q2 bh bi bj Z) (u1:¬ aV<(ac:Int):=by omega):zZQ slices ac ae bh bi bj aV Z Nx Q2 :=
 kO 1 (bh,bi,bj) [.b false] (fun _ f=>ai (zY u1) f) nx
theorem yOL (h1:dh 80 [.slice none 0 0,iV aB] Z (.slice qG lG cG) ZJ) (hL:yOQ slices ac ae qG lG cG 0 ZJ P2) (k2:∀ p6_2' l6_2' c6_2' Z',P2 p6_2' l6_2' c6_2' Z'->zZO slices ac ae p6_2' l6_2' c6_2' Z' Q):zZP slices ac ae aB Z Q :=
 sK [.g,.c (.slice qG lG cG) ZJ,.g,.g,.g,.g,.lf 36 (zKM slices ac ae qG lG cG 0) [zNU slices ac ae P2]] (ai h1 (ai (ai tt (ai (arf (zKM slices ac ae qG lG cG 0)) hL)) (ai (kz3 k2) trivial)))
theorem yOK (nx:Q (.slice bh bi bj) Z):zZO slices ac ae bh bi bj Z Q :=
 sK [.g,.g] nx
theorem xQD (h1:dh 46 [.slice parts parts_l parts_c] Z (.slice q1 l1 c1) Z2) (nx:Q (.slice q1 l1 c1) Z2):dq 23 [.slice parts parts_l parts_c] Z Q :=
 zK [.g,.g,.c (.slice q1 l1 c1) Z2,.g] (kd (ai h1 nx))
theorem xDA:let y0:=zBP aa au ab af r_A r_B;let y1:=rcd aa au ab af r_A r_B;∀ (nx:Q (de y0) (((Z.row y1 6).row (zBP 0 0 0 0 0 0) 1).own (Z.y+1) y0 1)) (u1:I6 af:=by omega),dq 81 [de y1] Z Q :=
 let s1:=Z.row (rcd aa au ab af r_A r_B) 6;let s2:=s1.row (zBP 0 0 0 0 0 0) 1;let s3:=s2.own (Z.y+1) (zBP aa au ab af r_A r_B) 1;let y0:=zBP aa au ab af r_A r_B;fun nx u1=>zK [.g,.g,.g,.l (iV aa),.g,.l (iV au),.g,.l (iV ab),.g,.l (.int .u8 af),.n af,.g,.l (iV r_A),.g,.l (iV r_B),.g,.e undef s3,.l (de y0)] (kd (an3 ((zI _ _ _).row.rw.ld zT (k:=0) rfl:dg s2 3 (dc Z.y 0) (iV aa)) ((zI _ _ _).row.rw.ld zT (k:=1) rfl:dg s2 3 (dc Z.y 1) (iV au)) ((zI _ _ _).row.rw.ld zT (k:=2) rfl:dg s2 3 (dc Z.y 2) (iV ab)) (an6 ((zI _ _ _).row.rw.ld zGD (k:=3) rfl:dg s2 5 (dc Z.y 3) (.int .u8 af)) (w64 u1) ((zI _ _ _).row.rw.ld zT (k:=4) rfl:dg s2 3 (dc Z.y 4) (iV r_A)) ((zI _ _ _).row.rw.ld zT (k:=5) rfl:dg s2 3 (dc Z.y 5) (iV r_B)) ((zI _ _ _).store (vs:=y0) rfl yXQ rfl (nle rfl) rfl:di (evL [pq ((Z.y+1)) 0,de y0]) s2 (.store 129 (.tmp 0) (.tmp 1))=some (undef,s3)) ((zI _ _ _).put.rw.ldN xVM yXQ (k:=0) rfl rfl (nle rfl):dg s3 129 ⟨(Z.y+1),0,none⟩ (de y0)) nx)))
theorem yIF {Inv:Nat->Int->(Option Addr)->Nat->Nat->St->Prop} {Q0:Int->(Option Addr)->Nat->Nat->St->Prop} (hb:∀ k bL aW aX aY Z,Inv k bL aW aX aY Z->zRX bL aW aX aY Z (NX4 Inv k) Q0):∀ k bL aW aX aY Z,Inv k bL aW aX aY Z->yEL bL aW aX aY Z Q0 :=
 zAS (ai (vN 0) trivial) hb
theorem yTL {Nx:Int->(Option Addr)->Nat->Nat->St->Prop} {Q0:Int->(Option Addr)->Nat->Nat->St->Prop} (h1:vV .u8 ((Int.tmod bL 128))=zG) (h2:vV .u8 (Int.add zG 128)=zB) (h3:yA Pg 49 49 (.slice aW aX aY) (.slice (some (dc Z.y 0)) 1 1) (Z.row [.int .u8 zB] 1)=some (.slice qF lH cF,ZB)) (h4:IntKind.wrap .i64 (Int.tdiv bL 128)=Int.tdiv bL 128) (nx:Nx (Int.tdiv bL 128) qF lH cF ZB) (u1:127<bL:=by omega):zRX bL aW aX aY Z Nx Q0 :=
 kO 0 (Int.tdiv bL 128,qF,lH,cF) [.g,.b true,.g,.g,.g,.n zG,.n zB,.g,.e (.slice qF lH cF) ZB,.g,.g,.n (Int.tdiv bL 128),.g] (fun _ f=>an5 (zU u1) h1 h2 h3 h4 f) nx
theorem yTK {Nx:Int->(Option Addr)->Nat->Nat->St->Prop} {Q0:Int->(Option Addr)->Nat->Nat->St->Prop} (nx:Q0 bL aW aX aY Z) (u1:¬ 127<bL:=by omega):zRX bL aW aX aY Z Nx Q0 :=
 kO 1 (bL,aW,aX,aY) [.g,.b false] (fun _ f=>ai (zY u1) f) nx
theorem xBL {P0:Int->(Option Addr)->Nat->Nat->St->Prop} (hL:yEL n none 0 0 Z P0) (k0:∀ i0_1' p2_1' l2_1' c2_1' Z',P0 i0_1' p2_1' l2_1' c2_1' Z'->zUB i0_1' p2_1' l2_1' c2_1' Z' Q):dq 82 [iV n] Z Q :=
 zK [.g,.lf 19 (zGP n none 0 0) [zJR P0]] (kd (ai (ai tt (ai (arf (zGP n none 0 0)) hL)) (ai (kz4 k0) trivial)))
theorem yIE (h1:vV .u8 (bL)=zC) (h2:yA Pg 49 49 (.slice aW aX aY) (.slice (some (dc Z.y 0)) 1 1) (Z.row [.int .u8 zC] 1)=some (.slice qQ lI cQ,ZJ)) (nx:Q (.slice qQ lI cQ) ZJ):zUB bL aW aX aY Z Q :=
 sK [.g,.g,.n zC,.g,.e (.slice qQ lI cQ) ZJ,.g] (an2 h1 h2 nx)
theorem yPK {Inv:Nat->Int->Int->Int->St->Prop} {Q0:Int->Int->St->Prop} (hb:∀ k aB ao aK Z,Inv k aB ao aK Z->yAE b b_l b_c aB ao aK Z (NX3 Inv k) Q0):∀ k aB ao aK Z,Inv k aB ao aK Z->yPM b b_l b_c aB ao aK Z Q0 :=
 xUG (ai (vN 0) trivial) hb
theorem xEH {Nx:Int->Int->Int->St->Prop} {Q0:Int->Int->St->Prop} (h1:dg Z 5 (zS b_a (Int.toNat aK*1)) (.int .u8 nA)) (h2:vV .u8 (Int.add aB nA)=zB) (h3:vV .u8 (Int.add ao zB)=zF) (nx:Nx zB zF (aK+1) Z) (u1:aK<(b_l:Int):=by omega) (u2:Ix aK b_l:=by omega) (u3:I6 (aK+1):=by omega):yAE (some b_a) b_l b_c aB ao aK Z Nx Q0 :=
 kO 0 (zB,zF,aK+1) [.b true,.i,.l (.int .u8 nA),.g,.g,.g,.n zB,.g,.g,.g,.n zF,.g,.n (aK+1),.g] (fun _ f=>an6 (zU u1) u2 h1 h2 h3 (w64 u3) f) nx
theorem xEG {Nx:Int->Int->Int->St->Prop} {Q0:Int->Int->St->Prop} (nx:Q0 aB ao Z) (u1:¬ aK<(b_l:Int):=by omega):yAE b b_l b_c aB ao aK Z Nx Q0 :=
 kO 1 (aB,ao) [.b false] (fun _ f=>ai (zY u1) f) nx
theorem xMI {P0:Int->Int->St->Prop} (hL:yPM b b_l b_c 0 0 0 Z P0) (k0:∀ i3_1' i4_1' Z',P0 i3_1' i4_1' Z'->yAD b b_l b_c i3_1' i4_1' Z' Q):dq 83 [.slice b b_l b_c] Z Q :=
 zK [.g,.g,.g,.g,.g,.g,.lf 23 (zKP b b_l b_c 0 0 0) [zOB b b_l b_c P0]] (kd (ai (ai tt (ai (arf (zKP b b_l b_c 0 0 0)) hL)) (ai (kz2 k0) trivial)))
theorem yPJ (nx:Q (.slice (some (dc Z.y 0)) 2 2) (Z.row [.int .u8 aB,.int .u8 ao] 1)):yAD b b_l b_c aB ao Z Q :=
 sK [.g,.g,.g,.g] nx
theorem yCO (hb:∀ k aD aA aC aK Z,Inv k aD aA aC aK Z->zNR cs1 aD aA aC aK Z (NX4 Inv k) Q0):∀ k aD aA aC aK Z,Inv k aD aA aC aK Z->zZF cs1 aD aA aC aK Z Q0 :=
 zAS (ai (vN 0) trivial) hb
theorem yOA (h1:zDQ Pg 129 (de cs1) (iV aK)=some (iV nA)) (h2:dh 82 [iV nA] Z (.slice qH lJ cK) ZB) (h3:dh 23 [.slice (some (dc ZB.y 0)) 2 2] (ZB.row [.slice aD aA aC,.slice qH lJ cK] 1) (.slice qF lH cF) ZC) (nx:Nx qF lH cF (aK+1) ZC) (u1:aK<6:=by omega) (u2:I6 (aK+1):=by omega):zNR cs1 aD aA aC aK Z Nx Q0 :=
 kO 0 (qF,lH,cF,aK+1) [.b true,.v (iV nA),.g,.g,.g,.c (.slice qH lJ cK) ZB,.g,.c (.slice qF lH cF) ZC,.g,.n (aK+1),.g] (fun _ f=>an5 (zU u1) h1 h2 h3 (w64 u2) f) nx
theorem yNZ (nx:Q0 aD aA aC Z) (u1:¬ aK<6:=by omega):zNR cs1 aD aA aC aK Z Nx Q0 :=
 kO 1 (aD,aA,aC) [.b false] (fun _ f=>ai (zY u1) f) nx
theorem yVL:let s1:=Z.row (rcd aa au ab af r_A r_B) 6;∀ (h1:dh 81 [de (rcd aa au ab af r_A r_B)] s1 (de cs1) s1) (hL:zZF cs1 none 0 0 0 s1 P0) (k0:∀ p3_1' l3_1' c3_1' Z',P0 p3_1' l3_1' c3_1' Z'->zQI cs1 p3_1' l3_1' c3_1' Z' Q),dq 47 [de (rcd aa au ab af r_A r_B)] Z Q:=
 let s1:=Z.row (rcd aa au ab af r_A r_B) 6;fun h1 hL k0=>zK [.g,.g,.g,.l (de (rcd aa au ab af r_A r_B)),.c (de cs1) s1,.g,.lf 30 (zFD cs1 none 0 0 0) [zIL cs1 P0]] (kd (an2 ((zI _ _ _).rw.ldN uM yP (k:=0) rfl rfl (nle rfl):dg s1 64 (dc Z.y 0) (de (rcd aa au ab af r_A r_B))) h1 (ai (ai tt (ai (arf (zFD cs1 none 0 0 0)) hL)) (ai (kz3 k0) trivial))))
theorem yCN (h1:vV .u8 ((aA:Int))=zC) (h2:dh 23 [.slice (some ⟨(Z.y+1),0,none⟩) 2 2] ((Z.row [.int .u8 zC] 1).row [.slice (some (dc Z.y 0)) 1 1,.slice aD aA aC] 1) (.slice qR lR cR) ZM) (h3:dh 83 [.slice qR lR cR] ZM (.slice qI lK cH) ZHB) (h4:dh 23 [.slice (some (dc ZHB.y 0)) 2 2] (ZHB.row [.slice qR lR cR,.slice qI lK cH] 1) (.slice qFB lHB cFB) ZMB) (nx:Q (.slice qFB lHB cFB) ZMB):zQI cs1 aD aA aC Z Q :=
 sK [.g,.g,.n zC,.g,.g,.g,.c (.slice qR lR cR) ZM,.g,.g,.g,.c (.slice qI lK cH) ZHB,.g,.c (.slice qFB lHB cFB) ZMB,.g] (an4 h1 h2 h3 h4 nx)
theorem yNF (hb:∀ k aD aA aC aL Z,Inv k aD aA aC aL Z->zKC q1 l1 c1 aD aA aC aL Z (NX4 Inv k) Q0):∀ k aD aA aC aL Z,Inv k aD aA aC aL Z->yNH q1 l1 c1 aD aA aC aL Z Q0 :=
 zAS (ai (vN 0) trivial) hb
theorem xCV (h1:dg Z 5 (zS bK (Int.toNat aL*1)) (.int .u8 nA)) (h2:uP Pg .xor 5 (.tmp 21) (.const (.int .u8 32)) (.int .u8 nA) (.int .u8 32)=some (.int .u8 nD)) (h3:yA Pg 49 49 (.slice aD aA aC) (.slice (some (dc Z.y 0)) 2 2) (Z.row [.int .u8 125,.int .u8 nD] 1)=some (.slice qF lH cF,ZB)) (nx:Nx qF lH cF (aL+1) ZB) (u1:aL<(l1:Int):=by omega) (u2:Ix aL l1:=by omega) (u3:nA=126:=by omega) (u4:I6 (aL+1):=by omega):zKC (some bK) l1 c1 aD aA aC aL Z Nx Q0 :=
 kO 0 (qF,lH,cF,aL+1) [.b true,.i,.l (.int .u8 nA),.g,.g,.b true,.g,.g,.g,.g,.v (.int .u8 nD),.g,.e (.slice qF lH cF) ZB,.g,.n (aL+1),.g] (fun _ f=>ai (zU u1) (an6 u2 h1 (vT u3) h2 h3 (w64 u4) f)) nx
theorem xCU (h1:dg Z 5 (zS bK (Int.toNat aL*1)) (.int .u8 nA)) (h2:uP Pg .xor 5 (.tmp 21) (.const (.int .u8 32)) (.int .u8 nA) (.int .u8 32)=some (.int .u8 nD)) (h3:yA Pg 49 49 (.slice aD aA aC) (.slice (some (dc Z.y 0)) 2 2) (Z.row [.int .u8 125,.int .u8 nD] 1)=some (.slice qF lH cF,ZB)) (nx:Nx qF lH cF (aL+1) ZB) (u1:aL<(l1:Int):=by omega) (u2:Ix aL l1:=by omega) (u3:¬ nA=126:=by omega) (u4:nA=125:=by omega) (u5:I6 (aL+1):=by omega):zKC (some bK) l1 c1 aD aA aC aL Z Nx Q0 :=
 kO 0 (qF,lH,cF,aL+1) [.b true,.i,.l (.int .u8 nA),.g,.g,.b false,.g,.g,.b true,.g,.g,.g,.v (.int .u8 nD),.g,.e (.slice qF lH cF) ZB,.g,.n (aL+1),.g] (fun _ f=>an2 (zU u1) u2 (an6 h1 (vD u3) (vT u4) h2 h3 (w64 u5) f)) nx
theorem xCT (h1:dg Z 5 (zS bK (Int.toNat aL*1)) (.int .u8 nA)) (h2:yA Pg 49 49 (.slice aD aA aC) (.slice (some (dc Z.y 0)) 1 1) (Z.row [.int .u8 nA] 1)=some (.slice qB lC cB,ZD)) (nx:Nx qB lC cB (aL+1) ZD) (u1:aL<(l1:Int):=by omega) (u2:Ix aL l1:=by omega) (u3:¬ nA=126:=by omega) (u4:¬ nA=125:=by omega) (u5:I6 (aL+1):=by omega):zKC (some bK) l1 c1 aD aA aC aL Z Nx Q0 :=
 kO 0 (qB,lC,cB,aL+1) [.b true,.i,.l (.int .u8 nA),.g,.g,.b false,.g,.g,.b false,.g,.g,.g,.g,.e (.slice qB lC cB) ZD,.g,.n (aL+1),.g] (fun _ f=>ai (zU u1) (an6 u2 h1 (vD u3) (vD u4) h2 (w64 u5) f)) nx
theorem xCS (nx:Q0 aD aA aC Z) (u1:¬ aL<(l1:Int):=by omega):zKC q1 l1 c1 aD aA aC aL Z Nx Q0 :=
 kO 1 (aD,aA,aC) [.b false] (fun _ f=>ai (zY u1) f) nx
theorem xLH:let y0:=rcd aa au ab af r_A r_B;let y1:=some ⟨(Z.y+1),0,none⟩;∀ (h1:dh 47 [de y0] ((Z.row y0 6).row [.int .u8 126] 1) (.slice q1 l1 c1) Z2) (hL:yNH q1 l1 c1 y1 1 1 0 Z2 P0) (k0:∀ p3_1' l3_1' c3_1' Z',P0 p3_1' l3_1' c3_1' Z'->zYS q1 l1 c1 p3_1' l3_1' c3_1' Z' Q),dq 24 [de y0] Z Q :=
 let y0:=rcd aa au ab af r_A r_B;let y1:=some ⟨(Z.y+1),0,none⟩;fun h1 hL k0=>zK [.g,.g,.g,.g,.l (de y0),.c (.slice q1 l1 c1) Z2,.g,.g,.lf 31 (zKB q1 l1 c1 y1 1 1 0) [zNP q1 l1 c1 P0]] (kd (an2 ((zI _ _ _).row.rw.ldN uM yP (k:=0) rfl rfl (nle rfl):dg ((Z.row y0 6).row [.int .u8 126] 1) 64 (dc Z.y 0) (de y0)) h1 (ai (ai tt (ai (arf (zKB q1 l1 c1 y1 1 1 0)) hL)) (ai (kz3 k0) trivial))))
theorem yNE (nx:Q (.slice aD aA aC) Z):zYS q1 l1 c1 aD aA aC Z Q :=
 sK [.g,.g] nx
theorem xGA:let Y1:=Z.row [.slice l l_l l_c] 1;∀ (h1:dh 22 [.slice (some (dc Z.y 0)) 1 1] Y1 (iV n1) Y1) (nx:Q (.tuple ⟨[.slice none 0 0,iV n1]⟩) Y1) (u1:¬ n1=0:=by omega),dq 11 [.slice l l_l l_c] Z Q:=
 fun h1 nx u1=>zK [.g,.g,.g,.g,.c (iV n1) (Z.row [.slice l l_l l_c] 1),.g,.g,.b true,.g,.g,.g] (kd (an2 h1 (zDZ u1) nx))
theorem yJS (hb:∀ k a7 a8 ba bJ Z,Inv k a7 a8 ba bJ Z->zTN l l_l l_c a7 a8 ba bJ Z (NX4 Inv k) Q0):∀ k a7 a8 ba bJ Z,Inv k a7 a8 ba bJ Z->yHC l l_l l_c a7 a8 ba bJ Z Q0 :=
 zAS (ai (vN 0) trivial) hb
theorem yWT:let y0:=rcd nA nD nE nC nG nF;∀ (h1:dg Z 64 (zS l_a (Int.toNat bJ*6)) (de y0)) (h2:dh 24 [de y0] ((Z.row (rcd 0 0 0 0 0 0) 6).own Z.y y0 6) (.slice qC lD cD) ZL) (h3:dh 23 [.slice (some (dc ZL.y 0)) 2 2] (ZL.row [.slice a7 a8 ba,.slice qC lD cD] 1) (.slice qL lM cL) ZF) (nx:Nx qL lM cL (bJ+1) ZF) (u1:bJ<(l_l:Int):=by omega) (u2:Ix bJ l_l:=by omega) (u3:I6 (bJ+1):=by omega),zTN (some l_a) l_l l_c a7 a8 ba bJ Z Nx Q0 :=
 let s1:=Z.row (rcd 0 0 0 0 0 0) 6;let s2:=s1.own Z.y (rcd nA nD nE nC nG nF) 6;let y0:=rcd nA nD nE nC nG nF;fun h1 h2 h3 nx u1 u2 u3=>kO 0 (qL,lM,cL,bJ+1) [.b true,.i,.l (de y0),.g,.e undef s2,.g,.l (de y0),.c (.slice qC lD cD) ZL,.g,.c (.slice qL lM cL) ZF,.g,.n (bJ+1),.g] (fun _ f=>an2 (zU u1) u2 (an6 h1 ((zI _ _ _).store (vs:=y0) rfl yP rfl (nle rfl) rfl:di (evL [pq Z.y 0,de y0]) s1 (.store 64 (.tmp 0) (.tmp 1))=some (undef,s2)) ((zI _ _ _).put.rw.ldN uM yP (k:=0) rfl rfl (nle rfl):dg s2 64 (dc Z.y 0) (de y0)) h2 h3 (w64 u3) f)) nx
theorem yWS (nx:Q0 a7 a8 ba Z) (u1:¬ bJ<(l_l:Int):=by omega):zTN l l_l l_c a7 a8 ba bJ Z Nx Q0 :=
 kO 1 (a7,a8,ba) [.b false] (fun _ f=>ai (zY u1) f) nx
theorem xFZ:let Y1:=Z.row [.slice l l_l l_c] 1;∀ (h1:dh 22 [.slice (some (dc Z.y 0)) 1 1] Y1 (iV n1) Y1) (hL:yHC l l_l l_c none 0 0 0 Y1 P0) (k0:∀ p5_1' l5_1' c5_1' Z',P0 p5_1' l5_1' c5_1' Z'->zUW l l_l l_c p5_1' l5_1' c5_1' Z' Q) (u1:n1=0:=by omega),dq 11 [.slice l l_l l_c] Z Q:=
 fun h1 hL k0 u1=>zK [.g,.g,.g,.g,.c (iV n1) (Z.row [.slice l l_l l_c] 1),.g,.g,.b false,.g,.g,.g,.g,.lf 27 (zHF l l_l l_c none 0 0 0) [zLD l l_l l_c P0]] (kd (an2 h1 (xN u1) (ai (ai tt (ai (arf (zHF l l_l l_c none 0 0 0)) hL)) (ai (kz3 k0) trivial))))
theorem yJR (nx:Q (.tuple ⟨[.slice a7 a8 ba,iV 0]⟩) Z):zUW l l_l l_c a7 a8 ba Z Q :=
 sK [.g,.g,.g] nx
end
section
variable {p:Option Addr} {l N c:Nat} {rs:List (List Int)}
abbrev byV (n:Int):Value:=.int .u8 n
abbrev yV (Z:St) (p:Option Addr) (l:Nat) (bs:List Int):Prop:=SlV Pg Z 5 1 p l (bs.map byV)
theorem zCP (x:Int):zGZ Pg 5 1 (byV x):=.inl ⟨zGD,rfl,rfl⟩
theorem yAS:AppT Pg 49 49 5 1:=zBF (by kernel_rfl)
def zHD (Z:St) (p:Option Addr) (l:Nat) (rs:List (List Int)):Prop:=∃ vs:List Value,SlV Pg Z 49 1 p l vs/\rs.length=l/\∀ (i:Nat) (r:List Int),rs[i]?=some r->∃ q c,vs[i]?=some (Value.slice q r.length c)/\yV Z q r.length r
section
variable {Z:St}
theorem yV.len {xs:List Int} (h:yV Z p l xs):xs.length=l:=by have:=h.2.1;simpa using this
theorem zHD.le {Z':St} {p:Option Addr} {l:Nat} {rs:List (List Int)} (h:zHD Z p l rs) (k:Le Z Z'):zHD Z' p l rs:=by
 obtain ⟨vs,h1,h2,h3⟩:=h;exact ⟨vs,h1.le k,h2,fun i r hi=>by obtain ⟨q,c,g1,g2⟩:=h3 i r hi;exact ⟨q,c,g1,g2.le k⟩⟩
theorem zHD.len (h:zHD Z p l rs):rs.length=l:=h.choose_spec.2.1
theorem zHD.row {i:Nat} (h:zHD Z p l rs) (hi:i<l):∃ a,p=some a/\∃ r q c,rs[i]?=some r/\(∀ U,Le Z U->zH Pg U 49 (zS a (Int.toNat (i:Int)*1))=some (.slice q r.length c))/\yV Z q r.length r:=by
 obtain ⟨vs,h1,h2,h3⟩:=h;obtain ⟨a,rfl,_⟩:=h1.some hi;obtain ⟨q,c,g1,g2⟩:=h3 i rs[i] (by simp);exact ⟨a,rfl,rs[i],q,c,by simp,fun U hU=>(h1.le hU).at rfl g1,g2⟩
theorem zEI (zs:List Value):∀ N,(yL zs N).length=N*zs.length
 | 0=>by simp [yL]
 | N+1=>by simp [yL,zEI zs N,Nat.add_mul];omega
theorem zJE {zs:List Value} (h:zs.all cellB=true):∀ N,(yL zs N).all cellB=true
 | 0=>by simp [yL]
 | N+1=>by simp only [yL,List.all_append,zJE h N,h,Bool.and_self]
theorem yNK {α:Type} {f:α->Value} (hf:∀ x,(f x).cells.toList.all cellB=true) (r:List α):(wI (r.map f)).all cellB=true:=by
 induction r with
 | nil=>rfl
 | cons x r ih=>rw [List.map_cons,show f x::r.map f=[f x]++r.map f from rfl,zDF,List.all_append,ih,Bool.and_true];simpa [wI] using hf x

theorem xQK (hN:N<=1073741824):∃ p c Z',zJ Pg 80 [.slice none 0 0,iV (N:Int)] Z (.slice p 0 c) Z'/\New Z Z'/\Buf Z' Z.y 1 N p 0 c []:=by
 have k0:xJ Pg (evL [.slice none 0 0]) Z.re (.call { callee:=.builtin .cap,args:=⟨wN 1⟩,argTypes:=⟨[49]⟩ })=some (iV 0):=by kernel_rfl
 suffices hmain:zL Pg 80 [.slice none 0 0,iV (N:Int)] Z.re fun v s=>New Z.re s/\∃ p c,v=.slice p 0 c/\Buf s Z.y 1 N p 0 c [] by
  obtain ⟨v,Z',h1,h2,p,c,rfl,h3⟩:=zL.new hmain (by rintro v s s' ⟨p,c,rfl,h⟩ hl;exact ⟨p,c,rfl,h.le hl⟩) (by
   rintro v s hr ⟨p,c,rfl,h⟩;refine ⟨p,c,rfl, ?_⟩
   rcases h with ⟨rfl,e1,_,e2,_⟩ | ⟨b,bc,rfl,_⟩
   ·exact .inl ⟨rfl,e1,rfl,e2,rfl⟩
   ·exact Bool.noConfusion (show false=true from hr))
  exact ⟨p,c,Z',h1,h2,h3⟩
 rcases Nat.eq_zero_or_pos N with h0 | h0
 ·subst h0;exact xLB k0 ⟨New.refl _,none,0,rfl,Buf.nil⟩
 have hz:∃ ei z,Pg.info? 5=some ei/\ei.zero=some z/\ei.bytes<=4096/\zQ RD z=true/\Nat.beq z.cells.toList.length 1=true/\z.cells.toList=[.int .u8 0]:=⟨_,_,rfl,rfl,by decide,rfl,rfl,rfl⟩;obtain ⟨ei,z,hei,hz,hby,hrz,hzl,hzz⟩:=hz;have hzc:(yL z.cells.toList N).length=N*1:=by rw [hzz];exact zEI _ N
 have hcb:(yL z.cells.toList N).all cellB=true:=by rw [hzz];exact zJE rfl N
 have g:=yMV (P:=Pg) (Z:=Z.re) (st:=49) (xt:=3) (e:=5) (n:=1) (N:=N) (k:=.i64) (q:=.i64) (z:=z) (by kernel_rfl) (by kernel_rfl) hei hz hby hrz hzl (by omega) hN h0 hzc hcb;have o:Own (Z.re.row (yL z.cells.toList N) 1) Z.y (yL z.cells.toList N) 1:=zI _ _ _;have s3:xZ Pg Z.re 49 (.slice none 0 0) none (some (iV 0)) none=some (.slice none 0 0):=by kernel_rfl
 obtain ⟨c6,s6,e6⟩:=zWD (P:=Pg) (t:=49) (e:=5) (N:=N) (c:=N+vU) (q:=.i64) (by kernel_rfl) (by kernel_rfl) o h0 (wY N) (zDB N);exact xLC k0 k0 s3 (by simpa using g) (by simpa using s6) ⟨New.row _ _ _,some ⟨Z.y,0,none⟩,c6,rfl,.inr ⟨Z.y,_,rfl,e6,o,hzc,Nat.zero_le _,by simp,Nat.le_refl _,h0⟩⟩
def zRF (Z:St) (p:Option Addr) (len c:Nat):Prop:=match p with | none=>len=0 | some a=>zDG Z a 1=true/\len<=yE c
theorem zZC {U:St} {len:Nat} (h:zRF Z p len c) (hb:∀ k,AtP p k->yD U.heap k=yD Z.heap k):zRF U p len c:=by
 cases p with
 | none=>exact h
 | some a =>
  obtain ⟨h1,h2⟩:=h;refine ⟨?_,h2⟩
  unfold zDG at h1 ⊢;rw [hb a.block ⟨a,rfl,rfl⟩];exact h1
theorem xVB {n0 len:Nat} {cs:List Value} (h:Buf Z n0 1 N p len c cs):zRF Z p len c:=by
 rcases h with ⟨rfl,rfl,rfl,rfl,rfl⟩ | ⟨b,bc,rfl,h2,h3,h4,h5,h6,h7,h8⟩
 ·rfl
 ·exact ⟨by simp [zDG,h3.get,zZ,wR],by omega⟩
theorem zL.newCut {f:FuncId} {args:List Value} {len:Nat} {bs:List Int} {W:Value->Value} (hW:∀ p c,zQ RD (W (.slice p len c))=true->p=none) (h:zL Pg f args Z.re fun v s=>New Z.re s/\∃ p c,v=W (.slice p len c)/\yV s p len bs/\(∀ b,AtP p b->Z.y<=b)/\zRF s p len c) :
  ∃ p c Z',zJ Pg f args Z (W (.slice p len c)) Z'/\New Z Z'/\yV Z' p len bs/\(∀ b,AtP p b->Z.y<=b)/\zRF Z' p len c:=by
 obtain ⟨v,Z',h1,h2,p,c,rfl,h3,h4,h5⟩:=zL.new (Q:=fun v s=>∃ p c,v=W (.slice p len c)/\yV s p len bs/\(∀ b,AtP p b->Z.y<=b)/\zRF s p len c) h (by
  rintro v s s' ⟨p,c,rfl,g1,g2,g3⟩ hle;refine ⟨p,c,rfl,SlV.le g1 hle,g2,zZC g3 fun b hb=>hle.get b ?_⟩
  obtain ⟨a,rfl,rfl⟩:=hb;have hr:Row s a (wI (bs.map byV)):=g1.1.2;exact hr.lt) (by
  rintro v s hr ⟨p,c,rfl,g1,g2,g3⟩;obtain rfl:=hW p c hr;exact ⟨none,c,rfl,zAV g1,fun b hb=>(AtP.none hb).elim,g3⟩)
 exact ⟨p,c,Z',h1,h2,h3,h4,h5⟩
theorem xQZ (h:zHD Z p l rs) (hl:l<=1073741824) (hN:rs.flatten.length<=1073741824) :
  ∃ p' c' Z',zJ Pg 46 [.slice p l c] Z (.slice p' rs.flatten.length c') Z'/\New Z Z'/\yV Z' p' rs.flatten.length rs.flatten/\(∀ b,AtP p' b->Z.y<=b)/\zRF Z' p' rs.flatten.length c':=by
 have hlen:=h.len;have h0:=h.le (le0 Z);have hsum:∀ s,((rs.take s).flatten).length<=rs.flatten.length:=fun s=>by
  have e:rs.flatten.length=((rs.take s).flatten).length+((rs.drop s).flatten).length:=by rw [<- List.length_append,<- List.flatten_append,List.take_append_drop]
  omega
 refine zL.newCut (W:=id) (fun p c h=>by cases p with | none=>rfl | some a=>exact Bool.noConfusion (show false=true from h)) (xMC (P0:=fun n U=>U=Z.re/\n=(rs.flatten.length:Int)) (yON (Inv:=fun k n i U=>∃ s:Nat,i=s/\s+k=l/\U=Z.re/\n=(((rs.take s).flatten).length:Int)) ?_ l 0 0 Z.re ⟨0,rfl,by omega,rfl,by simp⟩) ?_)
 ·rintro k n i U ⟨s,rfl,hk,rfl,rfl⟩;by_cases hs:s<l;rotate_left
  ·exact xDS ⟨rfl,by rw [List.take_of_length_le (by omega)]⟩ (by omega)
  obtain ⟨a,rfl,r,q,d,hr,ld,hq⟩:=h0.row hs;have e1:((rs.take (s+1)).flatten).length=((rs.take s).flatten).length+r.length:=by rw [yM hr];simp
  have:=hsum (s+1);exact xDT (ld _ (Le.refl _)) ⟨k-1,by omega,s+1,by omega,by omega,rfl,by rw [e1];omega⟩ (by omega) (by omega) (by omega) (by omega) (by omega)
 ·rintro n U ⟨rfl,rfl⟩;obtain ⟨p1,c1,Z1,k1,n1,b1⟩:=xQK (Z:=Z.re) (N:=rs.flatten.length) hN;refine yOL k1 (P2:=fun p' l' c' U=>l'=rs.flatten.length/\New Z.re U/\Buf U Z.y 1 rs.flatten.length p' l' c' (wI (rs.flatten.map byV))) (yOM (Inv:=fun k p' l' c' i U=>∃ s:Nat,i=s/\s+k=l/\l'=((rs.take s).flatten).length/\New Z.re U/\Buf U Z.y 1 rs.flatten.length p' l' c' (wI (((rs.take s).flatten).map byV))) ?_ l p1 0 c1 0 Z1 ⟨0,rfl,by omega,rfl,n1,by simpa [wI] using b1⟩) ?_
  ·rintro k p' l' c' i U ⟨s,rfl,hk,rfl,hNw,hb⟩;by_cases hs:s<l;rotate_left
   ·rw [List.take_of_length_le (by omega)] at hb ⊢;exact xDQ ⟨rfl,hNw,hb⟩ (by omega)
   obtain ⟨a,rfl,r,q,d,hr,ld,hq⟩:=(h0.le hNw.le).row hs;have e1:((rs.take (s+1)).flatten).length=((rs.take s).flatten).length+r.length:=by rw [yM hr];simp
   have:=hsum (s+1);obtain ⟨U2,g1,g2,g3,g4,g5⟩:=hb.push (P:=Pg) (st:=49) (xt:=49) (e:=5) (m:=r.length) (d:=d) (q:=q) (xs:=wI (r.map byV)) (zBF (by kernel_rfl)) hq.1 (by omega) hN (yNK (fun _=>rfl) r);have N2:New Z.re U2:=hNw.of_only g3 (fun b hbb=>(hb.bd b hbb).1);refine xDR (ld _ (Le.refl _)) g1 ⟨k-1,by omega,s+1,by omega,by omega,by rw [e1],N2, ?_⟩ (by omega);rw [yM hr,List.flatten_append,List.map_append,zDF];simpa using g2
  ·rintro p' l' c' U ⟨rfl,hNw,hb⟩;exact yOK ⟨hNw,p',c',rfl,hb.slv (List.length_map _) (by intro v hv;obtain ⟨x,_,rfl⟩:=List.mem_map.1 hv;exact zCP x),fun b hbb=>(hb.bd b hbb).1,xVB hb⟩
end
end
section
noncomputable section
variable (slices vals:oA) (ac aR ae aT:Nat) (bh:oA) (q4:(Option Addr)->Nat->Nat->St->Prop) (aB i2_1 aj aJ:Int) (q0:Int->Int->St->Prop) (q2:(Option Addr)->Nat->Nat->Int->St->Prop) (q1:Int->St->Prop) (q8:St->Prop) (bi bj:Nat) (aV:Int) (Z:St) (Nx:Int->Int->St->Prop) (q9 Q0 Qr:Int->St->Prop) (Q:vPa) (q7:(Option Addr)->Nat->Nat->Int->St->Prop) (qA:St->Prop) (Q2:(Option Addr)->Nat->Nat->St->Prop)
def yOH:Code:=(Code.part [1,1,0,1,0,0] (dj 58))
def zKL:lNa:=[(0,.slice slices ac ae),(3,iV aB),(9,.slice slices ac ae),(10,iV (ac:Int)),(11,iV aJ)]
def xDP:Alt:=⟨Int × Int,.normal,fun t=>zKL slices ac ae t.1 t.2,fun t=>[],fun t Z=>q0 t.1 t.2 Z⟩
def zZH:lNa:=[(0,.slice slices ac ae),(3,iV aB)]
def zNT:Alt:=⟨Int,(.exit 0),fun t=>zZH slices ac ae t,fun t=>[],fun t Z=>q1 t Z⟩
def zZL:Prop:=xK Pg dl none yOH 36 (zKL slices ac ae aB aJ) [] [xDP slices ac ae Nx,zNT slices ac ae Q0] Z
def yOJ:Prop:=xO Pg dl none yOH 36 (zKL slices ac ae aB aJ) [] [zNT slices ac ae Q0] Z
def zZJ:Prop:=kZ dl (dj 58) [1,1,0,1,0] (dm 58 Q) (.exit 0) 36 (zZH slices ac ae aB) Z
def yOG:Code:=(Code.part [1,1,1,1,0,1,0,0] (dj 58))
def zKK:lNa:=[(6,.slice bh bi bj),(25,.slice slices ac ae),(26,iV (ac:Int)),(27,iV aV)]
def xDO:Alt:=⟨(Option Addr) × Nat × Nat × Int,.normal,fun t=>zKK slices ac ae t.1 t.2.1 t.2.2.1 t.2.2.2,fun t=>[],fun t Z=>q2 t.1 t.2.1 t.2.2.1 t.2.2.2 Z⟩
def zZG (slices:oA) (ac ae:Nat) (bh:oA) (bi bj:Nat):lNa:=[(6,.slice bh bi bj)]
def zNS:Alt:=⟨(Option Addr) × Nat × Nat,(.exit 2),fun t=>zZG slices ac ae t.1 t.2.1 t.2.2,fun t=>[],fun t Z=>q4 t.1 t.2.1 t.2.2 Z⟩
def zZK:Prop:=xK Pg dl none yOG 36 (zKK slices ac ae bh bi bj aV) [] [xDO slices ac ae q7,zNS slices ac ae Q2] Z
def yOI:Prop:=xO Pg dl none yOG 36 (zKK slices ac ae bh bi bj aV) [] [zNS slices ac ae Q2] Z
def zZI:Prop:=kZ dl (dj 58) [1,1,1,1,0,1,0] (dm 58 Q) (.exit 2) 36 (zZG slices ac ae bh bi bj) Z
def yPE:Code:=(Code.part [1,1,0,1,0,0] (dj 61))
def zKO:lNa:=[(3,iV 0),(6,.slice vals aR aT),(7,iV (aR:Int)),(8,iV aj)]
def xEC:Alt:=⟨Int,.normal,fun t=>zKO vals aR aT t,fun t=>[],fun t Z=>q1 t Z⟩
def zZW (vals:oA) (aR aT:Nat) (i2_1:Int):lNa:=[(2,iV i2_1)]
def zNZ:Alt:=⟨Int,.ret,fun t=>zZW vals aR aT t,fun t=>[],fun t Z=>q1 t Z⟩
def zZX (vals:oA) (aR aT:Nat):lNa:=[(3,iV 0)]
def zOA:Alt:=⟨Unit,(.exit 0),fun t=>zZX vals aR aT,fun t=>[],fun t Z=>q8 Z⟩
def zQP:Prop:=xK Pg dl none yPE 18 (zKO vals aR aT aj) [] [xEC vals aR aT q9,zNZ vals aR aT Qr,zOA vals aR aT qA] Z
def yPF:Prop:=xO Pg dl none yPE 18 (zKO vals aR aT aj) [] [zNZ vals aR aT Qr,zOA vals aR aT qA] Z
def zZY:Prop:=kZ dl (dj 61) [1,1,0,1,0] (dm 61 Q) .ret 18 (zZW vals aR aT i2_1) Z
def zZZ:Prop:=kZ dl (dj 61) [1,1,0,1,0] (dm 61 Q) (.exit 0) 18 (zZX vals aR aT) Z
end
variable {slices qE bh qM qP qG s q3 q5 q6 vals:oA} {ac ae lB cC bi bj lN cM lQ cP lG cG s_l s_c l3 c3 l5 c5 l6 c6 aR aT:Nat} {Inv:Nat->Int->Int->St->Prop} {Q0:St->Prop} {aB aJ aV n n1 n2 aj nA i2_1 bb bI bW cg a_0_A a_0_B br b9 ce b_Kind b_A b_B:Int} {bM vals_a:Addr} {Z ZZ ZJ Z4:St} {Nx P0 Qr Pr:Int->St->Prop} {Q:vPa} {Q2 P2:(Option Addr)->Nat->Nat->St->Prop}
theorem yOF {Q0:Int->St->Prop} (hb:∀ k aB aJ Z,Inv k aB aJ Z->zZL slices ac ae aB aJ Z (NX2 Inv k) Q0):∀ k aB aJ Z,Inv k aB aJ Z->yOJ slices ac ae aB aJ Z Q0 :=
 zXS (ai (vN 0) trivial) hb
theorem xDN {Nx:Int->Int->St->Prop} {Q0:Int->St->Prop} (h1:dg Z 52 (zS bM (Int.toNat aJ*1)) (.slice qE lB cC)) (nx:Nx (aB+(lB:Int)) (aJ+1) Z) (u1:aJ<(ac:Int):=by omega) (u2:Ix aJ ac:=by omega) (u3:I6 (aB+(lB:Int)):=by omega) (u4:¬ (aB+(lB:Int))<0:=by omega) (u5:I6 (aJ+1):=by omega):zZL (some bM) ac ae aB aJ Z Nx Q0 :=
 kO 0 ((aB+(lB:Int)),aJ+1) [.b true,.i,.l (.slice qE lB cC),.g,.g,.g,.g,.n (aB+(lB:Int)),.g,.g,.b false,.n (aJ+1),.g] (fun _ f=>an6 (zU u1) u2 h1 (w64 u3) (zY u4) (w64 u5) f) nx
theorem xDM {Nx:Int->Int->St->Prop} {Q0:Int->St->Prop} (nx:Q0 aB Z) (u1:¬ aJ<(ac:Int):=by omega):zZL slices ac ae aB aJ Z Nx Q0 :=
 kO 1 aB [.b false] (fun _ f=>ai (zY u1) f) nx
theorem xMB (hL:yOJ slices ac ae 0 0 Z P0) (k0:∀ i3_1' Z',P0 i3_1' Z'->zZJ slices ac ae i3_1' Z' Q):dq 58 [.slice slices ac ae] Z Q :=
 zK [.g,.g,.g,.g,.g,.lf 36 (zKL slices ac ae 0 0) [zNT slices ac ae P0]] (kd (ai (ai tt (ai (arf (zKL slices ac ae 0 0)) hL)) (ai (kz1 k0) trivial)))
theorem yOE {Inv:Nat->(Option Addr)->Nat->Nat->Int->St->Prop} (hb:∀ k bh bi bj aV Z,Inv k bh bi bj aV Z->zZK slices ac ae bh bi bj aV Z (NX4 Inv k) Q2):∀ k bh bi bj aV Z,Inv k bh bi bj aV Z->yOI slices ac ae bh bi bj aV Z Q2 :=
 zAS (ai (vN 2) trivial) hb
theorem xDL {Nx:(Option Addr)->Nat->Nat->Int->St->Prop} (h1:dg Z 52 (zS bM (Int.toNat aV*1)) (.slice qM lN cM)) (h2:yA Pg 52 52 (.slice bh bi bj) (.slice qM lN cM) Z=some (.slice qP lQ cP,ZZ)) (nx:Nx qP lQ cP (aV+1) ZZ) (u1:aV<(ac:Int):=by omega) (u2:Ix aV ac:=by omega) (u3:I6 (aV+1):=by omega):zZK (some bM) ac ae bh bi bj aV Z Nx Q2 :=
 kO 0 (qP,lQ,cP,aV+1) [.b true,.i,.l (.slice qM lN cM),.g,.g,.g,.e (.slice qP lQ cP) ZZ,.g,.n (aV+1),.g] (fun _ f=>an5 (zU u1) u2 h1 h2 (w64 u3) f) nx
theorem xDK {Nx:(Option Addr)->Nat->Nat->Int->St->Prop} (nx:Q2 bh bi bj Z) (u1:¬ aV<(ac:Int):=by omega):zZK slices ac ae bh bi bj aV Z Nx Q2 :=
 kO 1 (bh,bi,bj) [.b false] (fun _ f=>ai (zY u1) f) nx
theorem yOD (h1:dh 88 [.slice none 0 0,iV aB] Z (.slice qG lG cG) ZJ) (hL:yOI slices ac ae qG lG cG 0 ZJ P2) (k2:∀ p6_2' l6_2' c6_2' Z',P2 p6_2' l6_2' c6_2' Z'->zZI slices ac ae p6_2' l6_2' c6_2' Z' Q):zZJ slices ac ae aB Z Q :=
 sK [.g,.c (.slice qG lG cG) ZJ,.g,.g,.g,.g,.lf 36 (zKK slices ac ae qG lG cG 0) [zNS slices ac ae P2]] (ai h1 (ai (ai tt (ai (arf (zKK slices ac ae qG lG cG 0)) hL)) (ai (kz3 k2) trivial)))
theorem yOC (nx:Q (.slice bh bi bj) Z):zZI slices ac ae bh bi bj Z Q :=
 sK [.g,.g] nx
theorem xLA (h1:xJ Pg (evL [.slice s s_l s_c]) Z (.call { callee:=.builtin .cap,args:=⟨wN 1⟩,argTypes:=⟨[52]⟩ })=some (iV n1)) (h2:xJ Pg (evL [.slice s s_l s_c]) Z (.call { callee:=.builtin .cap,args:=⟨wN 1⟩,argTypes:=⟨[52]⟩ })=some (iV n2)) (h3:xZ Pg Z 52 (.slice s s_l s_c) none (some (iV n2)) none=some (.slice q3 l3 c3)) (h4:yA Pg 52 3 (.slice q3 l3 c3) (iV (n-(n1-(s_l:Int)))) Z=some (.slice q5 l5 c5,Z4)) (h5:xZ Pg Z4 52 (.slice q5 l5 c5) none (some (iV (s_l:Int))) none=some (.slice q6 l6 c6)) (nx:Q (.slice q6 l6 c6) Z4) (u1:¬ n<0:=by omega) (u2:I6 (n1-(s_l:Int)):=by omega) (u3:I6 (n-(n1-(s_l:Int))):=by omega) (u4:0<(n-(n1-(s_l:Int))):=by omega):dq 88 [.slice s s_l s_c,iV n] Z Q :=
 zK [.g,.g,.b false,.g,.g,.v (iV n1),.g,.g,.n (n1-(s_l:Int)),.n (n-(n1-(s_l:Int))),.g,.g,.b true,.g,.g,.v (iV n2),.v (.slice q3 l3 c3),.g,.e (.slice q5 l5 c5) Z4,.g,.g,.v (.slice q6 l6 c6),.g,.g,.g] (kd (an3 (zY u1) h1 (w64 u2) (an6 (w64 u3) (zU u4) h2 h3 h4 h5 nx)))
theorem xKZ (h1:xJ Pg (evL [.slice s s_l s_c]) Z (.call { callee:=.builtin .cap,args:=⟨wN 1⟩,argTypes:=⟨[52]⟩ })=some (iV n1)) (nx:Q (.slice s s_l s_c) Z) (u1:¬ n<0:=by omega) (u2:I6 (n1-(s_l:Int)):=by omega) (u3:I6 (n-(n1-(s_l:Int))):=by omega) (u4:¬ 0<(n-(n1-(s_l:Int))):=by omega):dq 88 [.slice s s_l s_c,iV n] Z Q :=
 zK [.g,.g,.b false,.g,.g,.v (iV n1),.g,.g,.n (n1-(s_l:Int)),.n (n-(n1-(s_l:Int))),.g,.g,.b false,.g,.g] (kd (an5 (zY u1) h1 (w64 u2) (w64 u3) (zY u4) nx))
theorem yPD {Inv:Nat->Int->St->Prop} (hb:∀ k aj Z,Inv k aj Z->zQP vals aR aT aj Z (NX1 Inv k) Qr Q0):∀ k aj Z,Inv k aj Z->yPF vals aR aT aj Z Qr Q0 :=
 uH (ai zAW (ai (vN 0) trivial)) hb
theorem xEB (h1:dg Z 3 (zS vals_a (Int.toNat aj*1)) (iV nA)) (nx:Qr nA Z) (u1:aj<(aR:Int):=by omega) (u2:Ix aj aR:=by omega) (u3:¬ nA=0:=by omega):zQP (some vals_a) aR aT aj Z Nx Qr Q0 :=
 kO 1 nA [.b true,.i,.l (iV nA),.g,.g,.g,.b true,.g,.g] (fun _ f=>an4 (zU u1) u2 h1 (zDZ u3) f) nx
theorem xEA (h1:dg Z 3 (zS vals_a (Int.toNat aj*1)) (iV nA)) (nx:Nx (aj+1) Z) (u1:aj<(aR:Int):=by omega) (u2:Ix aj aR:=by omega) (u3:nA=0:=by omega) (u4:I6 (aj+1):=by omega):zQP (some vals_a) aR aT aj Z Nx Qr Q0 :=
 kO 0 (aj+1) [.b true,.i,.l (iV nA),.g,.g,.g,.b false,.n (aj+1),.g] (fun _ f=>an5 (zU u1) u2 h1 (xN u3) (w64 u4) f) nx
theorem xDZ (nx:Q0 Z) (u1:¬ aj<(aR:Int):=by omega):zQP vals aR aT aj Z Nx Qr Q0 :=
 kO 2 () [.b false] (fun _ f=>ai (zY u1) f) nx
theorem xME {P0:St->Prop} (hL:yPF vals aR aT 0 Z Pr P0) (kr:∀ i2_1' Z',Pr i2_1' Z'->zZY vals aR aT i2_1' Z' Q) (k0:∀ Z',P0 Z'->zZZ vals aR aT Z' Q):dq 61 [.slice vals aR aT] Z Q :=
 zK [.g,.g,.g,.g,.g,.lf 18 (zKO vals aR aT 0) [zNZ vals aR aT Pr,zOA vals aR aT P0]] (kd (ai (ai tt (ai (arf (zKO vals aR aT 0)) hL)) (ai (kz1 kr) (ai (kz0 k0) trivial))))
theorem yPB (nx:Q (iV i2_1) Z):zZY vals aR aT i2_1 Z Q :=
 sK [] nx
theorem yPC (nx:Q (iV 0) Z):zZZ vals aR aT Z Q :=
 sK [.g,.g] nx
theorem xRK:let s1:=Z.row (rcd bb bI bW cg a_0_A a_0_B) 6;let s2:=s1.row (rcd br b9 ce b_Kind b_A b_B) 6;let s3:=bb-br;let Y1:=s2.row [iV s3,iV (bI-b9)] 1;∀ (h1:dh 61 [.slice (some ⟨(Z.y+2),0,none⟩) 2 2] Y1 (iV n1) Y1) (nx:Q (iV n1) Y1) (u1:I6 s3:=by omega) (u2:I6 (bI-b9):=by omega),dq 60 [de (rcd bb bI bW cg a_0_A a_0_B),de (rcd br b9 ce b_Kind b_A b_B)] Z Q:=
 let s1:=Z.row (rcd bb bI bW cg a_0_A a_0_B) 6;let s2:=s1.row (rcd br b9 ce b_Kind b_A b_B) 6;let s3:=bb-br;fun h1 nx u1 u2=>zK [.g,.g,.g,.g,.l (iV bb),.g,.l (iV br),.n s3,.g,.l (iV bI),.g,.l (iV b9),.n (bI-b9),.g,.c (iV n1) (s2.row [iV s3,iV (bI-b9)] 1),.g] (kd (ai ((zI _ _ _).row.rw.ld zT (k:=0) rfl:dg s2 3 (dc Z.y 0) (iV bb)) (an6 ((zI _ _ _).rw.ld zT (k:=0) rfl:dg s2 3 ⟨(Z.y+1),0,none⟩ (iV br)) (w64 u1) ((zI _ _ _).row.rw.ld zT (k:=1) rfl:dg s2 3 (dc Z.y 1) (iV bI)) ((zI _ _ _).rw.ld zT (k:=1) rfl:dg s2 3 ⟨(Z.y+1),1,none⟩ (iV b9)) (w64 u2) h1 nx)))
end
section
variable {Z:St}

theorem xQJ {N:Nat} (hN:N<=1073741824):∃ p c Z',zJ Pg 88 [.slice none 0 0,iV (N:Int)] Z (.slice p 0 c) Z'/\New Z Z'/\Buf Z' Z.y 6 N p 0 c []:=by
 have k0:xJ Pg (evL [.slice none 0 0]) Z.re (.call { callee:=.builtin .cap,args:=⟨wN 1⟩,argTypes:=⟨[52]⟩ })=some (iV 0):=by kernel_rfl
 suffices hmain:zL Pg 88 [.slice none 0 0,iV (N:Int)] Z.re fun v s=>New Z.re s/\∃ p c,v=.slice p 0 c/\Buf s Z.y 6 N p 0 c [] by
  obtain ⟨v,Z',h1,h2,p,c,rfl,h3⟩:=zL.new hmain (by rintro v s s' ⟨p,c,rfl,h⟩ hl;exact ⟨p,c,rfl,h.le hl⟩) (by
   rintro v s hr ⟨p,c,rfl,h⟩;refine ⟨p,c,rfl, ?_⟩
   rcases h with ⟨rfl,e1,_,e2,_⟩ | ⟨b,bc,rfl,_⟩
   ·exact .inl ⟨rfl,e1,rfl,e2,rfl⟩
   ·exact Bool.noConfusion (show false=true from hr))
  exact ⟨p,c,Z',h1,h2,h3⟩
 rcases Nat.eq_zero_or_pos N with h0 | h0
 ·subst h0;exact xKZ k0 ⟨New.refl _,none,0,rfl,Buf.nil⟩
 have hz:∃ ei z,Pg.info? 64=some ei/\ei.zero=some z/\ei.bytes<=4096/\zQ RD z=true/\Nat.beq z.cells.toList.length 6=true/\z.cells.toList=rcd 0 0 0 0 0 0:=⟨_,_,rfl,rfl,by decide,rfl,rfl,rfl⟩;obtain ⟨ei,z,hei,hz,hby,hrz,hzl,hzz⟩:=hz;have hzc:(yL z.cells.toList N).length=N*6:=by rw [hzz];exact zEI _ N
 have hcb:(yL z.cells.toList N).all cellB=true:=by rw [hzz];exact zJE rfl N
 have g:=yMV (P:=Pg) (Z:=Z.re) (st:=52) (xt:=3) (e:=64) (n:=6) (N:=N) (k:=.i64) (q:=.i64) (z:=z) (by kernel_rfl) (by kernel_rfl) hei hz hby hrz hzl (by omega) hN h0 hzc hcb;have o:Own (Z.re.row (yL z.cells.toList N) 6) Z.y (yL z.cells.toList N) 6:=zI _ _ _;have s3:xZ Pg Z.re 52 (.slice none 0 0) none (some (iV 0)) none=some (.slice none 0 0):=by kernel_rfl
 obtain ⟨c6,s6,e6⟩:=zWD (P:=Pg) (t:=52) (e:=64) (N:=N) (c:=N+vU) (q:=.i64) (by kernel_rfl) (by kernel_rfl) o h0 (wY N) (zDB N);exact xLA k0 k0 s3 (by simpa using g) (by simpa using s6) ⟨New.row _ _ _,some ⟨Z.y,0,none⟩,c6,rfl,.inr ⟨Z.y,_,rfl,e6,o,hzc,Nat.zero_le _,by simp,Nat.le_refl _,h0⟩⟩
theorem xQY {p:Option Addr} {l c:Nat} {rs:List (List Rec)} (h:zDI Z 52 64 p l rs) (hl:l<=1073741824) (hN:rs.flatten.length<=1073741824) :
  ∃ p' c' Z',zJ Pg 58 [.slice p l c] Z (.slice p' rs.flatten.length c') Z'/\New Z Z'/\wB Z' 64 p' rs.flatten.length rs.flatten/\∀ b,AtP p' b->Z.y<=b:=by
 have hlen:=h.len;have h0:=h.le (le0 Z);have hsum:∀ s,((rs.take s).flatten).length<=rs.flatten.length:=fun s=>by
  have e:rs.flatten.length=((rs.take s).flatten).length+((rs.drop s).flatten).length:=by rw [<- List.length_append,<- List.flatten_append,List.take_append_drop]
  omega
 refine zL.newSl (xMB (P0:=fun n U=>U=Z.re/\n=(rs.flatten.length:Int)) (yOF (Inv:=fun k n i U=>∃ s:Nat,i=s/\s+k=l/\U=Z.re/\n=(((rs.take s).flatten).length:Int)) ?_ l 0 0 Z.re ⟨0,rfl,by omega,rfl,by simp⟩) ?_)
 ·rintro k n i U ⟨s,rfl,hk,rfl,rfl⟩;by_cases hs:s<l;rotate_left
  ·exact xDM ⟨rfl,by rw [List.take_of_length_le (by omega)]⟩ (by omega)
  obtain ⟨a,rfl,r,q,d,hr,ld,hq⟩:=h0.row hs;have e1:((rs.take (s+1)).flatten).length=((rs.take s).flatten).length+r.length:=by rw [yM hr];simp
  have:=hsum (s+1);exact xDN (ld _ (Le.refl _)) ⟨k-1,by omega,s+1,by omega,by omega,rfl,by rw [e1];omega⟩ (by omega) (by omega) (by omega) (by omega) (by omega)
 ·rintro n U ⟨rfl,rfl⟩;obtain ⟨p1,c1,Z1,k1,n1,b1⟩:=xQJ (Z:=Z.re) (N:=rs.flatten.length) hN;refine yOD k1 (P2:=fun p' l' c' U=>l'=rs.flatten.length/\New Z.re U/\Buf U Z.y 6 rs.flatten.length p' l' c' (wI (rs.flatten.map xT))) (yOE (Inv:=fun k p' l' c' i U=>∃ s:Nat,i=s/\s+k=l/\l'=((rs.take s).flatten).length/\New Z.re U/\Buf U Z.y 6 rs.flatten.length p' l' c' (wI (((rs.take s).flatten).map xT))) ?_ l p1 0 c1 0 Z1 ⟨0,rfl,by omega,rfl,n1,by simpa [wI] using b1⟩) ?_
  ·rintro k p' l' c' i U ⟨s,rfl,hk,rfl,hNw,hb⟩;by_cases hs:s<l;rotate_left
   ·rw [List.take_of_length_le (by omega)] at hb ⊢;exact xDK ⟨rfl,hNw,hb⟩ (by omega)
   obtain ⟨a,rfl,r,q,d,hr,ld,hq⟩:=(h0.le hNw.le).row hs;have e1:((rs.take (s+1)).flatten).length=((rs.take s).flatten).length+r.length:=by rw [yM hr];simp
   have:=hsum (s+1);obtain ⟨U2,g1,g2,g3,g4,g5⟩:=hb.push (P:=Pg) (st:=52) (xt:=52) (e:=64) (m:=r.length) (d:=d) (q:=q) (xs:=wI (r.map xT)) (zBF (by kernel_rfl)) hq.1 (by omega) hN (yNK (fun _=>rfl) r);have N2:New Z.re U2:=hNw.of_only g3 (fun b hbb=>(hb.bd b hbb).1);refine xDL (ld _ (Le.refl _)) g1 ⟨k-1,by omega,s+1,by omega,by omega,by rw [e1],N2, ?_⟩ (by omega);rw [yM hr,List.flatten_append,List.map_append,zDF];simpa using g2
  ·rintro p' l' c' U ⟨rfl,hNw,hb⟩;exact yOC ⟨hNw,p',c',rfl,hb.slv (List.length_map _) (by intro v hv;obtain ⟨x,_,rfl⟩:=List.mem_map.1 hv;exact zGY x),fun b hbb=>(hb.bd b hbb).1⟩
end
section
noncomputable section
variable (kA:Nat) (q2:oA) (l2 c2:Nat) (q1:(Option Addr)->Nat->Nat->St->Prop) (aW aO:oA) (aX aM aY aN:Nat) (aB aU bn:Int) (q4:St->Prop) (p2_2:oA) (q0:(Option Addr)->Nat->Nat->Int->St->Prop) (q3:Int->St->Prop) (l2_2 c2_2:Nat) (bv:Int) (Z:St) (Nx:(Option Addr)->Nat->Nat->Int->St->Prop) (Q:vPa) (q5:Int->St->Prop) (Qr:(Option Addr)->Nat->Nat->Int->St->Prop) (Q2:St->Prop) (Q0:(Option Addr)->Nat->Nat->St->Prop)
def yEU:Code:=(Code.part [1,1,1,1,0,1,0,0] (dj 28))
def zGR:lNa:=[(5,.map (some kA)),(6,.slice aO aM aN),(21,.slice q2 l2 c2),(22,iV (l2:Int)),(23,iV bn)]
def yUC:Alt:=⟨(Option Addr) × Nat × Nat × Int,.normal,fun t=>zGR kA q2 l2 c2 t.1 t.2.1 t.2.2.1 t.2.2.2,fun t=>[],fun t Z=>q0 t.1 t.2.1 t.2.2.1 t.2.2.2 Z⟩
def zUF (kA:Nat) (q2:oA) (l2 c2:Nat) (aW:oA) (aX aY:Nat) (aB:Int):lNa:=[(2,.slice aW aX aY),(3,iV aB)]
def zJU:Alt:=⟨(Option Addr) × Nat × Nat × Int,.ret,fun t=>zUF kA q2 l2 c2 t.1 t.2.1 t.2.2.1 t.2.2.2,fun t=>[],fun t Z=>q0 t.1 t.2.1 t.2.2.1 t.2.2.2 Z⟩
def zUG (kA:Nat) (q2:oA) (l2 c2:Nat) (aO:oA) (aM aN:Nat):lNa:=[(6,.slice aO aM aN)]
def zJV:Alt:=⟨(Option Addr) × Nat × Nat,(.exit 0),fun t=>zUG kA q2 l2 c2 t.1 t.2.1 t.2.2,fun t=>[],fun t Z=>q1 t.1 t.2.1 t.2.2 Z⟩
def zLT:Prop:=xK Pg dl none yEU 89 (zGR kA q2 l2 c2 aO aM aN bn) [] [yUC kA q2 l2 c2 Nx,zJU kA q2 l2 c2 Qr,zJV kA q2 l2 c2 Q0] Z
def zSG:Prop:=xO Pg dl none yEU 89 (zGR kA q2 l2 c2 aO aM aN bn) [] [zJU kA q2 l2 c2 Qr,zJV kA q2 l2 c2 Q0] Z
def yLY:Prop:=kZ dl (dj 28) [1,1,1,1,0,1,0] (dm 28 Q) .ret 89 (zUF kA q2 l2 c2 aW aX aY aB) Z
def zUI:Prop:=kZ dl (dj 28) [1,1,1,1,0,1,0] (dm 28 Q) (.exit 0) 89 (zUG kA q2 l2 c2 aO aM aN) Z
def yET:Code:=(Code.part [1,1,1,1,1,1,0,1,0,0] (dj 28))
def zGQ:lNa:=[(6,.slice aO aM aN),(56,.slice aO aM aN),(57,iV (aM:Int)),(58,iV aU)]
def yUB:Alt:=⟨Int,.normal,fun t=>zGQ aO aM aN t,fun t=>[],fun t Z=>q3 t Z⟩
def zUD (aO:oA) (aM aN:Nat) (p2_2:oA) (l2_2 c2_2:Nat) (bv:Int):lNa:=[(2,.slice p2_2 l2_2 c2_2),(3,iV bv)]
def zJS:Alt:=⟨(Option Addr) × Nat × Nat × Int,.ret,fun t=>zUD aO aM aN t.1 t.2.1 t.2.2.1 t.2.2.2,fun t=>[],fun t Z=>q0 t.1 t.2.1 t.2.2.1 t.2.2.2 Z⟩
def zUE:lNa:=[(6,.slice aO aM aN)]
def zJT:Alt:=⟨Unit,(.exit 2),fun t=>zUE aO aM aN,fun t=>[],fun t Z=>q4 Z⟩
def zGS:Prop:=xK Pg dl none yET 89 (zGQ aO aM aN aU) [] [yUB aO aM aN q5,zJS aO aM aN Qr,zJT aO aM aN Q2] Z
def zSF:Prop:=xO Pg dl none yET 89 (zGQ aO aM aN aU) [] [zJS aO aM aN Qr,zJT aO aM aN Q2] Z
def yLX:Prop:=kZ dl (dj 28) [1,1,1,1,1,1,0,1,0] (dm 28 Q) .ret 89 (zUD aO aM aN p2_2 l2_2 c2_2 bv) Z
def zUH:Prop:=kZ dl (dj 28) [1,1,1,1,1,1,0,1,0] (dm 28 Q) (.exit 2) 89 (zUE aO aM aN) Z
end
variable {kA l2 c2 aM aN lCB cBB bu bH:Nat} {q2 aO qBB lists:oA} {Inv:Nat->(Option Addr)->Nat->Nat->Int->St->Prop} {Qr Pr:(Option Addr)->Nat->Nat->Int->St->Prop} {Q0 P0:(Option Addr)->Nat->Nat->St->Prop} {bn nA nD nE nC nG nF nAB nM nP nQ nN nO n1 aU nR nZ nBB nEB nFB nV nBI nBY:Int} {q2_a cc:Addr} {Z ZDB ZNB Z3 ZOB:St} {Nx:Int->St->Prop} {Q:vPa} {Q2 P2:St->Prop}
theorem yIL (hb:∀ k aO aM aN bn Z,Inv k aO aM aN bn Z->zLT kA q2 l2 c2 aO aM aN bn Z (NX4 Inv k) Qr Q0):∀ k aO aM aN bn Z,Inv k aO aM aN bn Z->zSG kA q2 l2 c2 aO aM aN bn Z Qr Q0 :=
 zAS (ai zAW (ai (vN 0) trivial)) hb
theorem yUA {Nx:(Option Addr)->Nat->Nat->Int->St->Prop}:let s1:=Z.row (rcd 0 0 0 0 0 0) 6;let s2:=s1.own Z.y (rcd nA nD nE nC nG nF) 6;let s3:=s2.row [iV 0,iV 0] 2;let s4:=s3.own (Z.y+1) [iV nA,iV nD] 2;let s5:=s4.row (rcd 0 0 0 0 0 0) 6;let s6:=s5.own (Z.y+2) (rcd nAB nM nP nQ nN nO) 6;let y0:=rcd nAB nM nP nQ nN nO;let y1:=rcd nA nD nE nC nG nF;∀ (h1:dg Z 64 (zS q2_a (Int.toNat bn*6)) (de y1)) (h2:xV Pg (evL [.map (some kA),de [iV nA,iV nD]]) s4 (.lookup 135 (.tmp 0) (.tmp 1) true)=some (.tuple ⟨[de y0,.bool true]⟩)) (h3:uP Pg .neq 64 (.tmp 40) (.tmp 41) (de y0) (de y1)=some (.bool false)) (nx:Nx aO aM aN (bn+1) s6) (u1:bn<(l2:Int):=by omega) (u2:Ix bn l2:=by omega) (u3:I6 (bn+1):=by omega),zLT kA (some q2_a) l2 c2 aO aM aN bn Z Nx Qr Q0:=
 let s1:=Z.row (rcd 0 0 0 0 0 0) 6;let s2:=s1.own Z.y (rcd nA nD nE nC nG nF) 6;let s3:=s2.row [iV 0,iV 0] 2;let s4:=s3.own (Z.y+1) [iV nA,iV nD] 2;let s5:=s4.row (rcd 0 0 0 0 0 0) 6;let s6:=s5.own (Z.y+2) (rcd nAB nM nP nQ nN nO) 6;let y0:=rcd nAB nM nP nQ nN nO;let y1:=rcd nA nD nE nC nG nF;fun h1 h2 h3 nx u1 u2 u3=>kO 0 (aO,aM,aN,bn+1) [.b true,.i,.l (de y1),.g,.e undef s2,.g,.l (iV nA),.g,.l (iV nD),.g,.g,.e undef s4,.g,.l (de [iV nA,iV nD]),.v (.tuple ⟨[de y0,.bool true]⟩),.g,.g,.g,.g,.e undef s6,.g,.g,.g,.l (de y0),.l (de y1),.v (.bool false),.g,.g,.g,.n (bn+1),.g] (fun _ f=>an2 (zU u1) u2 (an6 h1 ((zI _ _ _).store (vs:=y1) rfl yP rfl (nle rfl) rfl:di (evL [pq Z.y 0,de y1]) s1 (.store 64 (.tmp 0) (.tmp 1))=some (undef,s2)) ((zI _ _ _).put.rw.ld zT (k:=0) rfl:dg s2 3 (dc Z.y 0) (iV nA)) ((zI _ _ _).put.rw.ld zT (k:=1) rfl:dg s2 3 (dc Z.y 1) (iV nD)) ((zI _ _ _).store (vs:=[iV nA,iV nD]) rfl zPB rfl (nle rfl) rfl:di (evL [pq ((Z.y+1)) 0,de [iV nA,iV nD]]) s3 (.store 138 (.tmp 0) (.tmp 1))=some (undef,s4)) ((zI _ _ _).put.rw.ldN yWD zPB (k:=0) rfl rfl (nle rfl):dg s4 138 ⟨(Z.y+1),0,none⟩ (de [iV nA,iV nD])) (an6 h2 ((zI _ _ _).store (vs:=y0) rfl yP rfl (nle rfl) rfl:di (evL [pq ((Z.y+2)) 0,de y0]) s5 (.store 64 (.tmp 0) (.tmp 1))=some (undef,s6)) ((zI _ _ _).put.rw.ldN uM yP (k:=0) rfl rfl (nle rfl):dg s6 64 ⟨(Z.y+2),0,none⟩ (de y0)) ((((zI _ _ _).put.row.own (nne Z.y 0 1 rfl)).row.own (nne Z.y 0 2 rfl)).rw.ldN uM yP (k:=0) rfl rfl (nle rfl):dg s6 64 (dc Z.y 0) (de y1)) h3 (w64 u3) f))) nx
theorem yTZ {Nx:(Option Addr)->Nat->Nat->Int->St->Prop}:let s1:=Z.row (rcd 0 0 0 0 0 0) 6;let s2:=s1.own Z.y (rcd nA nD nE nC nG nF) 6;let s3:=s2.row [iV 0,iV 0] 2;let s7:=Z.y+1;let s4:=s3.own s7 [iV nA,iV nD] 2;let s5:=s4.row (rcd 0 0 0 0 0 0) 6;let s6:=s5.own (Z.y+2) (rcd nAB nM nP nQ nN nO) 6;let y0:=rcd nA nD nE nC nG nF;let y1:=rcd nAB nM nP nQ nN nO;∀ (h1:dg Z 64 (zS q2_a (Int.toNat bn*6)) (de y0)) (h2:xV Pg (evL [.map (some kA),de [iV nA,iV nD]]) s4 (.lookup 135 (.tmp 0) (.tmp 1) true)=some (.tuple ⟨[de y1,.bool false]⟩)) (h3:di (evL [.map (some kA),de [iV nA,iV nD],de y0]) s6 (.mapUpdate 135 (.tmp 0) (.tmp 1) (.tmp 2))=some (undef,ZDB)) (h4:dg ZDB 64 (dc Z.y 0) (de y0)) (h5:yA Pg 52 52 (.slice aO aM aN) (.slice (some (dc ZDB.y 0)) 1 1) (ZDB.row y0 6)=some (.slice qBB lCB cBB,ZNB)) (nx:Nx qBB lCB cBB (bn+1) ZNB) (u1:bn<(l2:Int):=by omega) (u2:Ix bn l2:=by omega) (u3:I6 (bn+1):=by omega),zLT kA (some q2_a) l2 c2 aO aM aN bn Z Nx Qr Q0:=
 let s1:=Z.row (rcd 0 0 0 0 0 0) 6;let s2:=s1.own Z.y (rcd nA nD nE nC nG nF) 6;let s3:=s2.row [iV 0,iV 0] 2;let s7:=Z.y+1;let s4:=s3.own s7 [iV nA,iV nD] 2;let s5:=s4.row (rcd 0 0 0 0 0 0) 6;let s6:=s5.own (Z.y+2) (rcd nAB nM nP nQ nN nO) 6;let y0:=rcd nA nD nE nC nG nF;let y1:=rcd nAB nM nP nQ nN nO;fun h1 h2 h3 h4 h5 nx u1 u2 u3=>kO 0 (qBB,lCB,cBB,bn+1) [.b true,.i,.l (de y0),.g,.e undef s2,.g,.l (iV nA),.g,.l (iV nD),.g,.g,.e undef s4,.g,.l (de [iV nA,iV nD]),.v (.tuple ⟨[de y1,.bool false]⟩),.g,.g,.g,.g,.e undef s6,.g,.g,.g,.g,.g,.g,.g,.l (de [iV nA,iV nD]),.l (de y0),.e undef ZDB,.g,.l (de y0),.g,.e (.slice qBB lCB cBB) ZNB,.g,.n (bn+1),.g] (fun _ f=>an4 (zU u1) u2 h1 ((zI _ _ _).store (vs:=y0) rfl yP rfl (nle rfl) rfl:di (evL [pq Z.y 0,de y0]) s1 (.store 64 (.tmp 0) (.tmp 1))=some (undef,s2)) (an6 ((zI _ _ _).put.rw.ld zT (k:=0) rfl:dg s2 3 (dc Z.y 0) (iV nA)) ((zI _ _ _).put.rw.ld zT (k:=1) rfl:dg s2 3 (dc Z.y 1) (iV nD)) ((zI _ _ _).store (vs:=[iV nA,iV nD]) rfl zPB rfl (nle rfl) rfl:di (evL [pq s7 0,de [iV nA,iV nD]]) s3 (.store 138 (.tmp 0) (.tmp 1))=some (undef,s4)) ((zI _ _ _).put.rw.ldN yWD zPB (k:=0) rfl rfl (nle rfl):dg s4 138 (dc s7 0) (de [iV nA,iV nD])) h2 ((zI _ _ _).store (vs:=y1) rfl yP rfl (nle rfl) rfl:di (evL [pq ((Z.y+2)) 0,de y1]) s5 (.store 64 (.tmp 0) (.tmp 1))=some (undef,s6)) (an6 (((zI _ _ _).put.row.own (nne Z.y 1 2 rfl)).rw.ldN yWD zPB (k:=0) rfl rfl (nle rfl):dg s6 138 (dc s7 0) (de [iV nA,iV nD])) ((((zI _ _ _).put.row.own (nne Z.y 0 1 rfl)).row.own (nne Z.y 0 2 rfl)).rw.ldN uM yP (k:=0) rfl rfl (nle rfl):dg s6 64 (dc Z.y 0) (de y0)) h3 h4 h5 (w64 u3) f))) nx
theorem yTY {Nx:(Option Addr)->Nat->Nat->Int->St->Prop} (nx:Q0 aO aM aN Z) (u1:¬ bn<(l2:Int):=by omega):zLT kA q2 l2 c2 aO aM aN bn Z Nx Qr Q0 :=
 kO 2 (aO,aM,aN) [.b false] (fun _ f=>ai (zY u1) f) nx
theorem xBR (h1:dh 22 [.slice lists bu bH] Z (iV n1) Z) (h2:dh 58 [.slice lists bu bH] (Z.add (.map [])) (.slice q2 l2 c2) Z3) (hL:zSG Z.y q2 l2 c2 none 0 0 0 Z3 Pr P0) (kr:∀ p2_1' l2_1' c2_1' i3_1' Z',Pr p2_1' l2_1' c2_1' i3_1' Z'->yLY Z.y q2 l2 c2 p2_1' l2_1' c2_1' i3_1' Z' Q) (k0:∀ p6_1' l6_1' c6_1' Z',P0 p6_1' l6_1' c6_1' Z'->zUI Z.y q2 l2 c2 p6_1' l6_1' c6_1' Z' Q) (u1:n1=0:=by omega):dq 28 [.slice lists bu bH] Z Q :=
 zK [.g,.g,.g,.c (iV n1) Z,.g,.g,.b false,.g,.g,.g,.g,.c (.slice q2 l2 c2) Z3,.g,.g,.lf 89 (zGR Z.y q2 l2 c2 none 0 0 0) [zJU Z.y q2 l2 c2 Pr,zJV Z.y q2 l2 c2 P0]] (kd (an3 h1 (xN u1) h2 (ai (ai tt (ai (arf (zGR Z.y q2 l2 c2 none 0 0 0)) hL)) (ai (kz4 kr) (ai (kz3 k0) trivial)))))
theorem yIK {Inv:Nat->Int->St->Prop} (hb:∀ k aU Z,Inv k aU Z->zGS aO aM aN aU Z (NX1 Inv k) Qr Q2):∀ k aU Z,Inv k aU Z->zSF aO aM aN aU Z Qr Q2 :=
 uH (ai zAW (ai (vN 2) trivial)) hb
theorem yTX:let s1:=Z.row (rcd 0 0 0 0 0 0) 6;let s2:=s1.own Z.y (rcd nR nZ nBB nEB nFB nV) 6;∀ (h1:dg Z 64 (zS cc (Int.toNat aU*6)) (de (rcd nR nZ nBB nEB nFB nV))) (h2:dg s2 3 (zS cc ((Int.toNat (aU-1)*6)+0)) (iV nBI)) (h3:dg s2 3 (zS cc ((Int.toNat (aU-1)*6)+2)) (iV nBY)) (nx:Nx (aU+1) s2) (u1:aU<(aM:Int):=by omega) (u2:Ix aU aM:=by omega) (u3:0<aU:=by omega) (u4:I6 (aU-1):=by omega) (u5:Ix (aU-1) aM:=by omega) (u6:nBI=nR:=by omega) (u7:¬ nBB<nBY:=by omega) (u8:I6 (aU+1):=by omega),zGS (some cc) aM aN aU Z Nx Qr Q2:=
 let s1:=Z.row (rcd 0 0 0 0 0 0) 6;let s2:=s1.own Z.y (rcd nR nZ nBB nEB nFB nV) 6;fun h1 h2 h3 nx u1 u2 u3 u4 u5 u6 u7 u8=>kO 0 (aU+1) [.b true,.g,.i,.l (de (rcd nR nZ nBB nEB nFB nV)),.g,.g,.e undef s2,.g,.b true,.g,.g,.g,.n (aU-1),.i,.g,.l (iV nBI),.g,.l (iV nR),.b true,.g,.g,.g,.g,.n (aU-1),.i,.g,.l (iV nBY),.g,.l (iV nBB),.b false,.g,.n (aU+1),.g] (fun _ f=>an4 (zU u1) u2 h1 ((zI _ _ _).store (vs:=(rcd nR nZ nBB nEB nFB nV)) rfl yP rfl (nle rfl) rfl:di (evL [pq Z.y 0,de (rcd nR nZ nBB nEB nFB nV)]) s1 (.store 64 (.tmp 0) (.tmp 1))=some (undef,s2)) (an6 (zU u3) (w64 u4) u5 h2 ((zI _ _ _).put.rw.ld zT (k:=0) rfl:dg s2 3 (dc Z.y 0) (iV nR)) (vT u6) (an6 (w64 u4) u5 h3 ((zI _ _ _).put.rw.ld zT (k:=2) rfl:dg s2 3 (dc Z.y 2) (iV nBB)) (zY u7) (w64 u8) f))) nx
theorem yTW:let s1:=Z.row (rcd 0 0 0 0 0 0) 6;let s2:=s1.own Z.y (rcd nR nZ nBB nEB nFB nV) 6;∀ (h1:dg Z 64 (zS cc (Int.toNat aU*6)) (de (rcd nR nZ nBB nEB nFB nV))) (h2:dg s2 3 (zS cc ((Int.toNat (aU-1)*6)+0)) (iV nBI)) (nx:Nx (aU+1) s2) (u1:aU<(aM:Int):=by omega) (u2:Ix aU aM:=by omega) (u3:0<aU:=by omega) (u4:I6 (aU-1):=by omega) (u5:Ix (aU-1) aM:=by omega) (u6:¬ nBI=nR:=by omega) (u7:I6 (aU+1):=by omega),zGS (some cc) aM aN aU Z Nx Qr Q2:=
 let s1:=Z.row (rcd 0 0 0 0 0 0) 6;let s2:=s1.own Z.y (rcd nR nZ nBB nEB nFB nV) 6;fun h1 h2 nx u1 u2 u3 u4 u5 u6 u7=>kO 0 (aU+1) [.b true,.g,.i,.l (de (rcd nR nZ nBB nEB nFB nV)),.g,.g,.e undef s2,.g,.b true,.g,.g,.g,.n (aU-1),.i,.g,.l (iV nBI),.g,.l (iV nR),.b false,.g,.g,.g,.n (aU+1),.g] (fun _ f=>an5 (zU u1) u2 h1 ((zI _ _ _).store (vs:=(rcd nR nZ nBB nEB nFB nV)) rfl yP rfl (nle rfl) rfl:di (evL [pq Z.y 0,de (rcd nR nZ nBB nEB nFB nV)]) s1 (.store 64 (.tmp 0) (.tmp 1))=some (undef,s2)) (zU u3) (an6 (w64 u4) u5 h2 ((zI _ _ _).put.rw.ld zT (k:=0) rfl:dg s2 3 (dc Z.y 0) (iV nR)) (vD u6) (w64 u7) f)) nx
theorem yTV:let y0:=rcd nR nZ nBB nEB nFB nV;∀ (h1:dg Z 64 (zS cc (Int.toNat aU*6)) (de y0)) (nx:Nx (aU+1) ((Z.row (rcd 0 0 0 0 0 0) 6).own Z.y y0 6)) (u1:aU<(aM:Int):=by omega) (u2:Ix aU aM:=by omega) (u3:¬ 0<aU:=by omega) (u4:I6 (aU+1):=by omega),zGS (some cc) aM aN aU Z Nx Qr Q2 :=
 let s1:=Z.row (rcd 0 0 0 0 0 0) 6;let s2:=s1.own Z.y (rcd nR nZ nBB nEB nFB nV) 6;let y0:=rcd nR nZ nBB nEB nFB nV;fun h1 nx u1 u2 u3 u4=>kO 0 (aU+1) [.b true,.g,.i,.l (de y0),.g,.g,.e undef s2,.g,.b false,.g,.g,.g,.g,.n (aU+1),.g] (fun _ f=>an6 (zU u1) u2 h1 ((zI _ _ _).store (vs:=y0) rfl yP rfl (nle rfl) rfl:di (evL [pq Z.y 0,de y0]) s1 (.store 64 (.tmp 0) (.tmp 1))=some (undef,s2)) (zY u3) (w64 u4) f) nx
theorem yTU (nx:Q2 Z) (u1:¬ aU<(aM:Int):=by omega):zGS aO aM aN aU Z Nx Qr Q2 :=
 kO 2 () [.b false] (fun _ f=>ai (zY u1) f) nx
theorem yIJ (h1:dh 59 [.slice aO aM aN,.func (.func 60) ⟨[]⟩ ⟨[]⟩] Z (.tuple ⟨[]⟩) ZOB) (hL:zSF aO aM aN 0 ZOB Pr P2) (kr:∀ p2_2' l2_2' c2_2' i3_2' Z',Pr p2_2' l2_2' c2_2' i3_2' Z'->yLX aO aM aN p2_2' l2_2' c2_2' i3_2' Z' Q) (k2:∀ Z',P2 Z'->zUH aO aM aN Z' Q):zUI kA q2 l2 c2 aO aM aN Z Q :=
 sK [.g,.c (.tuple ⟨[]⟩) ZOB,.g,.g,.g,.lf 89 (zGQ aO aM aN 0) [zJS aO aM aN Pr,zJT aO aM aN P2]] (ai h1 (ai (ai tt (ai (arf (zGQ aO aM aN 0)) hL)) (ai (kz4 kr) (ai (kz0 k2) trivial))))
theorem yII (nx:Q (.tuple ⟨[.slice aO aM aN,iV 0]⟩) Z):zUH aO aM aN Z Q :=
 sK [.g,.g,.g] nx
end
section
open Go.Sort (SWO)
def orL (zs:List Int):Int:=(zs.find? fun z=>!decide (z=0)).getD 0
def zIH (x y:Rec):Int:=if x.m-y.m=0 then x.s-y.s else x.m-y.m
theorem zBE {x y:Rec}:yG zIH x y=true↔wW x y:=by
 unfold yG zIH wW;simp only [decide_eq_true_eq];split <;> omega
theorem yXJ:SWO (yG zIH):=by
 refine ⟨fun x=>?_,fun x y z h1 h2=>?_,fun x y z h1 h2=>?_⟩
 ·rw [Bool.eq_false_iff];exact fun h=>wW.irr x (zBE.1 h)
 ·exact zBE.2 ((zBE.1 h1).trans (zBE.1 h2))
 ·have n1:¬ wW x y:=fun h=>by rw [zBE.2 h] at h1;cases h1
  have n2:¬ wW y z:=fun h=>by rw [zBE.2 h] at h2;cases h2
  rw [Bool.eq_false_iff];intro h;have:=zBE.1 h;unfold wW at *;omega
section
variable {Z:St}
theorem yZU {zs:List Int} {b c:Nat} (o:Own Z b (zs.map fun z=>iV z) 1) (hl:zs.length<=100):zJ Pg 61 [.slice (some ⟨b,0,none⟩) zs.length c] Z (iV (orL zs)) Z:=by
 have h0:=o.re;refine zL.pure (xME (Pr:=fun n U=>U=Z.re/\n=orL zs) (P0:=fun U=>U=Z.re/\orL zs=0)
  (yPD (Inv:=fun k i U=>U=Z.re/\∃ j:Nat,i=j/\j+k=zs.length/\orL zs=orL (zs.drop j)) ?_ zs.length 0 Z.re ⟨rfl,0,rfl,by omega,rfl⟩)
  (fun n U h=>yPB ⟨by rw [h.2],by rw [h.1];exact Nat.le_refl _⟩) (fun U h=>yPC ⟨by rw [h.2],by rw [h.1];exact Nat.le_refl _⟩))
 rintro k i U ⟨rfl,j,rfl,hk,he⟩;by_cases hj:j<zs.length
 ·have hd:zs.drop j=zs[j]::zs.drop (j+1):=List.drop_eq_getElem_cons hj;have ld:=h0.ldI (P:=Pg) (t:=3) (i:=j) (v:=iV zs[j]) zT (by simp [hj]);rw [hd] at he;by_cases hz:zs[j]=0
  ·exact xEA ld ⟨k-1,by omega,rfl,j+1,by omega,by omega,by rw [he];unfold orL;rw [List.find?_cons,hz];rfl⟩ (by omega) ⟨by omega,by omega⟩ hz ⟨by omega,by omega⟩
  ·exact xEB ld ⟨rfl,by rw [he];unfold orL;rw [List.find?_cons];simp [hz]⟩ (by omega) ⟨by omega,by omega⟩ hz
 ·rw [List.drop_of_length_le (by omega)] at he;exact xDZ ⟨rfl,he⟩ (by omega)
theorem xUY {x y:Rec} (hx:yQ x=true) (hy:yQ y=true):zJ Pg 60 [xT x,xT y] Z (iV (zIH x y)) Z:=by
 have bx:=zBH hx;have bY:=zBH hy;have N:New Z.re (((Z.re.row (xG x) 6).row (xG y) 6).row [iV (x.m-y.m),iV (x.s-y.s)] 1):=((New.row _ _ _).row').row';have e:zIH x y=orL [x.m-y.m,x.s-y.s]:=by
  unfold zIH orL;by_cases h1:x.m-y.m=0 <;> by_cases h2:x.s-y.s=0 <;> simp [List.find?_cons,h1,h2]
 rw [e];exact zL.pure (xRK (yZU (zs:=[x.m-y.m,x.s-y.s]) (zI _ _ _) (by simp)) ⟨rfl,N.lw⟩ ⟨by omega,by omega⟩ ⟨by omega,by omega⟩)
abbrev zPU (k:Int × Int):Value:=.agg ⟨[iV k.1,iV k.2]⟩
theorem xWJ {t:Nat} (h:zNN Pg t 2=true) (hk:∀ (e:Bool) (x y:Int),zIX Pg e t (.agg ⟨[iV x,iV y]⟩)=true):KeyT Pg t zPU:=by
 refine ⟨fun a b=>?_,fun e a=>hk e a.1 a.2,fun a=>?_⟩
 ·have h:=xII (P:=Pg) (t:=t) (n:=2) (d:=9998) h («as»:=[a.1,a.2]) (bs:=[b.1,b.2]) rfl rfl;have e:decide (a=b)=decide ([a.1,a.2]=[b.1,b.2]):=decide_eq_decide.2 ⟨fun h=>by rw [h],fun h=>by simp at h;exact Prod.ext h.1 h.2⟩;rw [e];exact h
 ·have:∀ (n:Nat) (x y:Int),Instr.sameBits (n+2) (.agg ⟨[iV x,iV y]⟩) (.agg ⟨[iV x,iV y]⟩)=true:=fun n x y=>by simp [Instr.sameBits]
  exact this 9998 _ _
theorem yUK:KeyT Pg 138 zPU:=xWJ (by kernel_rfl) (fun e x y=>by kernel_rfl)
theorem xUD:zDR Pg 135=some (138,64):=by kernel_rfl
theorem xGF:uQ Pg 64=some (xT ⟨0,0,0,0,0,0⟩):=by kernel_rfl
def zMN {α E:Type} [DecidableEq E] (f:α->E) (l:List α) (k:E):Option α:=l.find? fun x=>decide (f x=k)
abbrev yFQ (out:List Rec) (k:Int × Int):Option Rec:=zMN (fun x:Rec=>(x.m,x.s)) out k
section
variable {α E:Type} [DecidableEq E] {f:α->E} {out:List α} {k:E} {x:α}
theorem zYV (h:zMN f out k=some x):x∈out/\f x=k:=by
 have h1:=List.find?_some h;exact ⟨List.mem_of_find?_eq_some h,by simpa using h1⟩
theorem yVC (h:zMN f out k=none):∀ x∈out,f x≠k:=by
 intro x hx e;have:=List.find?_eq_none.1 h x hx;simp [e] at this
theorem zYW (h:zMN f out (f x)=none):zMN f (out++[x]) k=if k=f x then some x else zMN f out k:=by
 unfold zMN at h ⊢;rw [List.find?_append];by_cases hk:k=f x
 ·subst hk;rw [if_pos rfl,h];simp
 ·rw [if_neg hk];have:[x].find? (fun y=>decide (f y=k))=none:=by
   have h2:¬ f x=k:=fun e=>hk e.symm
   simp [List.find?_cons,h2]
  rw [this];simp
end
theorem xAW (x:Rec):∀ v∈xG x,∃ n,v=iV n\/v=.int .u8 n:=by
 intro v hv;simp at hv;rcases hv with rfl | rfl | rfl | rfl | rfl | rfl <;> exact ⟨_,by first | exact .inl rfl | exact .inr rfl⟩
theorem xOY {n0 c:Nat} {p:Option Addr} {out:List Rec} (h:Gr Pg Z n0 64 6 p out.length c (out.map xT)) (h1:out.length<=1000000) (hr:∀ x∈out,yQ x=true) (hk:out.Pairwise fun x y=>¬ zIY x y) :
  ∃ L Z',zJ Pg 59 [.slice p out.length c,.func (.func 60) ⟨[]⟩ ⟨[]⟩] Z (.tuple ⟨[]⟩) Z'/\Only (AtP p) Z Z'/\Srt L/\L.Perm out/\wB Z' 64 p L.length L:=by
 have hfl:∀ l:List Rec,wI (l.map xT)=(l.map xG).flatten:=by
  intro l;induction l with
  | nil=>rfl
  | cons x l ih=>rw [List.map_cons,List.map_cons,List.flatten_cons,<- ih];simp [wI,Value.cells]
 have ha:=h.app;rw [hfl] at ha;obtain ⟨n,hn⟩:∃ n,n=out.length:=⟨_,rfl⟩;obtain ⟨cs,hcs⟩:∃ cs,cs=(out.map xG).flatten:=⟨_,rfl⟩;rw [<- hn,<- hcs] at ha;cases ha with
 | nil =>
  have:out=[]:=List.eq_nil_of_length_eq_zero hn.symm;subst this;exact ⟨[],Z,yKI rfl fun _ _ _=>rfl,Only.refl _ _,.nil,.refl _,⟨⟨rfl,rfl⟩,rfl,by simp⟩⟩
 | more g1 g2 g3 g4 g5 g6 g7 =>
  rename_i b s0 nx sp log;subst g2;have hlen:cs.length=n*6:=by rw [hcs,hn];exact zQF fun x _=>rfl
  rw [hlen,hcs] at g1;have hT:∀ x∈out,∀ y∈out,yG zIH x y=false->yG zIH y x=false->xG x=xG y:=by
   intro x hx y hy e1 e2;have n1:¬ wW x y:=fun h=>by rw [zBE.2 h] at e1;cases e1
   have n2:¬ wW y x:=fun h=>by rw [zBE.2 h] at e2;cases e2
   have he:zIY x y:=by rcases yIS x y with h | h | h;exact absurd h n1;exact h;exact absurd h n2
   by_cases e:x=y
   ·rw [e]
   ·exfalso;obtain ⟨i,hi,rfl⟩:=List.mem_iff_getElem.1 hx;obtain ⟨j,hj,rfl⟩:=List.mem_iff_getElem.1 hy;rcases Nat.lt_trichotomy i j with q | q | q
    ·exact List.pairwise_iff_getElem.1 hk i j hi hj q he
    ·subst q;exact e rfl
    ·exact List.pairwise_iff_getElem.1 hk j i hj hi q ⟨he.1.symm,he.2.symm⟩
  obtain ⟨Z',k1,k2,k3,k4⟩:=yXO (c:=n+vU) (g:=60) (cf:=zIH) (xs:=out) (f:=59) (enc:=xG) rfl (fun _ _ _=>rfl) (fun x hx y hy=>xUY (hr x hx) (hr y hy)) yXJ hT (fun x=>rfl) (fun x _=>xAW x) hn.symm (by omega) (by omega) g4 g1;have hp:=sortL_perm (lt:=yG zIH) out;have hL:(sortL (yG zIH) out).length=n:=by rw [hp.length_eq,hn]
  have hel:((sortL (yG zIH) out).map xG).flatten.length=(sortL (yG zIH) out).length*6:=zQF fun x _=>rfl
  refine ⟨sortL (yG zIH) out,Z',by rw [<- hn];exact k1,k2.mono fun y _ e=>⟨_,rfl,e.symm⟩, ?_,hp,⟨⟨?_, ?_,k3⟩,by simp,fun v hv=>?_⟩⟩
  ·have h1:=zDX (lt:=yG zIH) yXJ.ntrans (fun x y e=>by
    rw [Bool.eq_false_iff];exact fun e2=>(zBE.1 e).asymm (zBE.1 e2)) out
   have h2:(sortL (yG zIH) out).Pairwise fun x y=>¬ zIY x y:=(hp.symm.pairwise_iff (fun {x y} h e=>h ⟨e.1.symm,e.2.symm⟩)).1 hk
   refine List.Pairwise.imp₂ (R:=fun a b=>yG zIH b a=false) (S:=fun x y=>¬ zIY x y) (fun a b e1 e2=>?_) h1 h2;rcases yIS a b with h | h | h
   ·exact h
   ·exact absurd h e2
   ·rw [zBE.2 h] at e1;cases e1
  ·rw [hfl];exact hel
  ·have hle:Nat.ble (0+((sortL (yG zIH) out).map xG).flatten.length) (n*6)=true:=(zP _ _).2 (by rw [hel,hL];omega);show yR Z' ⟨b,0,sp⟩ (wI ((sortL (yG zIH) out).map xT)).length=_;rw [hfl];unfold yR;simp only [k4,zZ,wR,Nat.beq_refl,cond_true,hle,List.drop_zero,List.take_length]
  ·obtain ⟨x,_,rfl⟩:=List.mem_map.1 hv;exact zGY x
end
end
section
variable {x y bv i5_2 aB:Int} {Z:St} {Q:Value->St->Prop} {s qB:Option Addr} {s_l s_c lC cB:Nat} {Q0:St->Prop} {Qr:(Option Addr)->Nat->Nat->St->Prop} {s_a qB_a:Addr} {Q2 Nx:Int->St->Prop} {rA rB rE rD:Rd}
theorem xKE (nx:Q (.bool false) Z) (u1:x=x:=by omega):zL Pg 97 [iV x] Z Q :=
 zK [.g,.g,.g,.b false,.g] (kd (And.intro (xN u1) nx))
theorem xRN (h1:zJ Pg 97 [iV x] Z (.bool false) Z) (h2:zJ Pg 97 [iV y] Z (.bool false) Z) (nx:Q (iV (-1)) Z) (u1:x<y:=by omega):zL Pg 74 [iV x,iV y] Z Q :=
 zK [.g,.g,.c (.bool false) Z,.g,.g,.c (.bool false) Z,.g,.g,.g,.g,.g,.b true,.g] (kd (an3 h1 h2 (zU u1) nx))
theorem xRM (h1:zJ Pg 97 [iV x] Z (.bool false) Z) (h2:zJ Pg 97 [iV y] Z (.bool false) Z) (nx:Q (iV 1) Z) (u1:¬ x<y:=by omega) (u2:y<x:=by omega):zL Pg 74 [iV x,iV y] Z Q :=
 zK [.g,.g,.c (.bool false) Z,.g,.g,.c (.bool false) Z,.g,.g,.g,.g,.g,.b false,.g,.g,.b true,.g] (kd (an4 h1 h2 (zY u1) (zU u2) nx))
theorem xRL (h1:zJ Pg 97 [iV x] Z (.bool false) Z) (h2:zJ Pg 97 [iV y] Z (.bool false) Z) (nx:Q (iV 0) Z) (u1:¬ x<y:=by omega) (u2:¬ y<x:=by omega):zL Pg 74 [iV x,iV y] Z Q :=
 zK [.g,.g,.c (.bool false) Z,.g,.g,.c (.bool false) Z,.g,.g,.g,.g,.g,.b false,.g,.g,.b false,.g] (kd (an4 h1 h2 (zY u1) (zY u2) nx))
theorem xRJ {a_0 b:Rd} {n1 n2 n3 n4 n5:Int} (h1:zJ Pg 74 [iV a_0.d,iV b.d] ((Z.row (rdL a_0) 4).row (rdL b) 4) (iV n1) ((Z.row (rdL a_0) 4).row (rdL b) 4)) (h2:zJ Pg 74 [iV a_0.t,iV b.t] ((Z.row (rdL a_0) 4).row (rdL b) 4) (iV n2) ((Z.row (rdL a_0) 4).row (rdL b) 4)) (h3:zJ Pg 74 [iV a_0.a,iV b.a] ((Z.row (rdL a_0) 4).row (rdL b) 4) (iV n3) ((Z.row (rdL a_0) 4).row (rdL b) 4)) (h4:zJ Pg 74 [iV a_0.b,iV b.b] ((Z.row (rdL a_0) 4).row (rdL b) 4) (iV n4) ((Z.row (rdL a_0) 4).row (rdL b) 4)) (h5:zJ Pg 61 [.slice (some ⟨(Z.y+2),0,none⟩) 4 4] (((Z.row (rdL a_0) 4).row (rdL b) 4).row (xW n1 n2 n3 n4) 1) (iV n5) (((Z.row (rdL a_0) 4).row (rdL b) 4).row (xW n1 n2 n3 n4) 1)) (nx:Q (iV n5) (((Z.row (rdL a_0) 4).row (rdL b) 4).row (xW n1 n2 n3 n4) 1)):zL Pg 73 [.agg ⟨rdL a_0⟩,.agg ⟨rdL b⟩] Z Q :=
 let s1:=Z.row (rdL a_0) 4;let s2:=s1.row (rdL b) 4;let s3:=s2.row (xW n1 n2 n3 n4) 1;let s4:=Z.y+1;zK [.g,.g,.g,.g,.l (iV a_0.d),.g,.l (iV b.d),.c (iV n1) s2,.g,.l (iV a_0.t),.g,.l (iV b.t),.c (iV n2) s2,.g,.l (iV a_0.a),.g,.l (iV b.a),.c (iV n3) s2,.g,.l (iV a_0.b),.g,.l (iV b.b),.c (iV n4) s2,.g,.c (iV n5) s3,.g] (kd (an4 ((zI _ _ _).row.rw.ld zT (k:=0) rfl:zH Pg s2 3 ⟨Z.y,0,none⟩=some (iV a_0.d)) ((zI _ _ _).rw.ld zT (k:=0) rfl:zH Pg s2 3 ⟨s4,0,none⟩=some (iV b.d)) h1 ((zI _ _ _).row.rw.ld zT (k:=1) rfl:zH Pg s2 3 ⟨Z.y,1,none⟩=some (iV a_0.t)) (an6 ((zI _ _ _).rw.ld zT (k:=1) rfl:zH Pg s2 3 ⟨s4,1,none⟩=some (iV b.t)) h2 ((zI _ _ _).row.rw.ld zT (k:=2) rfl:zH Pg s2 3 ⟨Z.y,2,none⟩=some (iV a_0.a)) ((zI _ _ _).rw.ld zT (k:=2) rfl:zH Pg s2 3 ⟨s4,2,none⟩=some (iV b.a)) h3 ((zI _ _ _).row.rw.ld zT (k:=3) rfl:zH Pg s2 3 ⟨Z.y,3,none⟩=some (iV a_0.b)) (an6 ((zI _ _ _).rw.ld zT (k:=3) rfl:zH Pg s2 3 ⟨s4,3,none⟩=some (iV b.b)) h4 h5 ((zM (zV (nlt Z.y 0 2 rfl)) zO):zX s2.y [.pointer (some ⟨Z.y,0,none⟩)]) ((zM (zV (nlt Z.y 1 2 rfl)) zO):zX s2.y [.pointer (some ⟨s4,0,none⟩)]) ((zM (zV (nlt Z.y 0 2 rfl)) zO):zX s2.y [.pointer (some ⟨Z.y,1,none⟩)]) (an6 ((zM (zV (nlt Z.y 1 2 rfl)) zO):zX s2.y [.pointer (some ⟨s4,1,none⟩)]) ((zM (zV (nlt Z.y 0 2 rfl)) zO):zX s2.y [.pointer (some ⟨Z.y,2,none⟩)]) ((zM (zV (nlt Z.y 1 2 rfl)) zO):zX s2.y [.pointer (some ⟨s4,2,none⟩)]) ((zM (zV (nlt Z.y 0 2 rfl)) zO):zX s2.y [.pointer (some ⟨Z.y,3,none⟩)]) ((zM (zV (nlt Z.y 1 2 rfl)) zO):zX s2.y [.pointer (some ⟨s4,3,none⟩)]) ((zM (zBK (nlt Z.y 2 3 rfl)) zO):zX s3.y [.slice (some ⟨(Z.y+2),0,none⟩) 4 4]) (an6 (⟨⟨(nlt Z.y 0 2 rfl),rfl⟩,((zI _ _ _).row.rw.ld zT (k:=1) rfl)⟩:(((⟨Z.y,1,none⟩:Addr).block<s2.y/\yB RD (iV a_0.t)=true)/\zH Pg s2 3 ⟨Z.y,1,none⟩=some (iV a_0.t))) (⟨⟨(nlt Z.y 0 2 rfl),rfl⟩,((zI _ _ _).row.rw.ld zT (k:=1) rfl)⟩:(((⟨Z.y,1,none⟩:Addr).block<s2.y/\yB RD (iV a_0.t)=true)/\zH Pg s2 3 ⟨Z.y,1,none⟩=some (iV a_0.t))) (⟨⟨(nlt Z.y 1 2 rfl),rfl⟩,((zI _ _ _).rw.ld zT (k:=1) rfl)⟩:(((⟨s4,1,none⟩:Addr).block<s2.y/\yB RD (iV b.t)=true)/\zH Pg s2 3 ⟨s4,1,none⟩=some (iV b.t))) (⟨⟨(nlt Z.y 1 2 rfl),rfl⟩,((zI _ _ _).rw.ld zT (k:=1) rfl)⟩:(((⟨s4,1,none⟩:Addr).block<s2.y/\yB RD (iV b.t)=true)/\zH Pg s2 3 ⟨s4,1,none⟩=some (iV b.t))) (⟨⟨(nlt Z.y 0 2 rfl),rfl⟩,((zI _ _ _).row.rw.ld zT (k:=2) rfl)⟩:(((⟨Z.y,2,none⟩:Addr).block<s2.y/\yB RD (iV a_0.a)=true)/\zH Pg s2 3 ⟨Z.y,2,none⟩=some (iV a_0.a))) (⟨⟨(nlt Z.y 0 2 rfl),rfl⟩,((zI _ _ _).row.rw.ld zT (k:=2) rfl)⟩:(((⟨Z.y,2,none⟩:Addr).block<s2.y/\yB RD (iV a_0.a)=true)/\zH Pg s2 3 ⟨Z.y,2,none⟩=some (iV a_0.a))) (an6 (⟨⟨(nlt Z.y 0 2 rfl),rfl⟩,((zI _ _ _).row.rw.ld zT (k:=2) rfl)⟩:(((⟨Z.y,2,none⟩:Addr).block<s2.y/\yB RD (iV a_0.a)=true)/\zH Pg s2 3 ⟨Z.y,2,none⟩=some (iV a_0.a))) (⟨⟨(nlt Z.y 0 2 rfl),rfl⟩,((zI _ _ _).row.rw.ld zT (k:=2) rfl)⟩:(((⟨Z.y,2,none⟩:Addr).block<s2.y/\yB RD (iV a_0.a)=true)/\zH Pg s2 3 ⟨Z.y,2,none⟩=some (iV a_0.a))) (⟨⟨(nlt Z.y 1 2 rfl),rfl⟩,((zI _ _ _).rw.ld zT (k:=2) rfl)⟩:(((⟨s4,2,none⟩:Addr).block<s2.y/\yB RD (iV b.a)=true)/\zH Pg s2 3 ⟨s4,2,none⟩=some (iV b.a))) (⟨⟨(nlt Z.y 1 2 rfl),rfl⟩,((zI _ _ _).rw.ld zT (k:=2) rfl)⟩:(((⟨s4,2,none⟩:Addr).block<s2.y/\yB RD (iV b.a)=true)/\zH Pg s2 3 ⟨s4,2,none⟩=some (iV b.a))) (⟨⟨(nlt Z.y 1 2 rfl),rfl⟩,((zI _ _ _).rw.ld zT (k:=2) rfl)⟩:(((⟨s4,2,none⟩:Addr).block<s2.y/\yB RD (iV b.a)=true)/\zH Pg s2 3 ⟨s4,2,none⟩=some (iV b.a))) (⟨⟨(nlt Z.y 1 2 rfl),rfl⟩,((zI _ _ _).rw.ld zT (k:=2) rfl)⟩:(((⟨s4,2,none⟩:Addr).block<s2.y/\yB RD (iV b.a)=true)/\zH Pg s2 3 ⟨s4,2,none⟩=some (iV b.a))) (an6 (⟨⟨(nlt Z.y 0 2 rfl),rfl⟩,((zI _ _ _).row.rw.ld zT (k:=3) rfl)⟩:(((⟨Z.y,3,none⟩:Addr).block<s2.y/\yB RD (iV a_0.b)=true)/\zH Pg s2 3 ⟨Z.y,3,none⟩=some (iV a_0.b))) (⟨⟨(nlt Z.y 0 2 rfl),rfl⟩,((zI _ _ _).row.rw.ld zT (k:=3) rfl)⟩:(((⟨Z.y,3,none⟩:Addr).block<s2.y/\yB RD (iV a_0.b)=true)/\zH Pg s2 3 ⟨Z.y,3,none⟩=some (iV a_0.b))) (⟨⟨(nlt Z.y 0 2 rfl),rfl⟩,((zI _ _ _).row.rw.ld zT (k:=3) rfl)⟩:(((⟨Z.y,3,none⟩:Addr).block<s2.y/\yB RD (iV a_0.b)=true)/\zH Pg s2 3 ⟨Z.y,3,none⟩=some (iV a_0.b))) (⟨⟨(nlt Z.y 0 2 rfl),rfl⟩,((zI _ _ _).row.rw.ld zT (k:=3) rfl)⟩:(((⟨Z.y,3,none⟩:Addr).block<s2.y/\yB RD (iV a_0.b)=true)/\zH Pg s2 3 ⟨Z.y,3,none⟩=some (iV a_0.b))) (⟨⟨(nlt Z.y 0 2 rfl),rfl⟩,((zI _ _ _).row.rw.ld zT (k:=3) rfl)⟩:(((⟨Z.y,3,none⟩:Addr).block<s2.y/\yB RD (iV a_0.b)=true)/\zH Pg s2 3 ⟨Z.y,3,none⟩=some (iV a_0.b))) (⟨⟨(nlt Z.y 0 2 rfl),rfl⟩,((zI _ _ _).row.rw.ld zT (k:=3) rfl)⟩:(((⟨Z.y,3,none⟩:Addr).block<s2.y/\yB RD (iV a_0.b)=true)/\zH Pg s2 3 ⟨Z.y,3,none⟩=some (iV a_0.b))) (an6 (⟨⟨(nlt Z.y 1 2 rfl),rfl⟩,((zI _ _ _).rw.ld zT (k:=3) rfl)⟩:(((⟨s4,3,none⟩:Addr).block<s2.y/\yB RD (iV b.b)=true)/\zH Pg s2 3 ⟨s4,3,none⟩=some (iV b.b))) (⟨⟨(nlt Z.y 1 2 rfl),rfl⟩,((zI _ _ _).rw.ld zT (k:=3) rfl)⟩:(((⟨s4,3,none⟩:Addr).block<s2.y/\yB RD (iV b.b)=true)/\zH Pg s2 3 ⟨s4,3,none⟩=some (iV b.b))) (⟨⟨(nlt Z.y 1 2 rfl),rfl⟩,((zI _ _ _).rw.ld zT (k:=3) rfl)⟩:(((⟨s4,3,none⟩:Addr).block<s2.y/\yB RD (iV b.b)=true)/\zH Pg s2 3 ⟨s4,3,none⟩=some (iV b.b))) (⟨⟨(nlt Z.y 1 2 rfl),rfl⟩,((zI _ _ _).rw.ld zT (k:=3) rfl)⟩:(((⟨s4,3,none⟩:Addr).block<s2.y/\yB RD (iV b.b)=true)/\zH Pg s2 3 ⟨s4,3,none⟩=some (iV b.b))) (⟨⟨(nlt Z.y 1 2 rfl),rfl⟩,((zI _ _ _).rw.ld zT (k:=3) rfl)⟩:(((⟨s4,3,none⟩:Addr).block<s2.y/\yB RD (iV b.b)=true)/\zH Pg s2 3 ⟨s4,3,none⟩=some (iV b.b))) (⟨⟨(nlt Z.y 1 2 rfl),rfl⟩,((zI _ _ _).rw.ld zT (k:=3) rfl)⟩:(((⟨s4,3,none⟩:Addr).block<s2.y/\yB RD (iV b.b)=true)/\zH Pg s2 3 ⟨s4,3,none⟩=some (iV b.b))) nx)))))))))
theorem xMH (h1:uP Pg .eql 66 (.tmp 3) (.const (.slice none 0 0)) (.slice s s_l s_c) (.slice none 0 0)=some (.bool true)) (nx:Q (.slice none 0 0) Z):zL Pg 71 [.slice s s_l s_c] Z Q :=
 zK [.g,.g,.v (.bool true),.g] (kd (And.intro h1 nx))
theorem xMG {q2:Option Addr} {l2 c2:Nat} {Z1:St} (h1:uP Pg .eql 66 (.tmp 3) (.const (.slice none 0 0)) (.slice s s_l s_c) (.slice none 0 0)=some (.bool false)) (h2:yA Pg 66 66 (.slice (some ⟨Z.y,0,none⟩) 0 0) (.slice s s_l s_c) (Z.row [] 4)=some (.slice q2 l2 c2,Z1)) (nx:Q (.slice q2 l2 c2) Z1):zL Pg 71 [.slice s s_l s_c] Z Q :=
 zK [.g,.g,.v (.bool false),.g,.g,.e (.slice q2 l2 c2) Z1,.g] (kd (an2 h1 h2 nx))
theorem zZS (nx:Q (.slice s s_l s_c) Z) (u1:((s_l:Nat):Int)<2:=by omega):zL Pg 75 [.slice s s_l s_c] Z Q :=
 zK [.g,.g,.g,.b true,.g,.g] (kd (And.intro (zU u1) nx))
noncomputable def zNW:Code:=(Code.part [1,1,0,1,0,0] (zR Pg 75))
def zFF (s:Option Addr) (s_l s_c:Nat) (aB:Int):List (Nat × Value):=[(0,.slice s s_l s_c),(3,iV aB)]
def zUP (s:Option Addr) (s_l s_c:Nat) (Q:Int->St->Prop):Alt:=⟨Int,.normal,fun t=>zFF s s_l s_c t,fun t=>[],fun t Z=>Q t Z⟩
def zQL (s:Option Addr) (s_l s_c:Nat):List (Nat × Value):=[(0,.slice s s_l s_c)]
def zED (s:Option Addr) (s_l s_c:Nat) (Q:St->Prop):Alt:=⟨Unit,(.exit 0),fun t=>zQL s s_l s_c,fun t=>[],fun t Z=>Q Z⟩
def zQK (s:Option Addr) (s_l s_c:Nat) (aW:Option Addr) (aX aY:Nat):List (Nat × Value):=[(2,.slice aW aX aY)]
def zEC (s:Option Addr) (s_l s_c:Nat) (Q:(Option Addr)->Nat->Nat->St->Prop):Alt:=⟨(Option Addr) × Nat × Nat,.ret,fun t=>zQK s s_l s_c t.1 t.2.1 t.2.2,fun t=>[],fun t Z=>Q t.1 t.2.1 t.2.2 Z⟩
def zIP (s:Option Addr) (s_l s_c:Nat) (aB:Int) (Z:St) (Nx:Int->St->Prop) (Q0:St->Prop) (Qr:(Option Addr)->Nat->Nat->St->Prop):Prop:=xK Pg (zW Pg) none zNW 61 (zFF s s_l s_c aB) [] [zUP s s_l s_c Nx,zED s s_l s_c Q0,zEC s s_l s_c Qr] Z
def zZV (s:Option Addr) (s_l s_c:Nat) (aB:Int) (Z:St) (Q0:St->Prop) (Qr:(Option Addr)->Nat->Nat->St->Prop):Prop:=xO Pg (zW Pg) none zNW 61 (zFF s s_l s_c aB) [] [zED s s_l s_c Q0,zEC s s_l s_c Qr] Z
theorem yCT {Inv:Nat->Int->St->Prop} (hb:∀ k aB Z,Inv k aB Z->zIP s s_l s_c aB Z (NX1 Inv k) Q0 Qr):∀ k aB Z,Inv k aB Z->zZV s s_l s_c aB Z Q0 Qr :=
 uH (And.intro (vN 0) (And.intro zAW trivial)) hb
noncomputable def zZT:Code:=(Code.part [1,1,0,1,0,0,1,0,0,1,0,1,0,1,0,0] (zR Pg 75))
def zFE (s_a:Addr) (s_l s_c:Nat) (qB:Option Addr) (lC cB:Nat) (bv i5_2:Int):List (Nat × Value):=[(0,.slice (some s_a) s_l s_c),(3,iV bv),(4,.slice qB lC cB),(5,iV i5_2)]
def yOY (s_a:Addr) (s_l s_c:Nat) (qB:Option Addr) (lC cB:Nat) (Q:Int->Int->St->Prop):Alt:=⟨Int × Int,.normal,fun t=>zFE s_a s_l s_c qB lC cB t.1 t.2,fun t=>[],fun t Z=>Q t.1 t.2 Z⟩
def zQJ (s_a:Addr) (s_l s_c:Nat) (qB:Option Addr) (lC cB:Nat) (bv:Int):List (Nat × Value):=[(0,.slice (some s_a) s_l s_c),(3,iV bv)]
def zIN (s_a:Addr) (s_l s_c:Nat) (qB:Option Addr) (lC cB:Nat) (Q:Int->St->Prop):Alt:=⟨Int,(.exit 2),fun t=>zQJ s_a s_l s_c qB lC cB t,fun t=>[],fun t Z=>Q t Z⟩
def zIO (s_a:Addr) (s_l s_c:Nat) (qB:Option Addr) (lC cB:Nat) (bv i5_2:Int) (Z:St) (Nx:Int->Int->St->Prop) (Q2:Int->St->Prop):Prop:=xK Pg (zW Pg) none zZT 61 (zFE s_a s_l s_c qB lC cB bv i5_2) [] [yOY s_a s_l s_c qB lC cB Nx,zIN s_a s_l s_c qB lC cB Q2] Z
def zZU (s_a:Addr) (s_l s_c:Nat) (qB:Option Addr) (lC cB:Nat) (bv i5_2:Int) (Z:St) (Q2:Int->St->Prop):Prop:=xO Pg (zW Pg) none zZT 61 (zFE s_a s_l s_c qB lC cB bv i5_2) [] [zIN s_a s_l s_c qB lC cB Q2] Z
theorem yCS {Inv:Nat->Int->Int->St->Prop} (hb:∀ k bv i5_2 Z,Inv k bv i5_2 Z->zIO s_a s_l s_c qB lC cB bv i5_2 Z (NX2 Inv k) Q2):∀ k bv i5_2 Z,Inv k bv i5_2 Z->zZU s_a s_l s_c qB lC cB bv i5_2 Z Q2 :=
 zXS (And.intro (vN 2) trivial) hb
theorem yOU {ZP:St} {Nx:Int->Int->St->Prop} (h1:zH Pg Z 75 (zS qB_a (Int.toNat i5_2*4))=some (.agg ⟨rdL rA⟩)) (h2:zH Pg Z 75 (zS qB_a (Int.toNat (i5_2-1)*4))=some (.agg ⟨rdL rB⟩)) (h3:uP Pg .neq 75 (.tmp 38) (.tmp 43) (.agg ⟨rdL rA⟩) (.agg ⟨rdL rB⟩)=some (.bool true)) (h4:zN Pg (evL [.pointer (some (zS s_a (Int.toNat bv*4))),.agg ⟨rdL rA⟩]) Z (.store 75 (.tmp 0) (.tmp 1))=some (undef,ZP)) (nx:Nx (bv+1) (i5_2+1) ZP) (u1:i5_2<((lC:Nat):Int):=by omega) (u2:Ix i5_2 lC:=by omega) (u3:I6 (i5_2-1):=by omega) (u4:Ix (i5_2-1) lC:=by omega) (u5:Ix bv s_l:=by omega) (u6:I6 (bv+1):=by omega) (u7:I6 (i5_2+1):=by omega):zIO s_a s_l s_c (some qB_a) lC cB bv i5_2 Z Nx Q2 :=
 kO 0 (bv+1,i5_2+1) [.g,.g,.g,.b true,.g,.g,.i,.l (.agg ⟨rdL rA⟩),.g,.g,.n (i5_2-1),.i,.l (.agg ⟨rdL rB⟩),.v (.bool true),.g,.g,.g,.g,.i,.l (.agg ⟨rdL rA⟩),.i,.e undef ZP,.g,.n (bv+1),.g,.g,.n (i5_2+1),.g] (fun _ f=>(And.intro (zU u1) (an6 u2 h1 (w64 u3) u4 h2 h3 (an6 u2 h1 u5 h4 (w64 u6) (w64 u7) f)))) nx
theorem yOT {Nx:Int->Int->St->Prop} (h1:zH Pg Z 75 (zS qB_a (Int.toNat i5_2*4))=some (.agg ⟨rdL rA⟩)) (h2:zH Pg Z 75 (zS qB_a (Int.toNat (i5_2-1)*4))=some (.agg ⟨rdL rB⟩)) (h3:uP Pg .neq 75 (.tmp 38) (.tmp 43) (.agg ⟨rdL rA⟩) (.agg ⟨rdL rB⟩)=some (.bool false)) (nx:Nx bv (i5_2+1) Z) (u1:i5_2<((lC:Nat):Int):=by omega) (u2:Ix i5_2 lC:=by omega) (u3:I6 (i5_2-1):=by omega) (u4:Ix (i5_2-1) lC:=by omega) (u5:I6 (i5_2+1):=by omega):zIO s_a s_l s_c (some qB_a) lC cB bv i5_2 Z Nx Q2 :=
 kO 0 (bv,i5_2+1) [.g,.g,.g,.b true,.g,.g,.i,.l (.agg ⟨rdL rA⟩),.g,.g,.n (i5_2-1),.i,.l (.agg ⟨rdL rB⟩),.v (.bool false),.g,.n (i5_2+1),.g] (fun _ f=>(an2 (zU u1) u2 (an6 h1 (w64 u3) u4 h2 h3 (w64 u5) f))) nx
theorem yOS {Nx:Int->Int->St->Prop} (nx:Q2 bv Z) (u1:¬ i5_2<((lC:Nat):Int):=by omega):zIO s_a s_l s_c qB lC cB bv i5_2 Z Nx Q2 :=
 kO 1 bv [.g,.g,.g,.b false] (fun _ f=>(And.intro (zY u1) f)) nx
def zQM (s:Option Addr) (s_a:Addr) (s_l s_c:Nat) (qB:Option Addr) (lC cB:Nat) (bv:Int) (Z:St) (Nx:Int->St->Prop) (Q0:St->Prop) (Qr:(Option Addr)->Nat->Nat->St->Prop):Prop:=∀ g:Nat->Value,∃ an,Hid (kAt Pg (zW Pg) none zNW [1,0,0,1,0,1,0,1,0] (yBS 61 [zUP s s_l s_c Nx,zED s s_l s_c Q0,zEC s s_l s_c Qr]) (.exit 2) ⟨Fm 61 (ov (zQJ s_a s_l s_c qB lC cB bv) g),[]⟩ Z an)
theorem yOX {P2:Int->St->Prop} (h1:zH Pg Z 75 (zS s_a (Int.toNat aB*4))=some (.agg ⟨rdL rE⟩)) (h2:zH Pg Z 75 (zS s_a (Int.toNat (aB-1)*4))=some (.agg ⟨rdL rD⟩)) (h3:uP Pg .eql 75 (.tmp 19) (.tmp 24) (.agg ⟨rdL rE⟩) (.agg ⟨rdL rD⟩)=some (.bool true)) (h4:xZ Pg Z 66 (.slice (some s_a) s_l s_c) (some (iV aB)) none none=some (.slice qB lC cB)) (hL:zZU s_a s_l s_c qB lC cB aB 1 Z P2) (k2:∀ i3_2' Z',P2 i3_2' Z'->zQM (some s_a) s_a s_l s_c qB lC cB i3_2' Z' Nx Q0 Qr) (u1:aB<((s_l:Nat):Int):=by omega) (u2:Ix aB s_l:=by omega) (u3:I6 (aB-1):=by omega) (u4:Ix (aB-1) s_l:=by omega):zIP (some s_a) s_l s_c aB Z Nx Q0 Qr :=
 zVQ [.g,.g,.g,.b true,.g,.g,.i,.l (.agg ⟨rdL rE⟩),.g,.g,.n (aB-1),.i,.l (.agg ⟨rdL rD⟩),.v (.bool true),.g,.g,.v (.slice qB lC cB),.g,.g,.lf 61 (zFE s_a s_l s_c qB lC cB aB 1) [zIN s_a s_l s_c qB lC cB P2]] (fun g=>kd (an2 (zU u1) u2 (an6 h1 (w64 u3) u4 h2 h3 h4 (And.intro (And.intro tt (And.intro (arf (zFE s_a s_l s_c qB lC cB aB 1)) hL)) (And.intro (kz1 k2) trivial)))))
theorem yOW (h1:zH Pg Z 75 (zS s_a (Int.toNat aB*4))=some (.agg ⟨rdL rE⟩)) (h2:zH Pg Z 75 (zS s_a (Int.toNat (aB-1)*4))=some (.agg ⟨rdL rD⟩)) (h3:uP Pg .eql 75 (.tmp 19) (.tmp 24) (.agg ⟨rdL rE⟩) (.agg ⟨rdL rD⟩)=some (.bool false)) (nx:Nx (aB+1) Z) (u1:aB<((s_l:Nat):Int):=by omega) (u2:Ix aB s_l:=by omega) (u3:I6 (aB-1):=by omega) (u4:Ix (aB-1) s_l:=by omega) (u5:I6 (aB+1):=by omega):zIP (some s_a) s_l s_c aB Z Nx Q0 Qr :=
 kO 0 (aB+1) [.g,.g,.g,.b true,.g,.g,.i,.l (.agg ⟨rdL rE⟩),.g,.g,.n (aB-1),.i,.l (.agg ⟨rdL rD⟩),.v (.bool false),.g,.n (aB+1),.g] (fun _ f=>(an2 (zU u1) u2 (an6 h1 (w64 u3) u4 h2 h3 (w64 u5) f))) nx
theorem yOV (nx:Q0 Z) (u1:¬ aB<((s_l:Nat):Int):=by omega):zIP s s_l s_c aB Z Nx Q0 Qr :=
 kO 1 () [.g,.g,.g,.b false] (fun _ f=>(And.intro (zY u1) f)) nx
theorem yCP {lIB cGB lP cO:Nat} {qGB qO:Option Addr} {ZS:St} (h1:xZ Pg Z 66 (.slice (some s_a) s_l s_c) (some (iV bv)) none none=some (.slice qGB lIB cGB)) (h2:zN Pg (evL [.slice qGB lIB cGB]) Z (.call { callee:=.builtin .clear,args:=⟨wN 1⟩,argTypes:=⟨[66]⟩ })=some ((.tuple ⟨[]⟩),ZS)) (h3:xZ Pg ZS 66 (.slice (some s_a) s_l s_c) none (some (iV bv)) none=some (.slice qO lP cO)) (nx:Qr qO lP cO ZS):zQM s s_a s_l s_c qB lC cB bv Z Nx Q0 Qr :=
 sF 2 (qO,lP,cO) [.g,.g,.v (.slice qGB lIB cGB),.e (.tuple ⟨[]⟩) ZS,.g,.g,.v (.slice qO lP cO),.g] (fun _ f=>(an3 h1 h2 h3 f)) nx
def zQO (s:Option Addr) (s_l s_c:Nat) (Z:St) (Q:Value->St->Prop):Prop:=∀ g:Nat->Value,∃ an,Hid (kAt Pg (zW Pg) none (zR Pg 75) [1,1,0,1,0] (kFn Pg 75 Q) (.exit 0) ⟨Fm 61 (ov (zQL s s_l s_c) g),[]⟩ Z an)
def zQN (s:Option Addr) (s_l s_c:Nat) (aW:Option Addr) (aX aY:Nat) (Z:St) (Q:Value->St->Prop):Prop:=∀ g:Nat->Value,∃ an,Hid (kAt Pg (zW Pg) none (zR Pg 75) [1,1,0,1,0] (kFn Pg 75 Q) .ret ⟨Fm 61 (ov (zQK s s_l s_c aW aX aY) g),[]⟩ Z an)
theorem yVM {P0:St->Prop} {Pr:(Option Addr)->Nat->Nat->St->Prop} (hL:zZV s s_l s_c 1 Z P0 Pr) (k0:∀ Z',P0 Z'->zQO s s_l s_c Z' Q) (kr:∀ p2_1' l2_1' c2_1' Z',Pr p2_1' l2_1' c2_1' Z'->zQN s s_l s_c p2_1' l2_1' c2_1' Z' Q) (u1:¬ ((s_l:Nat):Int)<2:=by omega):zL Pg 75 [.slice s s_l s_c] Z Q :=
 zK [.g,.g,.g,.b false,.g,.lf 61 (zFF s s_l s_c 1) [zED s s_l s_c P0,zEC s s_l s_c Pr]] (kd (And.intro (zY u1) (And.intro (And.intro tt (And.intro (arf (zFF s s_l s_c 1)) hL)) (And.intro (kz0 k0) (And.intro (kz3 kr) trivial)))))
theorem yCR (nx:Q (.slice s s_l s_c) Z):zQO s s_l s_c Z Q :=
 sK [.g,.g] nx
theorem yCQ {aW:Option Addr} {aX aY:Nat} (nx:Q (.slice aW aX aY) Z):zQN s s_l s_c aW aX aY Z Q :=
 sK [] nx
theorem yYP {l q1 q4:Option Addr} {l_l l_c l1 c1 l4 c4:Nat} {Z2 Z3 Z5:St} (h1:zJ Pg 71 [.slice l l_l l_c] Z (.slice q1 l1 c1) Z2) (h2:zJ Pg 72 [.slice q1 l1 c1,.func (.func 73) ⟨[]⟩ ⟨[]⟩] Z2 (.tuple ⟨[]⟩) Z3) (h3:zJ Pg 75 [.slice q1 l1 c1] Z3 (.slice q4 l4 c4) Z5) (nx:Q (.slice q4 l4 c4) Z5):zL Pg 40 [.slice l l_l l_c] Z Q :=
 zK [.g,.g,.c (.slice q1 l1 c1) Z2,.g,.g,.c (.tuple ⟨[]⟩) Z3,.g,.c (.slice q4 l4 c4) Z5,.g] (kd (an3 h1 h2 h3 nx))
end
section
open Go.Sort (SWO)
variable {x y:Rd} {ys rs:List Rd}
def c3 (x y:Int):Int:=if x<y then -1 else if y<x then 1 else 0
def rdC (x y:Rd):Int:=orL [c3 x.d y.d,c3 x.t y.t,c3 x.a y.a,c3 x.b y.b]
def zFM (x y:Rd):Prop:=x.d<y.d\/(x.d=y.d/\(x.t<y.t\/(x.t=y.t/\(x.a<y.a\/(x.a=y.a/\x.b<y.b)))))
theorem xIS {z:Int} {zs:List Int}:orL (z::zs)=if z=0 then orL zs else z:=by
 unfold orL;by_cases h:z=0 <;> simp [List.find?_cons,h]
theorem xXN {x y:Int}:c3 x y=0↔x=y:=by unfold c3;split <;> (try split) <;> omega
theorem xRT {x y:Int}:c3 x y<0↔x<y:=by unfold c3;split <;> (try split) <;> omega
theorem zHQ:yG rdC x y=true↔zFM x y:=by
 unfold yG rdC zFM;simp only [decide_eq_true_eq,xIS,xXN];have h0:orL []=0:=rfl;rw [h0];split
 ·rename_i h1;split
  ·rename_i h2;split
   ·rename_i h3;split
    ·omega
    ·rw [xRT];omega
   ·rw [xRT];omega
  ·rw [xRT];omega
 ·rw [xRT];omega
theorem zWS (h1:¬ zFM x y) (h2:¬ zFM y x):x=y:=by
 unfold zFM at *;have e:[x.d,x.t,x.a,x.b]=[y.d,y.t,y.a,y.b]:=by
  simp only [List.cons.injEq,and_true];omega
 exact yYA.1 e
theorem xGS:SWO (yG rdC):=by
 have nf:∀ {x y:Rd},yG rdC x y=false↔¬ zFM x y:=fun {x y}=>by rw [<- zHQ,Bool.not_eq_true]
 refine ⟨fun x=>nf.2 (by unfold zFM;omega),fun x y z h1 h2=>zHQ.2 ?_,fun x y z h1 h2=>nf.2 ?_⟩
 ·have h1:=zHQ.1 h1;have h2:=zHQ.1 h2;unfold zFM at *;omega
 ·have h1:=nf.1 h1;have h2:=nf.1 h2;unfold zFM at *;omega
def xHL (o:List Rd) (x:Rd):List Rd:=if o.getLast?=some x then o else o++[x]
def zBY (ys:List Rd):List Rd:=ys.foldl xHL []
theorem zRM:zBY (ys++[x])=xHL (zBY ys) x:=by simp [zBY]
theorem yDM (ys:List Rd):(zBY ys).getLast?=ys.getLast?:=by
 refine zAU (P:=fun ys=>(zBY ys).getLast?=ys.getLast?) rfl (fun ys x ih=>?_) ys;rw [zRM,List.getLast?_concat];unfold xHL;split
 ·rename_i h;exact h
 ·rw [List.getLast?_concat]
theorem xAU (ys:List Rd):ys.Pairwise (fun a b=>¬ zFM b a)->(zBY ys).Pairwise zFM/\∀ r∈zBY ys,r∈ys:=by
 refine zAU (P:=fun ys=>ys.Pairwise (fun a b=>¬ zFM b a)->(zBY ys).Pairwise zFM/\∀ r∈zBY ys,r∈ys) (fun _=>⟨.nil,by simp [zBY]⟩) (fun ys x ih h=>?_) ys;obtain ⟨h1,_,h2⟩:=List.pairwise_append.1 h;obtain ⟨i1,i2⟩:=ih h1;rw [zRM];unfold xHL;split
 ·exact ⟨i1,fun r hr=>List.mem_append_left _ (i2 r hr)⟩
 ·rename_i hl;refine ⟨List.pairwise_append.2 ⟨i1,List.pairwise_singleton _ _,fun a ha b hb=>?_⟩,fun r hr=>?_⟩
  ·rw [List.mem_singleton.1 hb];have hax:=h2 a (i2 a ha) x (by simp);by_cases hxa:zFM a x
   ·exact hxa
   ·exfalso;have e:a=x:=zWS hxa hax;subst e;rw [yDM] at hl;have hne:ys≠[]:=by rintro rfl;exact absurd (i2 a ha) (by simp)
    obtain ⟨l,hll⟩:∃ l,ys.getLast?=some l:=⟨ys.getLast hne,List.getLast?_eq_some_getLast hne⟩;have hlm:l∈ys:=List.mem_of_getLast? hll;have k1:=h2 l hlm a (by simp);have k2:¬ zFM l a:=by
     obtain ⟨zs,e⟩:=List.getLast?_eq_some_iff.1 hll;rw [e] at h1;obtain ⟨_,_,h3⟩:=List.pairwise_append.1 h1;have ham:=i2 a ha;rw [e,List.mem_append,List.mem_singleton] at ham;rcases ham with ham | rfl
     ·exact h3 a ham l (by simp)
     ·unfold zFM;omega
    exact hl (by rw [hll,zWS k2 k1])
  ·rw [List.mem_append] at hr ⊢;exact hr.imp (i2 r) id
theorem xHM (h:ys.Pairwise (fun a b=>¬ zFM b a)) (hs:∀ r∈ys,r∈rs):(zBY ys).length<=(wV rs).length:=by
 obtain ⟨h1,h2⟩:=xAU ys h;refine List.Nodup.length_le_of_subset (h1.imp (fun {a b} e h=>by subst h;unfold zFM at e;omega)) (fun r hr=>(zSH rs r).2 (hs r (h2 r hr)))
theorem yLQ (rs:List Rd):(wV rs).Nodup:=by
 refine zAU (P:=fun rs=>(wV rs).Nodup) .nil (fun rs x ih=>?_) rs;rw [zNF];unfold yLP;split
 ·exact ih
 ·rename_i h;refine List.pairwise_append.2 ⟨ih,List.pairwise_singleton _ _,fun a ha b hb=>?_⟩;rw [List.mem_singleton.1 hb];exact fun e=>h (e ▸ ha)
theorem xIV {rs':List Rd} (h:∀ r∈rs,r∈rs'):(wV rs).length<=(wV rs').length :=
 (yLQ rs).length_le_of_subset fun r hr=>(zSH rs' r).2 (h r ((zSH rs r).1 hr))
theorem yDL {i:Nat} (hx:ys[i]?=some x) (hy:ys[i+1]?=some y):(zBY (ys.take (i+2))).length=(zBY (ys.take (i+1))).length+if y=x then 0 else 1:=by
 rw [yM hy,zRM];have hl:(zBY (ys.take (i+1))).getLast?=some x:=by rw [yDM,yM hx,List.getLast?_concat]
 unfold xHL;rw [hl];by_cases e:y=x
 ·rw [if_pos (by rw [e]),if_pos e];rfl
 ·rw [if_neg (fun h=>e (Option.some.inj h).symm),if_neg e];simp
end
section
variable {x y:Rd} {b len c s k:Nat} {o1 o2:Operand} {sp:Option Nat} {ys:List Rd}
theorem yAR:AppT Pg 66 66 75 4:=zBF (by kernel_rfl)
theorem xWV {b:Bool} (hb:decide (x=y)=b):uP Pg .eql 75 o1 o2 (rdV x) (rdV y)=some (.bool b):=by
 rw [<- hb];refine xLT (by kernel_rfl) ?_
 have:∀ x1 x2 x3 x4 y1 y2 y3 y4:Int,yJ Pg (eqGuard .eql 75 o1 o2 (.agg ⟨xW x1 x2 x3 x4⟩) (.agg ⟨xW y1 y2 y3 y4⟩))=some ():=fun _ _ _ _ _ _ _ _=>by kernel_rfl
 exact this _ _ _ _ _ _ _ _
theorem xWG {b:Bool} (hb:(!decide (x=y))=b):uP Pg .neq 75 o1 o2 (rdV x) (rdV y)=some (.bool b):=by
 rw [<- hb];refine xUB (by kernel_rfl) ?_
 have:∀ x1 x2 x3 x4 y1 y2 y3 y4:Int,yJ Pg (eqGuard .neq 75 o1 o2 (.agg ⟨xW x1 x2 x3 x4⟩) (.agg ⟨xW y1 y2 y3 y4⟩))=some ():=fun _ _ _ _ _ _ _ _=>by kernel_rfl
 exact this _ _ _ _ _ _ _ _
section
variable {Z:St}
theorem yJG {x y:Int}:zJ Pg 74 [iV x,iV y] Z (iV (c3 x y)) Z:=by
 have n:∀ (z:Int) (U:St),zJ Pg 97 [iV z] U (.bool false) U:=fun z U=>(xKE ⟨rfl,Nat.le_refl _⟩ rfl).pure
 unfold c3;by_cases h1:x<y
 ·rw [if_pos h1];exact (xRN (n _ _) (n _ _) ⟨rfl,Nat.le_refl _⟩ h1).pure
 ·rw [if_neg h1];by_cases h2:y<x
  ·rw [if_pos h2];exact (xRM (n _ _) (n _ _) ⟨rfl,Nat.le_refl _⟩ h1 h2).pure
  ·rw [if_neg h2];exact (xRL (n _ _) (n _ _) ⟨rfl,Nat.le_refl _⟩ h1 h2).pure
theorem xUX:zJ Pg 73 [rdV x,rdV y] Z (iV (rdC x y)) Z:=by
 have N:New Z.re (((Z.re.row (rdL x) 4).row (rdL y) 4).row (xW (c3 x.d y.d) (c3 x.t y.t) (c3 x.a y.a) (c3 x.b y.b)) 1):=((New.row _ _ _).row').row';exact (xRJ yJG yJG yJG yJG (yZU (zs:=[c3 x.d y.d,c3 x.t y.t,c3 x.a y.a,c3 x.b y.b]) (zI _ _ _) (by simp)) ⟨rfl,N.lw⟩).pure
theorem xMQ {n0 n:Nat} {p:Option Addr} {cs:List Value} (h:Ax Z n0 n p len c cs) (h0:0<len):∃ b sp log nx,p=some ⟨b,0,sp⟩/\(c=len\/c=len+vU)/\n0<=b/\b<Z.y/\cs.length=len*n/\yD Z.heap b=some (.cells cs n ((sp.getD 0,cs.length)::log) nx false):=by
 rcases h with h | ⟨b,rfl,rfl,_,h1,h2,h3⟩
 ·cases h with
  | nil=>omega
  | more g1 g2 g3 g4 g5 g6 g7=>subst g2;exact ⟨_,_,_,_,rfl,.inr rfl,g3,g4,g5,g1⟩
 ·exact ⟨b,none,[],1,rfl,.inl rfl,h3,h2.lt,h1,h2.get⟩
structure Wk (Z:St) (b:Nat) (sp:Option Nat) (len s:Nat) (ys:List Rd):Prop where
 lt:b<Z.y
 blk:∃ cs nx,yD Z.heap b=some (.cells cs 4 [(sp.getD 0,len*4)] nx false)/\cs.length=len*4/\∀ i y,s<=i->ys[i]?=some y->(cs.drop (i*4)).take 4=rdL y
theorem Wk.mono {s':Nat} (h:Wk Z b sp len s ys) (k:s<=s'):Wk Z b sp len s' ys:=by
 obtain ⟨h1,cs,nx,h2,h3,h4⟩:=h;exact ⟨h1,cs,nx,h2,h3,fun i y hi hy=>h4 i y (by omega) hy⟩
theorem Wk.ld {i:Nat} {j:Int} (h:Wk Z b sp len s ys) (hi:s<=i) (hl:i<len) (hy:ys[i]?=some y) (h0:0<=j) (hj:(k:Int)+j=(i:Int)):zH Pg Z 75 (zS ⟨b,k*4,sp⟩ (Int.toNat j*4))=some (rdV y):=by
 obtain ⟨h1,cs,nx,h2,h3,h4⟩:=h;have hr:Row Z ⟨b,i*4,sp⟩ (rdL y):=by
  refine ⟨?_,h1⟩
  have hle:Nat.ble (i*4+4) (len*4)=true:=(zP _ _).2 (by omega);show yR Z ⟨b,i*4,sp⟩ 4=some (rdL y);unfold yR;simp only [h2,zZ,wR,Nat.beq_refl,cond_true,hle];rw [h4 i y hi hy]
 have e:zS ⟨b,k*4,sp⟩ (Int.toNat j*4)=⟨b,i*4,sp⟩:=by
  have:k*4+Int.toNat j*4=i*4:=by omega
  simp [zS,this]
 rw [e];exact hr.loadN (P:=Pg) (t:=75) (k:=0) yQE zJK rfl rfl (by simp)
theorem Wk.wr {m:Nat} {vs:List Value} (h:Wk Z b sp len s ys) (hv:vs.length=m*4) (hk:k+m<=s) (hl:k+m<=len) (hc:vs.all cellB=true):∃ Z',yZ Z ⟨b,k*4,sp⟩ vs=some Z'/\Wk Z' b sp len s ys/\Only (·=b) Z Z':=by
 obtain ⟨h1,cs,nx,h2,h3,h4⟩:=h;refine ⟨Z.put b (.cells (cs.take (k*4)++(vs++cs.drop (k*4+m*4))) 4 [(sp.getD 0,len*4)] nx false), ?_,⟨h1,_,nx,by rw [St.put_get,if_pos rfl],by simp [hv,h3];omega,fun i y hi hy=>?_⟩,Only.put (.inr rfl)⟩
 ·have hle:Nat.ble (k*4+m*4) (len*4)=true:=(zP _ _).2 (by omega);unfold yZ;simp only [h2,zZ,hv,hle,Nat.beq_refl,hc,Bool.not_false,Bool.and_self,cond_true,zBU,St.write_eq]
 ·have e:(cs.take (k*4)++(vs++cs.drop (k*4+m*4))).drop (i*4)=cs.drop (i*4):=by
   have e1:(cs.take (k*4)).length=k*4:=by rw [List.length_take];omega
   rw [List.drop_append,List.drop_of_length_le (by omega),List.nil_append,e1,List.drop_append,List.drop_of_length_le (by omega),List.nil_append,hv,List.drop_drop];congr 1;omega
  rw [e,h4 i y hi hy]
theorem Wk.sl {lo hi:Nat} {lo' hi':Option Value} (h:Wk Z b sp len s ys) (hc:c=len\/c=len+vU) (hll:len<vU) (hlo:wG lo' 0 hi=some lo) (hhi:wG hi' len len=some hi) (h1:lo<len) (h2:lo<=hi) :
  ∃ c',xZ Pg Z 66 (.slice (some ⟨b,0,sp⟩) len c) lo' hi' none=some (.slice (some ⟨b,lo*4,sp⟩) (hi-lo) c'):=by
 obtain ⟨_,cs,nx,g,_,_⟩:=h;have hok:zDG Z ⟨b,0,sp⟩ 4=true:=by simp [zDG,g,zZ,wR]
 have hu:Pg.underlying 66=some (.slice 75):=by kernel_rfl
 have hs:yU Pg 75=some 4:=zJK;have ea:zS ⟨b,0,sp⟩ (lo*4)=⟨b,lo*4,sp⟩:=by simp [zS]
 have hL:yE c=len:=by
  rcases hc with rfl | rfl
  ·unfold yE;rw [if_neg (by omega)]
  ·exact wY _
 have hb:Nat.beq len lo=false:=by rw [Bool.eq_false_iff];intro e;have:=Nat.eq_of_beq_eq_true e;omega
 have hle:Nat.ble lo len=true:=(zP _ _).2 (by omega);have hle':Nat.ble len lo=false:=by rw [Bool.eq_false_iff];intro e;have:=(zP _ _).1 e;omega
 cases hx:yY c with
 | true=>exact ⟨len-lo,by simp only [xZ,hu,hs,hok,cond_true,wJ,hL,hhi,hlo,hx,Bool.or_true,hle,hb,cond_false,ea]⟩
 | false=>exact ⟨len-lo+vU,by simp only [xZ,hu,hs,hok,cond_true,wJ,hL,hhi,hlo,hx,Option.isSome_none,Bool.or_false,hle',cond_false,ea]⟩
end
end
section
variable {b len c l:Nat} {sp:Option Nat} {ys rs:List Rd}
section
variable {Z:St}
theorem Wk.st {s m:Nat} {y:Rd} {j:Int} (h:Wk Z b sp len s ys) (hj:j=(m:Int)) (hk:m+1<=s) (hl:m+1<=len):∃ Z',zN Pg (evL [.pointer (some (zS ⟨b,0,sp⟩ (Int.toNat j*4))),rdV y]) Z (.store 75 (.tmp 0) (.tmp 1))=some (undef,Z')/\Wk Z' b sp len s ys/\Only (·=b) Z Z':=by
 obtain ⟨Z',h1,h2,h3⟩:=h.wr (k:=m) (m:=1) (vs:=rdL y) rfl hk hl rfl;refine ⟨Z', ?_,h2,h3⟩
 subst hj;have e:zS ⟨b,0,sp⟩ (Int.toNat (m:Int)*4)=⟨b,m*4,sp⟩:=by simp [zS]
 have e0:zN Pg (evL [.pointer (some ⟨b,m*4,sp⟩),rdV y]) Z (.store 75 (.tmp 0) (.tmp 1))=(yZ Z ⟨b,m*4,sp⟩ (rdL y)).map fun Z'=>(undef,Z'):=by
  have e1:∀ l:List Value,evL l (.tmp 0)=l.getD 0 undef:=fun _=>rfl
  have e2:∀ l:List Value,evL l (.tmp 1)=l.getD 1 undef:=fun _=>rfl
  have e3:yU Pg 75=some 4:=zJK;unfold zN;simp only [e1,e2,List.getD_cons_zero,List.getD_cons_succ,zHN,e3];rfl
 rw [e,e0,h1];rfl
theorem Wk.clear {b len m c:Nat} {sp:Option Nat} {ys:List Rd} (h:Wk Z b sp len len ys) (hm:m<len):∃ Z',zN Pg (evL [.slice (some ⟨b,m*4,sp⟩) (len-m) c]) Z (.call { callee:=.builtin .clear,args:=⟨wN 1⟩,argTypes:=⟨[66]⟩ })=some (.tuple ⟨[]⟩,Z')/\Wk Z' b sp len len ys/\Only (·=b) Z Z':=by
 have zc:∀ n,(yL (xW 0 0 0 0) n).all cellB=true:=by
  intro n;induction n with
  | zero=>rfl
  | succ n ih=>show (xW 0 0 0 0++yL (xW 0 0 0 0) n).all cellB=true;rw [List.all_append,ih];rfl
 obtain ⟨Z',h1,h2,h3⟩:=h.wr (k:=m) (m:=len-m) (vs:=yL (xW 0 0 0 0) (len-m)) (by rw [wX];rfl) (by omega) (by omega) (zc _);refine ⟨Z', ?_,h2,h3⟩
 have hz:uQ Pg 75=some (.agg ⟨xW 0 0 0 0⟩):=by kernel_rfl
 have hb:Nat.beq (len-m) 0=false:=by rw [Bool.eq_false_iff];intro e;have:=Nat.eq_of_beq_eq_true e;omega
 have e0:zN Pg (evL [.slice (some ⟨b,m*4,sp⟩) (len-m) c]) Z (.call { callee:=.builtin .clear,args:=⟨wN 1⟩,argTypes:=⟨[66]⟩ }) =
   bif Nat.beq 4 4 && !Nat.beq (len-m) 0 then (yZ Z ⟨b,m*4,sp⟩ (yL (xW 0 0 0 0) (len-m))).map fun Z=>(.tuple ⟨[]⟩,Z) else none:=by
  unfold zN
  show (match xS Pg 66 with
    | some (e,n)=>match uQ Pg e with
     | some z=>bif Nat.beq z.cells.toList.length n && !Nat.beq (len-m) 0 then (yZ Z ⟨b,m*4,sp⟩ (yL z.cells.toList (len-m))).map fun Z=>((.tuple ⟨[]⟩:Value),Z) else none
     | none=>none
    | none=>none)=_
  rw [yAR.el]
  simp only [hz]
  rfl
 rw [e0,hb,h1];rfl
theorem xDW (h:Wk Z b sp len 0 ys) (hy:ys.length=len) (hc:c=len\/c=len+vU) (hl:len<=1000) :
  ∃ d Z',zJ Pg 75 [.slice (some ⟨b,0,sp⟩) len c] Z (.slice (some ⟨b,0,sp⟩) (zBY ys).length d) Z'/\Only (·=b) Z Z':=by
 have hix:len<vU:=by unfold vU;omega
 have at_:∀ i,i<len->∃ y,ys[i]?=some y:=fun i hi=>⟨ys[i]'(by omega),List.getElem?_eq_getElem _⟩
 have h0:Wk Z.re b sp len 0 ys:=⟨h.lt,h.blk⟩;refine (zL.mut (P:=Pg) (f:=75) (args:=[.slice (some ⟨b,0,sp⟩) len c]) (S:=(·=b)) (Q:=fun v s=>∃ d,v=.slice (some ⟨b,0,sp⟩) (zBY ys).length d) ?_ (fun v s m h=>h)).elim fun v ⟨Z',g1,g2,d,e⟩=>⟨d,Z',e ▸ g1,g2⟩
 suffices hm:zL Pg 75 [.slice (some ⟨b,0,sp⟩) len c] Z.re fun v s=>Only (·=b) Z.re s/\∃ d,v=.slice (some ⟨b,0,sp⟩) (zBY ys).length d by
  obtain ⟨v,s,h1,h2,d,rfl⟩:=hm;exact ⟨_,s,h1,h2,.inr rfl,d,rfl⟩
 by_cases h2:len<2
 ·refine zZS ⟨Only.refl _ _,c, ?_⟩ (by omega);have:(zBY ys).length=len:=by
   match ys,hy with
   | [],hy=>exact hy
   | [x],hy=>rw [<- hy];rfl
   | _::_::_,hy=>simp at hy;omega
  rw [this]
 refine yVM (P0:=fun U=>Only (·=b) Z.re U/\(zBY ys).length=len) (Pr:=fun q l d U=>Only (·=b) Z.re U/\q=some ⟨b,0,sp⟩/\l=(zBY ys).length)
  (yCT (Inv:=fun k i U=>U=Z.re/\∃ j:Nat,i=j/\1<=j/\j+k=len/\(zBY (ys.take j)).length=j) ?_ (len-1) 1 Z.re ⟨rfl,1,rfl,by omega,by omega, ?_⟩) (fun U ⟨ho,e⟩=>yCR ⟨ho,c,by rw [e]⟩) (fun q l d U ⟨ho,e1,e2⟩=>by subst e1 e2;exact yCQ ⟨ho,d,rfl⟩) (by omega)
 rotate_left
 ·obtain ⟨x,hx⟩:=at_ 0 (by omega);rw [yM hx];rfl
 rintro k i U ⟨rfl,j,rfl,hj1,hk,hr⟩;by_cases hj:j<len;rotate_left
 ·have:j=len:=by omega
  subst this;rw [List.take_of_length_le (by omega)] at hr;exact yOV ⟨Only.refl _ _,hr⟩ (by omega)
 obtain ⟨x,hx⟩:=at_ (j-1) (by omega);obtain ⟨y,hy'⟩:=at_ j hj;have hrt:=yDL hx (by rw [show j-1+1=j by omega];exact hy');rw [show j-1+2=j+1 by omega,show j-1+1=j by omega,hr] at hrt;have l1:=h0.ld (k:=0) (j:=(j:Int)) (Nat.zero_le _) hj hy' (by omega) (by omega);have l2:=h0.ld (k:=0) (j:=(j:Int)-1) (Nat.zero_le _) (by omega:j-1<len) hx (by omega) (by omega);rw [Nat.zero_mul] at l1 l2;by_cases e:y=x;rotate_left
 ·rw [if_neg e] at hrt;exact yOW l1 l2 (xWV (decide_eq_false e)) ⟨k-1,by omega,rfl,j+1,by omega,by omega,by omega,hrt⟩ (by omega) ⟨by omega,by omega⟩ ⟨by omega,by omega⟩ ⟨by omega,by omega⟩ ⟨by omega,by omega⟩
 rw [if_pos e,Nat.add_zero] at hrt;obtain ⟨c1,s1⟩:=h0.sl (lo:=j) (hi:=len) (lo':=some (iV (j:Int))) (hi':=none) hc hix (uZ rfl (by omega)) rfl hj (by omega);refine yOX l1 l2 (xWV (decide_eq_true e)) s1 (P2:=fun m U=>m=((zBY ys).length:Int)/\(zBY ys).length<len/\Wk U b sp len len ys/\Only (·=b) Z.re U)
  (yCS (Inv:=fun k' i3 i5 U=>∃ m n:Nat,i3=m/\i5=n/\1<=n/\j+n+k'=len/\m=(zBY (ys.take (j+n))).length/\m+1<=j+n/\Wk U b sp len (j+n-1) ys/\Only (·=b) Z.re U) ?_ (len-(j+1)) j 1 Z.re ⟨j,1,rfl,rfl,Nat.le_refl _,by omega,hrt.symm,Nat.le_refl _,h0.mono (Nat.zero_le _),Only.refl _ _⟩) ?_ (by omega) ⟨by omega,by omega⟩ ⟨by omega,by omega⟩ ⟨by omega,by omega⟩
 ·rintro k' i3 i5 U ⟨m,n,rfl,rfl,hn1,hk',hm,hml,hw,ho⟩;by_cases hn:j+n<len;rotate_left
  ·have he:j+n=len:=by omega
   rw [he,List.take_of_length_le (by omega)] at hm;exact yOS ⟨by rw [hm],by omega,hw.mono (by omega),ho⟩ (by omega)
  obtain ⟨x,hx⟩:=at_ (j+n-1) (by omega);obtain ⟨y,hy'⟩:=at_ (j+n) hn;have hrt:=yDL hx (by rw [show j+n-1+1=j+n by omega];exact hy');rw [show j+n-1+2=j+(n+1) by omega,show j+n-1+1=j+n by omega,<- hm] at hrt;have l1:=hw.ld (k:=j) (j:=(n:Int)) (by omega:j+n-1<=j+n) hn hy' (by omega) (by omega);have l2:=hw.ld (k:=j) (j:=(n:Int)-1) (Nat.le_refl _) (by omega) hx (by omega) (by omega);by_cases e:y=x
  ·rw [if_pos e,Nat.add_zero] at hrt;exact yOT l1 l2 (xWG (by rw [decide_eq_true e];rfl)) ⟨k' - 1,by omega,m,n+1,rfl,by omega,by omega,by omega,hrt.symm,by omega,hw.mono (by omega),ho⟩ (by omega) ⟨by omega,by omega⟩ ⟨by omega,by omega⟩ ⟨by omega,by omega⟩ ⟨by omega,by omega⟩
  ·rw [if_neg e] at hrt;obtain ⟨U2,t1,t2,t3⟩:=(hw.mono (by omega:j+n-1<=j+n)).st (y:=y) (m:=m) rfl (by omega) (by omega);exact yOU l1 l2 (xWG (by rw [decide_eq_false e];rfl)) t1 ⟨k' - 1,by omega,m+1,n+1,by omega,by omega,by omega,by omega,hrt.symm,by omega,t2,ho.trans' t3 fun _ _ e=>.inl e⟩ (by omega) ⟨by omega,by omega⟩ ⟨by omega,by omega⟩ ⟨by omega,by omega⟩ ⟨by omega,by omega⟩ ⟨by omega,by omega⟩ ⟨by omega,by omega⟩
 ·rintro _ U ⟨rfl,hlt,hw,ho⟩;obtain ⟨c2,s2⟩:=hw.sl (lo:=(zBY ys).length) (hi:=len) (lo':=some (iV ((zBY ys).length:Int))) (hi':=none) hc hix (uZ rfl (by omega)) rfl hlt (by omega);obtain ⟨U2,t1,t2,t3⟩:=hw.clear (c:=c2) hlt;obtain ⟨c3,s3⟩:=t2.sl (lo:=0) (hi:=(zBY ys).length) (lo':=none) (hi':=some (iV ((zBY ys).length:Int))) hc hix rfl (uZ rfl (by omega)) (by omega) (by omega);rw [Nat.zero_mul] at s3;exact yCP s2 t1 s3 ⟨ho.trans' t3 fun _ _ e=>.inl e,rfl,rfl⟩
theorem yKU (x:Rd):∀ v∈rdL x,∃ n,v=iV n\/v=.int .u8 n:=by
 intro v hv;simp at hv;rcases hv with rfl | rfl | rfl | rfl <;> exact ⟨_,.inl rfl⟩
theorem zYT:∀ l:List Rd,wI (l.map rdV)=(l.map rdL).flatten
 | []=>rfl
 | x::l=>by rw [List.map_cons,List.map_cons,List.flatten_cons,<- zYT l];simp [wI,Value.cells]
theorem yKT:∀ (l:List Rd) (i:Nat) (x:Rd),l[i]?=some x->(((l.map rdL).flatten).drop (i*4)).take 4=rdL x
 | [],i,x,h=>by simp at h
 | y::l,0,x,h=>by cases h;rfl
 | y::l,i+1,x,h=>by
  rw [List.map_cons,List.flatten_cons,Nat.add_mul,Nat.one_mul,Nat.add_comm (i*4),<- List.drop_drop];exact yKT l i x (by simpa using h)
theorem xRO {a:Addr} (h:xSM Z 75 (some a) l rs) (h0:0<l) (hl:l<=1000):∃ q d Z',zJ Pg 71 [.slice (some a) l c] Z (.slice q l d) Z'/\New Z Z'/\Ax Z' Z.y 4 q l d (wI (rs.map rdV)):=by
 have h1:=SlV.le h (le0 Z);have hq:uP Pg .eql 66 (.tmp 3) (.const (.slice none 0 0)) (.slice (some a) l c) (.slice none 0 0)=some (.bool false):=by kernel_rfl
 have a1:Ax (Z.re.row [] 4) Z.re.y 4 (some ⟨Z.re.y,0,none⟩) 0 0 []:=Ax.lit (zI _ _ _) rfl (zKF (by omega)) (Nat.le_refl _);have hcl:(wI (rs.map rdV)).all cellB=true:=by
  rw [zYT];exact List.all_eq_true.2 fun v hv=>by
   obtain ⟨x,hx,hv⟩:=List.mem_flatten.1 hv;obtain ⟨r,_,rfl⟩:=List.mem_map.1 hx;obtain ⟨n,rfl | rfl⟩:=yKU r v hv <;> rfl
 obtain ⟨q,d,Z',g1,g2,g3,g4⟩:=Ax.append (k:=c) yAR a1 (SlV.le h1 (Le.row Z.re [] 4)).1 (by omega) hcl (Nat.le_succ _);rw [Nat.zero_add] at g1 g2;rw [List.nil_append] at g2;have N:New Z.re Z':=(New.row Z.re [] 4).of_only g3 (by rintro b ⟨a,e,rfl⟩;cases e;exact Nat.le_refl _);refine (zL.new (P:=Pg) (f:=71) (args:=[.slice (some a) l c]) (Z:=Z) (Q:=fun v s=>∃ q d,v=.slice q l d/\Ax s Z.y 4 q l d (wI (rs.map rdV))) (xMG hq g1 ⟨N,q,d,rfl,g2⟩) (by rintro v s s' ⟨q,d,rfl,g⟩ hle;exact ⟨q,d,rfl,g.le hle⟩) (by
  rintro v s hr ⟨q,d,rfl,g⟩;obtain ⟨b,sp,log,nx,rfl,_⟩:=xMQ g h0;exact Bool.noConfusion (show false=true from hr))).elim fun v ⟨Z',g1,g2,q,d,e,g3⟩=>⟨q,d,Z',e ▸ g1,g2,g3⟩
theorem xTZ {p:Option Addr} (h:xSM Z 75 p l rs) (hp:p=none\/0<l) (hl:l<=1000) :
  ∃ q k d Z',zJ Pg 40 [.slice p l c] Z (.slice q k d) Z'/\New Z Z'/\k<=(wV rs).length/\∀ a,q=some a->a.block<Z'.y:=by
 have hlen:=vK h;refine (zL.new (P:=Pg) (f:=40) (args:=[.slice p l c]) (Z:=Z) (Q:=fun v s=>∃ q k d,v=.slice q k d/\k<=(wV rs).length/\∀ a,q=some a->a.block<s.y) ?_ (by rintro v s s' ⟨q,k,d,rfl,g1,g2⟩ hle;exact ⟨q,k,d,rfl,g1,fun a e=>Nat.lt_of_lt_of_le (g2 a e) hle.y⟩) (by
  rintro v s hr ⟨q,k,d,rfl,g1,g2⟩;refine ⟨q,k,d,rfl,g1,fun a e=>?_⟩
  subst e;exact Bool.noConfusion (show false=true from hr))).elim fun v ⟨Z',g1,g2,q,k,d,e,g3,g4⟩=>⟨q,k,d,Z',e ▸ g1,g2,g3,g4⟩
 cases p with
 | none =>
  have h0:l=0:=h.1.2;subst h0;have k1:zJ Pg 71 [.slice none 0 c] Z.re (.slice none 0 0) Z.re:=(xMH (by kernel_rfl) ⟨rfl,Nat.le_refl _⟩).pure;exact yYP k1 (yKI rfl fun _ _ _=>rfl) (zZS ⟨rfl,Nat.le_refl _⟩ (by omega):zL Pg 75 _ _ _).pure ⟨New.refl _,none,0,0,rfl,Nat.zero_le _,by simp⟩
 | some a =>
  have h0:0<l:=by rcases hp with e | e;cases e;exact e
  obtain ⟨q,d,Z2,k1,n1,hA⟩:=xRO (c:=c) (SlV.le h (le0 Z)) h0 hl;obtain ⟨b,sp,log,nx,rfl,hd,hb,hb2,hcl,hg⟩:=xMQ hA h0;rw [zYT] at hg hcl;rw [hcl] at hg;obtain ⟨Z3,k2,o2,hb3,hg3⟩:=yXO (c:=d) (g:=73) (cf:=rdC) (xs:=rs) (f:=72) (enc:=rdL) rfl (fun _ _ _=>rfl) (fun x hx y hy=>xUX) xGS (fun x hx y hy e1 e2=>by
   have n1:¬ zFM x y:=fun h=>by rw [zHQ.2 h] at e1;cases e1
   have n2:¬ zFM y x:=fun h=>by rw [zHQ.2 h] at e2;cases e2
   rw [zWS n1 n2]) (fun x=>rfl) (fun x _=>yKU x) hlen h0 (by omega) hb2 hg
  have hpm:=Go.Lay.sortL_perm (lt:=yG rdC) rs;obtain ⟨ys,hys⟩:∃ ys,ys=Go.Lay.sortL (yG rdC) rs:=⟨_,rfl⟩;rw [<- hys] at hg3 hpm;have hyl:ys.length=l:=by rw [hpm.length_eq,hlen]
  have hW:Wk Z3 b sp l 0 ys:=⟨hb3,_,nx,hg3,by have:=zQF (enc:=rdL) (xs:=ys) (k:=4) fun x _=>rfl;rw [this,hyl],fun i y _ hy=>yKT ys i y hy⟩;obtain ⟨d4,Z4,k3,o3⟩:=xDW hW hyl hd hl;have hsort:ys.Pairwise fun a b=>¬ zFM b a:=by
   have:=zDX (lt:=yG rdC) xGS.ntrans (fun x y e=>by
    rw [Bool.eq_false_iff];intro e2;have h1:=zHQ.1 e;have h2:=zHQ.1 e2;unfold zFM at h1 h2;omega) rs
   rw [<- hys] at this;exact this.imp fun {a b} e h=>by rw [zHQ.2 h] at e;cases e
  have hle:=xHM hsort (rs:=rs) fun r hr=>hpm.mem_iff.1 hr
  have N:New Z.re Z4:=(n1.of_only o2 (fun x e=>by subst e;exact hb)).of_only o3 (fun x e=>by subst e;exact hb);exact yYP k1 k2 k3 ⟨N,some ⟨b,0,sp⟩,_,d4,rfl,hle,fun a e=>by cases e;have:=o3.y;show b<Z4.y;omega⟩
end
end
section
variable {f:Nat->Int}
def zML (z:Int) (x:Tp):Prop:=(0<=x.c/\x.c<=9)/\zJZ z x.r=true
def zYX (xs:List Tp) (c:Int):Prop:=(wV (xU xs c)).length<=12
section
variable {Z:St}
theorem zAJ {b n:Nat} {m:Int} (h:Own Z b (vX n f) 1) (h0:0<=m) (h1:m<n):zH Tryz.prog Z 3 (zS ⟨b,0,none⟩ (Int.toNat m*1))=some (iV (f m.toNat)):=by
 have:=h.ldI (P:=Tryz.prog) (t:=3) (i:=m.toNat) zT (zOW (by omega));rwa [Int.toNat_of_nonneg h0] at this
theorem xSL {T:Trf} {p:Option Addr} {l c cb:Nat} {xs:List Tp} (h:zDV Z 37 p l xs) (hl:l<=40) (hn:Nmd xs) (hm:∀ x∈xs,0<=x.m/\x.m<=3) (hc:Own Z cb (vX 4 f) 1) (hf:∀ m,m<4->f m=(xF xs m:Int)) :
  ∃ z,zJ Tryz.prog 17 [.agg ⟨trL T⟩,.slice p l c,.slice (some ⟨cb,0,none⟩) 4 4] Z (iV z) Z/\(z=0->(∀ x∈xs,zML T.z x)/\∀ c:Nat,c<10->zYX xs c):=by
 have hlen:=vK h;have h0:=SlV.le h (le0 Z);have c0:=hc.le (le0 Z);have N0:New Z.re (Z.re.row (trL T) 5):=New.row _ _ _;have oT:=zI Z.re (trL T) 5;suffices key:zL Tryz.prog 17 [.agg ⟨trL T⟩,.slice p l c,.slice (some ⟨cb,0,none⟩) 4 4] Z.re fun v s=>Z.y<=s.low/\∃ z,v=iV z/\(z=0->(∀ x∈xs,zML T.z x)/\∀ c:Nat,c<10->zYX xs c) by
  obtain ⟨v,s,h1,h2,z,rfl,h3⟩:=key;exact ⟨z,zNE h1 h2 rfl,h3⟩
 refine xNQ (Pr:=fun _ _=>False) (P0:=fun U=>U=Z.re.row (trL T) 5) (yQR (Inv:=fun k i U=>U=Z.re.row (trL T) 5/\∃ j:Nat,i=j/\j+k=4) ?_ 4 0 _ ⟨rfl,0,rfl,rfl⟩) (fun _ _ h=>h.elim) ?_ (by omega) rfl
 ·rintro k i U ⟨rfl,j,rfl,hk⟩;by_cases hj:j<4
  ·have ld:=(c0.le N0.le).ldI (P:=Tryz.prog) (t:=3) (i:=j) zT (zOW hj);have hb:inB (f j) 0 50=true:=wD.2 (by rw [hf j hj];have:=zCZ (xs:=xs) (m:=j);omega);exact xFF ld (wO hb) ⟨k-1,by omega,rfl,j+1,by omega,by omega⟩ (by omega) ⟨by omega,by omega⟩ ⟨by omega,by omega⟩
  ·exact xFE rfl (by omega)
 rintro U rfl;refine yQM (Pr:=fun z U=>z≠0/\Z.y<=U.low) (P2:=fun U=>New Z.re U/\∀ x∈xs,zML T.z x)
  (yQQ (Inv:=fun k i U=>New (Z.re.row (trL T) 5) U/\∃ s:Nat,i=s/\s+k=l/\∀ x∈xs.take s,zML T.z x) ?_ l 0 _ ⟨New.refl _,0,rfl,by omega,by simp⟩) (fun z U ⟨hz,hl⟩=>yQK ⟨hl,z,rfl,fun e=>absurd e hz⟩) ?_
 ·rintro k i U ⟨hN,s,rfl,hk,hg⟩;by_cases hs:s<l;rotate_left
  ·rw [List.take_of_length_le (by omega)] at hg;exact xFA ⟨N0.trans hN,hg⟩ (by omega)
  have NN:=N0.trans hN;obtain ⟨a,rfl,x,hx,ld⟩:=wS (SlV.le h0 NN.le) hs;have hxm:=List.mem_of_getElem? hx;obtain ⟨m0,m3⟩:=hm x hxm;have N1:New U ((U.row (yH 0 0 0 0 0 0 0) 7).own U.y (tpL x) 7):=(New.row _ _ _).own (Nat.le_refl _);have lw:=(NN.trans N1).lw;have i1:inB x.m 0 3=true:=wD.2 ⟨m0,m3⟩;have lT:=((oT.le hN.le).le N1.le).ldN (P:=Tryz.prog) (t:=24) (k:=0) (ds:=trL T) zHC zCH rfl rfl (by simp);have lc:=zAJ ((c0.le NN.le).le N1.le) m0 (by omega);have hxn:=hn.lt hx;have hfx:f x.m.toNat=(xF xs x.m:Int):=by rw [hf _ (by omega),Int.toNat_of_nonneg m0]
  have i5:inB x.n 0 (f x.m.toNat-1)=true:=wD.2 (by rw [hfx];omega);have hcl:=zCZ (xs:=xs) (m:=x.m);cases i2:inB x.c 0 9 with
  | false=>exact xFB ld (wO i1) (wO i2) ⟨by decide,lw⟩ (by omega) ⟨by omega,by omega⟩
  | true =>
  cases i3:zJZ T.z x.r with
  | false=>exact xFC ld (wO i1) (wO i2) lT (by rw [<- i3];exact yRL) ⟨by decide,lw⟩ (by omega) ⟨by omega,by omega⟩
  | true=>exact xFD ld (wO i1) (wO i2) lT (by rw [<- i3];exact yRL) lc (wO i5) ⟨k-1,by omega,hN.trans N1,s+1,by omega,by omega,fun y hy=>by
    rw [yM hx,List.mem_append,List.mem_singleton] at hy;rcases hy with hy | rfl
    ·exact hg y hy
    ·exact ⟨wD.1 i2,i3⟩⟩ (by omega) ⟨by omega,by omega⟩ ⟨by omega,by omega⟩ ⟨by omega,by omega⟩ ⟨by omega,by omega⟩
 rintro U ⟨hN,hg⟩;have h2:=SlV.le h0 hN.le;refine yQL (P4:=fun U'=>U'=U) (Pr:=fun _ _=>False) (yQP (Inv:=fun k i U'=>U'=U/\∃ s:Nat,i=s/\s+k=l) ?_ l 0 _ ⟨rfl,0,rfl,by omega⟩) ?_ (fun _ _ h=>h.elim)
 ·rintro k i U' ⟨rfl,s,rfl,hk⟩;by_cases hs:s<l;rotate_left
  ·exact xEY rfl (by omega)
  obtain ⟨a,rfl,x,hx,_⟩:=wS h2 hs;have hmx:(xs.map tpV)[s]?=some (.agg ⟨tpL x⟩):=by rw [List.getElem?_map,hx];rfl
  refine xEZ (Pr:=fun _ _=>False) (P6:=fun U''=>U''=U') (yQO (Inv:=fun k' i' U''=>U''=U'/\∃ j:Nat,i'=j/\j+k'=s) ?_ s 0 _ ⟨rfl,0,rfl,by omega⟩) (fun _ _ h=>h.elim) (fun U'' e=>by subst e;exact yQI ⟨k-1,by omega,rfl,s+1,by omega,by omega⟩ ⟨by omega,by omega⟩) (by omega);rintro k' i' U'' ⟨rfl,j,rfl,hk'⟩;by_cases hj:j<s;rotate_left
  ·exact xEV rfl (by omega)
  obtain ⟨y,hy⟩:∃ y,xs[j]?=some y:=⟨xs[j]'(by omega),List.getElem?_eq_getElem _⟩;have hmy:(xs.map tpV)[j]?=some (.agg ⟨tpL y⟩):=by rw [List.getElem?_map,hy];rfl
  have l1:=uF (t':=3) h2 hmx (k:=0) rfl zT;have l2:=uF (t':=3) h2 hmy (k:=0) rfl zT;have nx:∃ k'',k'' < k'/\U''=U''/\∃ j':Nat,(j:Int)+1=j'/\j'+k''=s:=⟨k' - 1,by omega,rfl,j+1,by omega,by omega⟩;by_cases e:x.m=y.m
  ·have hlt:y.n<x.n:=by
    have:=List.pairwise_iff_getElem.1 hn.inc j s (by omega) (by omega) hj;rw [(List.getElem?_eq_some_iff.1 hx).2,(List.getElem?_eq_some_iff.1 hy).2] at this;exact this e.symm
   exact xEX l1 l2 (uF (t':=3) h2 hmx (k:=1) rfl zT) (uF (t':=3) h2 hmy (k:=1) rfl zT) nx (by omega) ⟨by omega,by omega⟩ ⟨by omega,by omega⟩ e (by omega) ⟨by omega,by omega⟩
  ·exact xEW l1 l2 nx (by omega) ⟨by omega,by omega⟩ ⟨by omega,by omega⟩ e ⟨by omega,by omega⟩
 rintro U' rfl;refine yQJ (Pr:=fun z U=>z≠0/\Z.y<=U.low) (P8:=fun U=>Z.y<=U.low/\∀ c:Nat,c<10->zYX xs c)
  (yQN (Inv:=fun k i U=>New Z.re U/\∃ s:Nat,i=s/\s+k=10/\∀ c:Nat,c<s->zYX xs c) ?_ 10 0 _ ⟨hN,0,rfl,rfl,by simp⟩) (fun z U ⟨hz,hl⟩=>yQG ⟨hl,z,rfl,fun e=>absurd e hz⟩) (fun U ⟨hl,hf⟩=>yQH ⟨hl,0,rfl,fun _=>⟨hg,hf⟩⟩)
 rintro k i U ⟨hN,s,rfl,hk,hfw⟩;by_cases hs:s<10;rotate_left
 ·exact xES ⟨hN.lw,fun c hc=>hfw c (by omega)⟩ (by omega)
 obtain ⟨q,d,U2,k1,n1⟩:=xIH (c:=c) (card:=s) (SlV.le h0 hN.le) (by omega);by_cases h12:12<(wV (xU xs s)).length
 ·exact xEU k1 ⟨by decide,(hN.trans n1).lw⟩ (by omega) (by omega)
 ·exact xET k1 ⟨k-1,by omega,hN.trans n1,s+1,by omega,by omega,fun c hc=>by
   by_cases e:c=s
   ·subst e;unfold zYX;omega
   ·exact hfw c (by omega)⟩ (by omega) (by omega) ⟨by omega,by omega⟩
end
end
section
variable {n low high n1 aj:Int} {Z:St} {Q:Value->St->Prop} {b1 b3:Bool} {t_0:Trf} {l s:Option Addr} {l_l l_c s_l s_c:Nat} {v0 v1 s_a:Addr} {x:Tp} {f f1 right:FuncId} {f_c bZ aS:List Value} {Inv:Nat->Int->St->Prop} {Qr Nx Pr:Int->St->Prop} {Q0 P0:St->Prop}
theorem yUZ (nx:Q (.bool true) Z) (u1:low<=n:=by omega) (u2:n<=high:=by omega):zL Pg 35 [iV n,iV low,iV high] Z Q :=
 zK [.g,.g,.g,.b true,.g,.g,.g,.b true,.g,.g] (kd (an2 (uW u1) (uW u2) nx))
theorem xUU (h1:zJ Pg 35 [iV n,iV 0,iV 6] Z (.bool b1) Z) (nx:Q (.bool b1) Z):zL Pg 91 [iV n] Z Q :=
 zK [.g,.g,.c (.bool b1) Z,.g] (kd (And.intro h1 nx))
theorem xBQ (h1:zJ Pg 35 [iV n,iV 0,iV 1439] Z (.bool b1) Z) (nx:Q (.bool b1) Z):zL Pg 92 [iV n] Z Q :=
 zK [.g,.g,.c (.bool b1) Z,.g] (kd (And.intro h1 nx))
theorem xGE (h1:zJ Pg 35 [iV low,iV 0,iV high] (Z.row (trL t_0) 5) (.bool true) (Z.row (trL t_0) 5)) (nx:Q (.bool true) (Z.row (trL t_0) 5)) (u1:high<t_0.z:=by omega):zL Pg 93 [.agg ⟨trL t_0⟩,iV low,iV high] Z Q :=
 let s1:=Z.row (trL t_0) 5;zK [.g,.g,.g,.g,.c (.bool true) s1,.g,.g,.g,.l (iV t_0.z),.b true,.g,.g] (kd (an3 h1 ((zI _ _ _).rw.ld zT (k:=0) rfl:zH Pg s1 3 ⟨Z.y,0,none⟩=some (iV t_0.z)) (zU u1) nx))
theorem xRQ (h1:zJ Pg 35 [iV n,iV 0,iV 10000] Z (.bool b1) Z) (nx:Q (.bool b1) Z):zL Pg 64 [iV n] Z Q :=
 zK [.g,.g,.c (.bool b1) Z,.g] (kd (And.intro h1 nx))
theorem xRP {f2:FuncId} {f2_c:List Value} (h1:zH Pg Z 3 v0=some (iV n1)) (h2:zH Pg Z 102 v1=some (.func (.func f2) ⟨[]⟩ ⟨f2_c⟩)) (h3:zJ Pg 38 [.slice l l_l l_c,.func (.func f2) ⟨[]⟩ ⟨f2_c⟩] Z (.bool b3) Z) (nx:Q (.bool b3) Z) (u1:((l_l:Nat):Int)=n1:=by omega):zL Pg 65 [.slice l l_l l_c,.pointer (some v0),.pointer (some v1)] Z Q :=
 zK [.g,.g,.g,.g,.l (iV n1),.b true,.g,.g,.l (.func (.func f2) ⟨[]⟩ ⟨f2_c⟩),.c (.bool b3) Z,.g,.g] (kd (an4 h1 (vT u1) h2 h3 nx))
theorem xGD (h1:zJ Pg 35 [iV t_0.z,iV 1,iV 4] (((Z.row (trL t_0) 5).row [.nilFunc] 1).own (Z.y+1) [.func (.func 64) ⟨[]⟩ ⟨[]⟩] 1) (.bool true) (((Z.row (trL t_0) 5).row [.nilFunc] 1).own (Z.y+1) [.func (.func 64) ⟨[]⟩ ⟨[]⟩] 1)) (h2:zJ Pg 35 [iV t_0.w,iV 0,iV 1440] (((Z.row (trL t_0) 5).row [.nilFunc] 1).own (Z.y+1) [.func (.func 64) ⟨[]⟩ ⟨[]⟩] 1) (.bool true) (((Z.row (trL t_0) 5).row [.nilFunc] 1).own (Z.y+1) [.func (.func 64) ⟨[]⟩ ⟨[]⟩] 1)) (h3:zJ Pg 65 [.slice t_0.p t_0.pl t_0.pc,.pointer (some ⟨Z.y,0,none⟩),.pointer (some ⟨(Z.y+1),0,none⟩)] (((Z.row (trL t_0) 5).row [.nilFunc] 1).own (Z.y+1) [.func (.func 64) ⟨[]⟩ ⟨[]⟩] 1) (.bool true) (((Z.row (trL t_0) 5).row [.nilFunc] 1).own (Z.y+1) [.func (.func 64) ⟨[]⟩ ⟨[]⟩] 1)) (h4:zJ Pg 65 [.slice t_0.q t_0.ql t_0.qc,.pointer (some ⟨Z.y,0,none⟩),.pointer (some ⟨(Z.y+1),0,none⟩)] (((Z.row (trL t_0) 5).row [.nilFunc] 1).own (Z.y+1) [.func (.func 64) ⟨[]⟩ ⟨[]⟩] 1) (.bool true) (((Z.row (trL t_0) 5).row [.nilFunc] 1).own (Z.y+1) [.func (.func 64) ⟨[]⟩ ⟨[]⟩] 1)) (h5:zJ Pg 65 [.slice t_0.s t_0.sl t_0.sc,.pointer (some ⟨Z.y,0,none⟩),.pointer (some ⟨(Z.y+1),0,none⟩)] (((Z.row (trL t_0) 5).row [.nilFunc] 1).own (Z.y+1) [.func (.func 64) ⟨[]⟩ ⟨[]⟩] 1) (.bool true) (((Z.row (trL t_0) 5).row [.nilFunc] 1).own (Z.y+1) [.func (.func 64) ⟨[]⟩ ⟨[]⟩] 1)) (nx:Q (iV 0) (((Z.row (trL t_0) 5).row [.nilFunc] 1).own (Z.y+1) [.func (.func 64) ⟨[]⟩ ⟨[]⟩] 1)):zL Pg 33 [.agg ⟨trL t_0⟩] Z Q :=
 let s1:=Z.row (trL t_0) 5;let s2:=s1.row [.nilFunc] 1;let s3:=s2.own (Z.y+1) [.func (.func 64) ⟨[]⟩ ⟨[]⟩] 1;zK [.g,.g,.g,.e undef s3,.g,.g,.g,.l (iV t_0.z),.c (.bool true) s3,.g,.g,.g,.l (iV t_0.w),.c (.bool true) s3,.g,.g,.g,.g,.g,.l (.slice t_0.p t_0.pl t_0.pc),.c (.bool true) s3,.g,.g,.g,.g,.g,.l (.slice t_0.q t_0.ql t_0.qc),.c (.bool true) s3,.g,.g,.g,.g,.g,.l (.slice t_0.s t_0.sl t_0.sc),.c (.bool true) s3,.g,.g,.g] (kd (an5 ((zI _ _ _).store (vs:=[.func (.func 64) ⟨[]⟩ ⟨[]⟩]) rfl xOZ rfl (nle rfl) rfl:zN Pg (evL [.pointer (some ⟨(Z.y+1),0,none⟩),.func (.func 64) ⟨[]⟩ ⟨[]⟩]) s2 (.store 102 (.tmp 0) (.tmp 1))=some (undef,s3)) (((zI _ _ _).row.own (nne Z.y 0 1 rfl)).rw.ld zT (k:=0) rfl:zH Pg s3 3 ⟨Z.y,0,none⟩=some (iV t_0.z)) h1 (((zI _ _ _).row.own (nne Z.y 0 1 rfl)).rw.ld zT (k:=4) rfl:zH Pg s3 3 ⟨Z.y,4,none⟩=some (iV t_0.w)) h2 (an6 (((zI _ _ _).row.own (nne Z.y 0 1 rfl)).rw.ld vQ (k:=1) rfl:zH Pg s3 22 ⟨Z.y,1,none⟩=some (.slice t_0.p t_0.pl t_0.pc)) h3 (((zI _ _ _).row.own (nne Z.y 0 1 rfl)).rw.ld vQ (k:=2) rfl:zH Pg s3 22 ⟨Z.y,2,none⟩=some (.slice t_0.q t_0.ql t_0.qc)) h4 (((zI _ _ _).row.own (nne Z.y 0 1 rfl)).rw.ld vQ (k:=3) rfl:zH Pg s3 22 ⟨Z.y,3,none⟩=some (.slice t_0.s t_0.sl t_0.sc)) h5 nx)))
theorem xRH (h1:zJ Pg 35 [iV n,iV 0,iV 50] Z (.bool b1) Z) (nx:Q (.bool b1) Z):zL Pg 34 [iV n] Z Q :=
 zK [.g,.g,.c (.bool b1) Z,.g] (kd (And.intro h1 nx))
theorem xPE {r:Rd} (h1:zJ Pg 91 [iV r.d] ((Z.row (trL t_0) 5).row (rdL r) 4) (.bool true) ((Z.row (trL t_0) 5).row (rdL r) 4)) (h2:zJ Pg 92 [iV r.t] ((Z.row (trL t_0) 5).row (rdL r) 4) (.bool true) ((Z.row (trL t_0) 5).row (rdL r) 4)) (h3:zJ Pg 93 [.agg ⟨trL t_0⟩,iV r.a,iV r.b] ((Z.row (trL t_0) 5).row (rdL r) 4) (.bool b3) ((Z.row (trL t_0) 5).row (rdL r) 4)) (nx:Q (.bool b3) ((Z.row (trL t_0) 5).row (rdL r) 4)):zL Pg 66 [.agg ⟨trL t_0⟩,.agg ⟨rdL r⟩] Z Q :=
 let s1:=Z.row (trL t_0) 5;let s2:=s1.row (rdL r) 4;let s3:=Z.y+1;zK [.g,.g,.g,.g,.l (iV r.d),.c (.bool true) s2,.g,.g,.l (iV r.t),.c (.bool true) s2,.g,.g,.l (.agg ⟨trL t_0⟩),.g,.l (iV r.a),.g,.l (iV r.b),.c (.bool b3) s2,.g,.g] (kd (an2 ((zI _ _ _).rw.ld zT (k:=0) rfl:zH Pg s2 3 ⟨s3,0,none⟩=some (iV r.d)) h1 (an6 ((zI _ _ _).rw.ld zT (k:=1) rfl:zH Pg s2 3 ⟨s3,1,none⟩=some (iV r.t)) h2 ((zI _ _ _).row.rw.ldN yGP zMZ (k:=0) rfl rfl (nle rfl):zH Pg s2 45 ⟨Z.y,0,none⟩=some (.agg ⟨trL t_0⟩)) ((zI _ _ _).rw.ld zT (k:=2) rfl:zH Pg s2 3 ⟨s3,2,none⟩=some (iV r.a)) ((zI _ _ _).rw.ld zT (k:=3) rfl:zH Pg s2 3 ⟨s3,3,none⟩=some (iV r.b)) h3 nx)))
theorem xTH {counts_l counts_c:Nat} {counts_a:Addr} {n3:Int} {b5:Bool} (h1:zJ Pg 35 [iV x.m,iV 0,iV 3] ((Z.row (trL t_0) 5).row (tpL x) 7) (.bool true) ((Z.row (trL t_0) 5).row (tpL x) 7)) (h2:zJ Pg 35 [iV x.c,iV 0,iV 9] ((Z.row (trL t_0) 5).row (tpL x) 7) (.bool true) ((Z.row (trL t_0) 5).row (tpL x) 7)) (h3:zH Pg ((Z.row (trL t_0) 5).row (tpL x) 7) 3 (zS counts_a (Int.toNat x.m*1))=some (iV n3)) (h4:zJ Pg 35 [iV x.n,iV 0,iV (n3-1)] ((Z.row (trL t_0) 5).row (tpL x) 7) (.bool true) ((Z.row (trL t_0) 5).row (tpL x) 7)) (h5:zJ Pg 66 [.agg ⟨trL t_0⟩,.agg ⟨rdL x.r⟩] ((Z.row (trL t_0) 5).row (tpL x) 7) (.bool b5) ((Z.row (trL t_0) 5).row (tpL x) 7)) (nx:Q (.bool b5) ((Z.row (trL t_0) 5).row (tpL x) 7)) (u1:Ix x.m counts_l:=by omega) (u2:I6 (n3-1):=by omega):zL Pg 37 [.agg ⟨trL t_0⟩,.agg ⟨tpL x⟩,.slice (some counts_a) counts_l counts_c] Z Q :=
 let s1:=Z.row (trL t_0) 5;let s2:=s1.row (tpL x) 7;let s3:=Z.y+1;zK [.g,.g,.g,.g,.l (iV x.m),.c (.bool true) s2,.g,.g,.l (iV x.c),.c (.bool true) s2,.g,.g,.g,.l (iV x.n),.g,.g,.l (iV x.m),.i,.l (iV n3),.n (n3-1),.c (.bool true) s2,.g,.g,.l (.agg ⟨trL t_0⟩),.g,.l (.agg ⟨rdL x.r⟩),.c (.bool b5) s2,.g,.g] (kd (And.intro ((zI _ _ _).rw.ld zT (k:=0) rfl:zH Pg s2 3 ⟨s3,0,none⟩=some (iV x.m)) (an6 h1 ((zI _ _ _).rw.ld zT (k:=2) rfl:zH Pg s2 3 ⟨s3,2,none⟩=some (iV x.c)) h2 ((zI _ _ _).rw.ld zT (k:=1) rfl:zH Pg s2 3 ⟨s3,1,none⟩=some (iV x.n)) ((zI _ _ _).rw.ld zT (k:=0) rfl:zH Pg s2 3 ⟨s3,0,none⟩=some (iV x.m)) u1 (an6 h3 (w64 u2) h4 ((zI _ _ _).row.rw.ldN yGP zMZ (k:=0) rfl rfl (nle rfl):zH Pg s2 45 ⟨Z.y,0,none⟩=some (.agg ⟨trL t_0⟩)) ((zI _ _ _).rw.ldN yQE zJK (k:=3) rfl rfl (nle rfl):zH Pg s2 75 ⟨s3,3,none⟩=some (.agg ⟨rdL x.r⟩)) h5 nx))))
theorem xOQ {T1:Trf} {q2:Option Addr} {l2 c2:Nat} (h1:zH Pg (Z.row (tpL x) 7) 45 v0=some (.agg ⟨trL T1⟩)) (h2:zH Pg (Z.row (tpL x) 7) 22 v1=some (.slice q2 l2 c2)) (h3:zJ Pg 37 [.agg ⟨trL T1⟩,.agg ⟨tpL x⟩,.slice q2 l2 c2] (Z.row (tpL x) 7) (.bool b3) (Z.row (tpL x) 7)) (nx:Q (.bool b3) (Z.row (tpL x) 7)):zL Pg 36 [.agg ⟨tpL x⟩,.pointer (some v0),.pointer (some v1)] Z Q :=
 let s1:=Z.row (tpL x) 7;zK [.g,.g,.l (.agg ⟨trL T1⟩),.l (.agg ⟨tpL x⟩),.l (.slice q2 l2 c2),.c (.bool b3) s1,.g] (kd (an4 h1 ((zI _ _ _).rw.ldN yZY zJJ (k:=0) rfl rfl (nle rfl):zH Pg s1 78 ⟨Z.y,0,none⟩=some (.agg ⟨tpL x⟩)) h2 h3 nx))
theorem xRF (h1:zJ Pg 94 [.slice s s_l s_c,.func (.func f) ⟨[]⟩ ⟨f_c⟩] Z (iV n1) Z) (nx:Q (.bool false) Z) (u1:¬ 0<=n1:=by omega):zL Pg 67 [.slice s s_l s_c,.func (.func f) ⟨[]⟩ ⟨f_c⟩] Z Q :=
 zK [.g,.g,.g,.c (iV n1) Z,.b false,.g] (kd (an2 h1 (zDP u1) nx))
noncomputable def yZN:Code:=(Code.part [1,0,1,0,0] (zR Pg 94))
def zQA (s:Option Addr) (s_l s_c:Nat) (f:FuncId) (f_c:List Value) (aj:Int):List (Nat × Value):=[(0,.slice s s_l s_c),(1,.func (.func f) ⟨[]⟩ ⟨f_c⟩),(7,iV ((s_l:Nat):Int)),(8,iV aj)]
def xKX (s:Option Addr) (s_l s_c:Nat) (f:FuncId) (f_c:List Value) (Q:Int->St->Prop):Alt:=⟨Int,.normal,fun t=>zQA s s_l s_c f f_c t,fun t=>[],fun t Z=>Q t Z⟩
def yFK (s:Option Addr) (s_l s_c:Nat) (f:FuncId) (f_c:List Value) (ao:Int):List (Nat × Value):=[(4,iV ao)]
def zSY (s:Option Addr) (s_l s_c:Nat) (f:FuncId) (f_c:List Value) (Q:Int->St->Prop):Alt:=⟨Int,.ret,fun t=>yFK s s_l s_c f f_c t,fun t=>[],fun t Z=>Q t Z⟩
def yFL (s:Option Addr) (s_l s_c:Nat) (f:FuncId) (f_c:List Value):List (Nat × Value):=[]
def zSZ (s:Option Addr) (s_l s_c:Nat) (f:FuncId) (f_c:List Value) (Q:St->Prop):Alt:=⟨Unit,(.exit 0),fun t=>yFL s s_l s_c f f_c,fun t=>[],fun t Z=>Q Z⟩
def yIY (s:Option Addr) (s_l s_c:Nat) (f:FuncId) (f_c:List Value) (aj:Int) (Z:St) (Nx:Int->St->Prop) (Qr:Int->St->Prop) (Q0:St->Prop):Prop:=xK Pg (zW Pg) none yZN 19 (zQA s s_l s_c f f_c aj) [] [xKX s s_l s_c f f_c Nx,zSY s s_l s_c f f_c Qr,zSZ s s_l s_c f f_c Q0] Z
def yZO (s:Option Addr) (s_l s_c:Nat) (f:FuncId) (f_c:List Value) (aj:Int) (Z:St) (Qr:Int->St->Prop) (Q0:St->Prop):Prop:=xO Pg (zW Pg) none yZN 19 (zQA s s_l s_c f f_c aj) [] [zSY s s_l s_c f f_c Qr,zSZ s s_l s_c f f_c Q0] Z
theorem yUX (hb:∀ k aj Z,Inv k aj Z->yIY s s_l s_c f f_c aj Z (NX1 Inv k) Qr Q0):∀ k aj Z,Inv k aj Z->yZO s s_l s_c f f_c aj Z Qr Q0 :=
 uH (And.intro zAW (And.intro (vN 0) trivial)) hb
theorem xKW {nA:Int} (h1:zH Pg Z 3 (zS s_a (Int.toNat aj*1))=some (iV nA)) (h2:zJ Pg f (iV nA::f_c) Z (.bool false) Z) (nx:Nx (aj+1) Z) (u1:aj<((s_l:Nat):Int):=by omega) (u2:Ix aj s_l:=by omega) (u3:I6 (aj+1):=by omega):yIY (some s_a) s_l s_c f f_c aj Z Nx Qr Q0 :=
 kO 0 (aj+1) [.b true,.g,.g,.g,.g,.g,.i,.l (iV nA),.c (.bool false) Z,.n (aj+1),.g] (fun _ f=>(an5 (zU u1) u2 h1 h2 (w64 u3) f)) nx
theorem xKV (nx:Q0 Z) (u1:¬ aj<((s_l:Nat):Int):=by omega):yIY s s_l s_c f f_c aj Z Nx Qr Q0 :=
 kO 2 () [.b false] (fun _ f=>(And.intro (zY u1) f)) nx
def xCL (s:Option Addr) (s_l s_c:Nat) (f:FuncId) (f_c:List Value) (ao:Int) (Z:St) (Q:Value->St->Prop):Prop:=∀ g:Nat->Value,∃ an,Hid (kAt Pg (zW Pg) none (zR Pg 94) [1,0,1,0] (kFn Pg 94 Q) .ret ⟨Fm 19 (ov (yFK s s_l s_c f f_c ao) g),[]⟩ Z an)
def yFM (s:Option Addr) (s_l s_c:Nat) (f:FuncId) (f_c:List Value) (Z:St) (Q:Value->St->Prop):Prop:=∀ g:Nat->Value,∃ an,Hid (kAt Pg (zW Pg) none (zR Pg 94) [1,0,1,0] (kFn Pg 94 Q) (.exit 0) ⟨Fm 19 (ov (yFL s s_l s_c f f_c) g),[]⟩ Z an)
theorem xQI (hL:yZO s s_l s_c f f_c 0 Z Pr P0) (kr:∀ i4_1' Z',Pr i4_1' Z'->xCL s s_l s_c f f_c i4_1' Z' Q) (k0:∀ Z',P0 Z'->yFM s s_l s_c f f_c Z' Q):zL Pg 94 [.slice s s_l s_c,.func (.func f) ⟨[]⟩ ⟨f_c⟩] Z Q :=
 zK [.g,.g,.g,.g,.lf 19 (zQA s s_l s_c f f_c 0) [zSY s s_l s_c f f_c Pr,zSZ s s_l s_c f f_c P0]] (kd (And.intro (And.intro tt (And.intro (arf (zQA s s_l s_c f f_c 0)) hL)) (And.intro (kz1 kr) (And.intro (kz0 k0) trivial))))
theorem yUW (nx:Q (iV (-1)) Z):yFM s s_l s_c f f_c Z Q :=
 sK [.g] nx
theorem xND {x:Int} (h1:zH Pg Z 102 v0=some (.func (.func f1) ⟨[]⟩ ⟨bZ⟩)) (h2:zJ Pg f1 (iV x::bZ) Z (.bool true) Z) (nx:Q (.bool false) Z):zL Pg 68 [iV x,.pointer (some v0)] Z Q :=
 zK [.g,.l (.func (.func f1) ⟨[]⟩ ⟨bZ⟩),.g,.c (.bool true) Z,.g,.g] (kd (an2 h1 h2 nx))
theorem xSF (h1:zJ Pg 67 [.slice l l_l l_c,.func (.func 68) ⟨[]⟩ ⟨[.pointer (some ⟨Z.y,0,none⟩)]⟩] (Z.row [.func (.func right) ⟨[]⟩ ⟨aS⟩] 1) (.bool false) (Z.row [.func (.func right) ⟨[]⟩ ⟨aS⟩] 1)) (nx:Q (.bool true) (Z.row [.func (.func right) ⟨[]⟩ ⟨aS⟩] 1)):zL Pg 38 [.slice l l_l l_c,.func (.func right) ⟨[]⟩ ⟨aS⟩] Z Q :=
 zK [.g,.g,.g,.g,.c (.bool false) (Z.row [.func (.func right) ⟨[]⟩ ⟨aS⟩] 1),.g,.g] (kd (And.intro h1 nx))
theorem xRE (h1:zJ Pg 95 [.slice s s_l s_c,.func (.func f) ⟨[]⟩ ⟨f_c⟩] Z (iV n1) Z) (nx:Q (.bool false) Z) (u1:¬ 0<=n1:=by omega):zL Pg 69 [.slice s s_l s_c,.func (.func f) ⟨[]⟩ ⟨f_c⟩] Z Q :=
 zK [.g,.g,.g,.c (iV n1) Z,.b false,.g] (kd (an2 h1 (zDP u1) nx))
noncomputable def yZL:Code:=(Code.part [1,0,1,0,0] (zR Pg 95))
def zPZ (s:Option Addr) (s_l s_c:Nat) (f:FuncId) (f_c:List Value) (aj:Int):List (Nat × Value):=[(0,.slice s s_l s_c),(1,.func (.func f) ⟨[]⟩ ⟨f_c⟩),(7,iV ((s_l:Nat):Int)),(8,iV aj)]
def xKU (s:Option Addr) (s_l s_c:Nat) (f:FuncId) (f_c:List Value) (Q:Int->St->Prop):Alt:=⟨Int,.normal,fun t=>zPZ s s_l s_c f f_c t,fun t=>[],fun t Z=>Q t Z⟩
def yFH (s:Option Addr) (s_l s_c:Nat) (f:FuncId) (f_c:List Value) (ao:Int):List (Nat × Value):=[(4,iV ao)]
def zSV (s:Option Addr) (s_l s_c:Nat) (f:FuncId) (f_c:List Value) (Q:Int->St->Prop):Alt:=⟨Int,.ret,fun t=>yFH s s_l s_c f f_c t,fun t=>[],fun t Z=>Q t Z⟩
def yFI (s:Option Addr) (s_l s_c:Nat) (f:FuncId) (f_c:List Value):List (Nat × Value):=[]
def zSW (s:Option Addr) (s_l s_c:Nat) (f:FuncId) (f_c:List Value) (Q:St->Prop):Alt:=⟨Unit,(.exit 0),fun t=>yFI s s_l s_c f f_c,fun t=>[],fun t Z=>Q Z⟩
def yIX (s:Option Addr) (s_l s_c:Nat) (f:FuncId) (f_c:List Value) (aj:Int) (Z:St) (Nx:Int->St->Prop) (Qr:Int->St->Prop) (Q0:St->Prop):Prop:=xK Pg (zW Pg) none yZL 19 (zPZ s s_l s_c f f_c aj) [] [xKU s s_l s_c f f_c Nx,zSV s s_l s_c f f_c Qr,zSW s s_l s_c f f_c Q0] Z
def yZM (s:Option Addr) (s_l s_c:Nat) (f:FuncId) (f_c:List Value) (aj:Int) (Z:St) (Qr:Int->St->Prop) (Q0:St->Prop):Prop:=xO Pg (zW Pg) none yZL 19 (zPZ s s_l s_c f f_c aj) [] [zSV s s_l s_c f f_c Qr,zSW s s_l s_c f f_c Q0] Z
theorem yUV (hb:∀ k aj Z,Inv k aj Z->yIX s s_l s_c f f_c aj Z (NX1 Inv k) Qr Q0):∀ k aj Z,Inv k aj Z->yZM s s_l s_c f f_c aj Z Qr Q0 :=
 uH (And.intro zAW (And.intro (vN 0) trivial)) hb
theorem xKT {xA:Tp} (h1:zH Pg Z 78 (zS s_a (Int.toNat aj*7))=some (.agg ⟨tpL xA⟩)) (h2:zJ Pg f (.agg ⟨tpL xA⟩::f_c) Z (.bool false) Z) (nx:Nx (aj+1) Z) (u1:aj<((s_l:Nat):Int):=by omega) (u2:Ix aj s_l:=by omega) (u3:I6 (aj+1):=by omega):yIX (some s_a) s_l s_c f f_c aj Z Nx Qr Q0 :=
 kO 0 (aj+1) [.b true,.g,.g,.g,.g,.g,.i,.l (.agg ⟨tpL xA⟩),.c (.bool false) Z,.n (aj+1),.g] (fun _ f=>(an5 (zU u1) u2 h1 h2 (w64 u3) f)) nx
theorem xKS (nx:Q0 Z) (u1:¬ aj<((s_l:Nat):Int):=by omega):yIX s s_l s_c f f_c aj Z Nx Qr Q0 :=
 kO 2 () [.b false] (fun _ f=>(And.intro (zY u1) f)) nx
def xCK (s:Option Addr) (s_l s_c:Nat) (f:FuncId) (f_c:List Value) (ao:Int) (Z:St) (Q:Value->St->Prop):Prop:=∀ g:Nat->Value,∃ an,Hid (kAt Pg (zW Pg) none (zR Pg 95) [1,0,1,0] (kFn Pg 95 Q) .ret ⟨Fm 19 (ov (yFH s s_l s_c f f_c ao) g),[]⟩ Z an)
def yFJ (s:Option Addr) (s_l s_c:Nat) (f:FuncId) (f_c:List Value) (Z:St) (Q:Value->St->Prop):Prop:=∀ g:Nat->Value,∃ an,Hid (kAt Pg (zW Pg) none (zR Pg 95) [1,0,1,0] (kFn Pg 95 Q) (.exit 0) ⟨Fm 19 (ov (yFI s s_l s_c f f_c) g),[]⟩ Z an)
theorem xQH (hL:yZM s s_l s_c f f_c 0 Z Pr P0) (kr:∀ i4_1' Z',Pr i4_1' Z'->xCK s s_l s_c f f_c i4_1' Z' Q) (k0:∀ Z',P0 Z'->yFJ s s_l s_c f f_c Z' Q):zL Pg 95 [.slice s s_l s_c,.func (.func f) ⟨[]⟩ ⟨f_c⟩] Z Q :=
 zK [.g,.g,.g,.g,.lf 19 (zPZ s s_l s_c f f_c 0) [zSV s s_l s_c f f_c Pr,zSW s s_l s_c f f_c P0]] (kd (And.intro (And.intro tt (And.intro (arf (zPZ s s_l s_c f f_c 0)) hL)) (And.intro (kz1 kr) (And.intro (kz0 k0) trivial))))
theorem yUU (nx:Q (iV (-1)) Z):yFJ s s_l s_c f f_c Z Q :=
 sK [.g] nx
theorem xNB (h1:zH Pg (Z.row (tpL x) 7) 104 v0=some (.func (.func f1) ⟨[]⟩ ⟨bZ⟩)) (h2:zJ Pg f1 (.agg ⟨tpL x⟩::bZ) (Z.row (tpL x) 7) (.bool true) (Z.row (tpL x) 7)) (nx:Q (.bool false) (Z.row (tpL x) 7)):zL Pg 70 [.agg ⟨tpL x⟩,.pointer (some v0)] Z Q :=
 let s1:=Z.row (tpL x) 7;zK [.g,.g,.l (.func (.func f1) ⟨[]⟩ ⟨bZ⟩),.l (.agg ⟨tpL x⟩),.c (.bool true) s1,.g,.g] (kd (an3 h1 ((zI _ _ _).rw.ldN yZY zJJ (k:=0) rfl rfl (nle rfl):zH Pg s1 78 ⟨Z.y,0,none⟩=some (.agg ⟨tpL x⟩)) h2 nx))
theorem xSE (h1:zJ Pg 69 [.slice l l_l l_c,.func (.func 70) ⟨[]⟩ ⟨[.pointer (some ⟨Z.y,0,none⟩)]⟩] (Z.row [.func (.func right) ⟨[]⟩ ⟨aS⟩] 1) (.bool false) (Z.row [.func (.func right) ⟨[]⟩ ⟨aS⟩] 1)) (nx:Q (.bool true) (Z.row [.func (.func right) ⟨[]⟩ ⟨aS⟩] 1)):zL Pg 39 [.slice l l_l l_c,.func (.func right) ⟨[]⟩ ⟨aS⟩] Z Q :=
 zK [.g,.g,.g,.g,.c (.bool false) (Z.row [.func (.func right) ⟨[]⟩ ⟨aS⟩] 1),.g,.g] (kd (And.intro h1 nx))
end
section
variable {p q:Option Addr} {len cap b:Nat} {g:FuncId} {gc:List Value} {xs cs:List Int} {T:Trf} {f:Nat->Int}
section
variable {Z:St}
theorem yCL {n lo hi:Int} (h:inB n lo hi=true):zJ Pg 35 [iV n,iV lo,iV hi] Z (.bool true) Z:=(yUZ ⟨rfl,Nat.le_refl _⟩ (wD.1 h).1 (wD.1 h).2).pure
theorem xUQ (hs:zCD Z p len xs) (hl:len<=1000000) (hc:∀ x∈xs,∀ U,Le Z U->zJ Pg g (zBA x::gc) U (.bool true) U) (o:Own Z b [.func (.func g) ⟨[]⟩ ⟨gc⟩] 1) :
  zJ Pg 94 [.slice p len cap,.func (.func 68) ⟨[]⟩ ⟨[.pointer (some ⟨b,0,none⟩)]⟩] Z (iV (-1)) Z:=by
 refine zL.pure (xQI (Pr:=fun _ _=>False) (P0:=fun U'=>U'=Z.re) (yUX (Inv:=fun k i U'=>U'=Z.re/\∃ j:Nat,i=j/\j+k=len) ?_ len 0 Z.re ⟨rfl,0,rfl,by omega⟩) (fun _ _ h=>h.elim) (fun U' e=>by subst e;exact yUW ⟨rfl,Nat.le_refl _⟩));rintro k i U' ⟨rfl,j,rfl,hk⟩;by_cases hj:j<len
 ·obtain ⟨a,rfl,x,hx,ld⟩:=wS (SlV.le hs (le0 Z)) hj;have q:zJ Pg 68 [zBA x,.pointer (some ⟨b,0,none⟩)] Z.re (.bool false) Z.re:=zL.pure (xND (((o.le (le0 Z)).le (le0 Z.re)).ld rfl xNL rfl) (hc x (List.mem_of_getElem? hx) _ ((le0 Z).trans (le0 Z.re))) ⟨rfl,Nat.le_refl _⟩);exact xKW ld q ⟨k-1,by omega,rfl,j+1,by omega,by omega⟩ (by omega) ⟨by omega,by omega⟩ ⟨by omega,by omega⟩
 ·exact xKV rfl (by omega)
theorem xNC (hs:zCD Z p len xs) (hl:len<=1000000) (hc:∀ x∈xs,∀ U,Le Z U->zJ Pg g (zBA x::gc) U (.bool true) U) :
  zJ Pg 38 [.slice p len cap,.func (.func g) ⟨[]⟩ ⟨gc⟩] Z (.bool true) Z:=by
 have N:New Z.re (Z.re.row [.func (.func g) ⟨[]⟩ ⟨gc⟩] 1):=New.row _ _ _;have L:=(le0 Z).trans N.le;refine zL.pure (xSF (zL.pure (xRF (n1:=-1) (xUQ ((SlV.le hs L).le (le0 _)) hl (fun x hx U hU=>hc x hx U ((L.trans (le0 _)).trans hU)) ((zI _ _ _).le (le0 _))) ⟨rfl,Nat.le_refl _⟩ (by omega))) ⟨rfl,N.lw⟩)
theorem xUP {xs:List Tp} (hs:zDV Z 78 p len xs) (hl:len<=1000000) (hc:∀ x∈xs,∀ U,Le Z U->zJ Pg g (tpV x::gc) U (.bool true) U) (o:Own Z b [.func (.func g) ⟨[]⟩ ⟨gc⟩] 1) :
  zJ Pg 95 [.slice p len cap,.func (.func 70) ⟨[]⟩ ⟨[.pointer (some ⟨b,0,none⟩)]⟩] Z (iV (-1)) Z:=by
 refine zL.pure (xQH (Pr:=fun _ _=>False) (P0:=fun U'=>U'=Z.re) (yUV (Inv:=fun k i U'=>U'=Z.re/\∃ j:Nat,i=j/\j+k=len) ?_ len 0 Z.re ⟨rfl,0,rfl,by omega⟩) (fun _ _ h=>h.elim) (fun U' e=>by subst e;exact yUU ⟨rfl,Nat.le_refl _⟩));rintro k i U' ⟨rfl,j,rfl,hk⟩;by_cases hj:j<len
 ·obtain ⟨a,rfl,x,hx,ld⟩:=wS (SlV.le hs (le0 Z)) hj;have N:New Z.re.re (Z.re.re.row (tpL x) 7):=New.row _ _ _;have L:=((le0 Z).trans (le0 Z.re)).trans N.le;have q:zJ Pg 70 [tpV x,.pointer (some ⟨b,0,none⟩)] Z.re (.bool false) Z.re:=zL.pure (xNB ((o.le L).ld rfl xVN rfl) (hc x (List.mem_of_getElem? hx) _ L) ⟨rfl,N.lw⟩);exact xKT ld q ⟨k-1,by omega,rfl,j+1,by omega,by omega⟩ (by omega) ⟨by omega,by omega⟩ ⟨by omega,by omega⟩
 ·exact xKS rfl (by omega)
theorem xVK {xs:List Tp} (hs:zDV Z 78 p len xs) (hl:len<=1000000) (hc:∀ x∈xs,∀ U,Le Z U->zJ Pg g (tpV x::gc) U (.bool true) U) :
  zJ Pg 39 [.slice p len cap,.func (.func g) ⟨[]⟩ ⟨gc⟩] Z (.bool true) Z:=by
 have N:New Z.re (Z.re.row [.func (.func g) ⟨[]⟩ ⟨gc⟩] 1):=New.row _ _ _;have L:=(le0 Z).trans N.le;refine zL.pure (xSE (zL.pure (xRE (n1:=-1) (xUP ((SlV.le hs L).le (le0 _)) hl (fun x hx U hU=>hc x hx U ((L.trans (le0 _)).trans hU)) ((zI _ _ _).le (le0 _))) ⟨rfl,Nat.le_refl _⟩ (by omega))) ⟨rfl,N.lw⟩)
theorem yVP {l c:Nat} {b2:Nat} {cs:List Value} {z:Int} (h:zCD Z p l xs) (hl:l<=1000000) (hx:prB xs z=true) (o1:Row Z ⟨b,0,none⟩ (iV z::cs)) (o2:Own Z b2 [.func (.func 64) ⟨[]⟩ ⟨[]⟩] 1) :
  zJ Pg 65 [.slice p l c,.pointer (some ⟨b,0,none⟩),.pointer (some ⟨b2,0,none⟩)] Z (.bool true) Z:=by
 unfold prB at hx;simp only [Bool.and_eq_true,decide_eq_true_eq] at hx;have hlen:=vK h;refine zL.pure (xRP ((o1.le (le0 Z)).ld (k:=0) zT rfl) ((o2.le (le0 Z)).ld rfl xNL rfl) (xNC (SlV.le h (le0 Z)) hl fun x hm U _=>?_) ⟨rfl,Nat.le_refl _⟩ (by rw [<- hlen];exact hx.2));exact zL.pure (xRQ (yCL (List.all_eq_true.1 hx.1 x hm)) ⟨rfl,Nat.le_refl _⟩)
theorem xOH {A B C:List Int} (h:TrfP Z T A B C) (hT:okT T A B C=true) (h1:T.pl<=8) (h2:T.ql<=8) (h3:T.sl<=8):zJ Pg 33 [.agg ⟨trL T⟩] Z (iV 0) Z:=by
 unfold okT at hT;simp only [Bool.and_eq_true] at hT;obtain ⟨e1,e2,e3,e4,e5⟩:=hT;have N:New Z.re (((Z.re.row (trL T) 5).row [.nilFunc] 1).own (Z.y+1) [.func (.func 64) ⟨[]⟩ ⟨[]⟩] 1):=((New.row _ _ _).row').own (by show Z.y<=Z.y+1;omega);have h':=(h.le (le0 Z)).le N.le;have o1:Row (((Z.re.row (trL T) 5).row [.nilFunc] 1).own (Z.y+1) [.func (.func 64) ⟨[]⟩ ⟨[]⟩] 1) ⟨Z.y,0,none⟩ (trL T):=(((zI Z.re (trL T) 5).row).own (by show Z.y≠Z.y+1;omega)).rw;have o2:Own (((Z.re.row (trL T) 5).row [.nilFunc] 1).own (Z.y+1) [.func (.func 64) ⟨[]⟩ ⟨[]⟩] 1) (Z.y+1) [.func (.func 64) ⟨[]⟩ ⟨[]⟩] 1:=(zI (Z.re.row (trL T) 5) [.nilFunc] 1).put;exact (xGD (yCL e1) (yCL e2) (yVP h'.a (by omega) e3 o1 o2) (yVP h'.b (by omega) e4 o1 o2) (yVP h'.c (by omega) e5 o1 o2) ⟨rfl,N.lw⟩).pure
theorem xTS {r:Rd} (h:zJZ T.z r=true):zJ Pg 66 [.agg ⟨trL T⟩,.agg ⟨rdL r⟩] Z (.bool true) Z:=by
 unfold zJZ at h;simp only [Bool.and_eq_true,decide_eq_true_eq] at h;obtain ⟨e1,e2,e3,e4⟩:=h;have N:New Z.re ((Z.re.row (trL T) 5).row (rdL r) 4):=(New.row _ _ _).row';have kz:zJ Pg 93 [.agg ⟨trL T⟩,iV r.a,iV r.b] ((Z.re.row (trL T) 5).row (rdL r) 4) (.bool true) ((Z.re.row (trL T) 5).row (rdL r) 4):=(xGE (yCL e3) ⟨rfl,(New.row _ _ _:New (St.re _) _).lw⟩ e4).pure;exact (xPE (xUU (yCL e1) ⟨rfl,Nat.le_refl _⟩).pure (xBQ (yCL e2) ⟨rfl,Nat.le_refl _⟩).pure kz ⟨rfl,N.lw⟩).pure
def ySI (z:Int) (f:Nat->Int) (x:Tp):Prop:=(0<=x.m/\x.m<=3)/\zML z x/\0<=x.n/\x.n<f x.m.toNat
theorem xRG {m:Int} (h:zCD Z q 4 cs) (hf:∀ k,k<4->cs[k]?=some (f k)) (h0:0<=m) (h1:m<=3):∃ a,q=some a/\zH Pg Z 3 (zS a (Int.toNat m*1))=some (iV (f m.toNat)):=by
 obtain ⟨a,rfl,x,hx,ld⟩:=wS (i:=m.toNat) h (by omega);rw [hf _ (by omega)] at hx;cases hx
 rw [Int.toNat_of_nonneg h0] at ld;exact ⟨a,rfl,ld⟩
theorem xWB {x:Tp} {d:Nat} (h:zCD Z q 4 cs) (hf:∀ k,k<4->cs[k]?=some (f k)) (hb:∀ k,k<4->0<=f k/\f k<=50) (hx:ySI T.z f x):zJ Pg 37 [.agg ⟨trL T⟩,.agg ⟨tpL x⟩,.slice q 4 d] Z (.bool true) Z:=by
 obtain ⟨⟨m0,m3⟩,⟨⟨c0,c9⟩,hr⟩,n0,n1⟩:=hx;have N:New Z.re ((Z.re.row (trL T) 5).row (tpL x) 7):=(New.row _ _ _).row';obtain ⟨a,rfl,ld⟩:=xRG ((SlV.le h (le0 Z)).le N.le) hf m0 m3;have:=hb x.m.toNat (by omega)
 exact (xTH (yCL (wD.2 ⟨m0,m3⟩)) (yCL (wD.2 ⟨c0,c9⟩)) ld (yCL (wD.2 ⟨n0,by omega⟩)) (xTS hr) ⟨rfl,N.lw⟩ ⟨by omega,by omega⟩ ⟨by omega,by omega⟩).pure
end
end
section
variable {BA taps_l taps_c:Nat} {taps:Option Addr} {Q1:Bool->St->Prop} {t11_1:Bool} {i51_1 i93_2:Int} {Z:St} {Nx:Bool->Int->St->Prop} {Q:Value->St->Prop} {Qr:Int->St->Prop} {Q3:St->Prop}
noncomputable def yXW:Code:=(Code.part [1,0,1,1,1,1,1,1,1,0,1,0,0] (zR Pg 18))
def zVE (BA:Nat) (taps:Option Addr) (taps_l taps_c:Nat) (t11_1:Bool) (i51_1:Int):List (Nat × Value):=[(6,.pointer (some ⟨BA,0,none⟩)),(11,.bool t11_1),(49,.slice taps taps_l taps_c),(50,iV ((taps_l:Nat):Int)),(51,iV i51_1)]
def xID (BA:Nat) (taps:Option Addr) (taps_l taps_c:Nat) (Q:Bool->Int->St->Prop):Alt:=⟨Bool × Int,.normal,fun t=>zVE BA taps taps_l taps_c t.1 t.2,fun t=>[],fun t Z=>Q t.1 t.2 Z⟩
def yDW (BA:Nat) (taps:Option Addr) (taps_l taps_c:Nat) (t11_1:Bool):List (Nat × Value):=[(6,.pointer (some ⟨BA,0,none⟩)),(11,.bool t11_1)]
def zRR (BA:Nat) (taps:Option Addr) (taps_l taps_c:Nat) (Q:Bool->St->Prop):Alt:=⟨Bool,(.exit 1),fun t=>yDW BA taps taps_l taps_c t,fun t=>[],fun t Z=>Q t Z⟩
def zVF (BA:Nat) (taps:Option Addr) (taps_l taps_c:Nat) (t11_1:Bool) (i51_1:Int) (Z:St) (Nx:Bool->Int->St->Prop) (Q1:Bool->St->Prop):Prop:=xK Pg (zW Pg) none yXW 113 (zVE BA taps taps_l taps_c t11_1 i51_1) [] [xID BA taps taps_l taps_c Nx,zRR BA taps taps_l taps_c Q1] Z
def yXY (BA:Nat) (taps:Option Addr) (taps_l taps_c:Nat) (t11_1:Bool) (i51_1:Int) (Z:St) (Q1:Bool->St->Prop):Prop:=xO Pg (zW Pg) none yXW 113 (zVE BA taps taps_l taps_c t11_1 i51_1) [] [zRR BA taps taps_l taps_c Q1] Z
theorem ySO {Inv:Nat->Bool->Int->St->Prop} (hb:∀ k t11_1 i51_1 Z,Inv k t11_1 i51_1 Z->zVF BA taps taps_l taps_c t11_1 i51_1 Z (NX2 Inv k) Q1):∀ k t11_1 i51_1 Z,Inv k t11_1 i51_1 Z->yXY BA taps taps_l taps_c t11_1 i51_1 Z Q1 :=
 zXS (And.intro (vN 1) trivial) hb
theorem xIB {mB mC lD cD lM cL:Nat} {taps_a:Addr} {xA xD:Tp} {ZK ZL ZF:St} {qC qL:Option Addr} (h1:zH Pg Z 78 (zS taps_a (Int.toNat i51_1*7))=some (.agg ⟨tpL xA⟩)) (h2:zH Pg ((((Z.row (yH 0 0 0 0 0 0 0) 7).own Z.y (tpL xA) 7).row [iV 0,iV 0] 2).own (Z.y+1) [iV xA.m,iV xA.n] 2) 68 ⟨BA,10,none⟩=some (.map (some mB))) (h3:xV Pg (evL [.map (some mB),.agg ⟨[iV xA.m,iV xA.n]⟩]) ((((Z.row (yH 0 0 0 0 0 0 0) 7).own Z.y (tpL xA) 7).row [iV 0,iV 0] 2).own (Z.y+1) [iV xA.m,iV xA.n] 2) (.lookup 68 (.tmp 0) (.tmp 1) true)=some (.tuple ⟨[.agg ⟨tpL xD⟩,.bool false]⟩)) (h4:zH Pg ((((((Z.row (yH 0 0 0 0 0 0 0) 7).own Z.y (tpL xA) 7).row [iV 0,iV 0] 2).own (Z.y+1) [iV xA.m,iV xA.n] 2).row (yH 0 0 0 0 0 0 0) 7).own (Z.y+2) (tpL xD) 7) 68 ⟨BA,10,none⟩=some (.map (some mC))) (h5:zN Pg (evL [.map (some mC),.agg ⟨[iV xA.m,iV xA.n]⟩,.agg ⟨tpL xA⟩]) ((((((Z.row (yH 0 0 0 0 0 0 0) 7).own Z.y (tpL xA) 7).row [iV 0,iV 0] 2).own (Z.y+1) [iV xA.m,iV xA.n] 2).row (yH 0 0 0 0 0 0 0) 7).own (Z.y+2) (tpL xD) 7) (.mapUpdate 68 (.tmp 0) (.tmp 1) (.tmp 2))=some (undef,ZK)) (h6:zH Pg ZK 3 ⟨Z.y,2,none⟩=some (iV xA.c)) (h7:zH Pg ZK 66 ⟨BA,0+Int.toNat xA.c*1,none⟩=some (.slice qC lD cD)) (h8:zH Pg ZK 75 ⟨Z.y,3,none⟩=some (.agg ⟨rdL xA.r⟩)) (h9:yA Pg 66 66 (.slice qC lD cD) (.slice (some ⟨ZK.y,0,none⟩) 1 1) (ZK.row (rdL xA.r) 4)=some (.slice qL lM cL,ZL)) (h10:zN Pg (evL [.pointer (some ⟨BA,0+Int.toNat xA.c*1,none⟩),.slice qL lM cL]) ZL (.store 66 (.tmp 0) (.tmp 1))=some (undef,ZF)) (h11:zX ZK.y [.pointer (some ⟨Z.y,2,none⟩)]) (h12:zX ZK.y [.pointer (some ⟨BA,0+Int.toNat xA.c*1,none⟩)]) (h13:zX ZK.y [.pointer (some ⟨Z.y,3,none⟩)]) (h14:zX (ZK.row (rdL xA.r) 4).y [.slice qC lD cD,.slice (some ⟨ZK.y,0,none⟩) 1 1]) (h15:zX ZL.y [.pointer (some ⟨BA,0+Int.toNat xA.c*1,none⟩),.slice qL lM cL]) (h16:(((⟨Z.y,2,none⟩:Addr).block<ZK.y/\yB RD (iV xA.c)=true)/\zH Pg ZK 3 ⟨Z.y,2,none⟩=some (iV xA.c))) (h17:(((⟨Z.y,2,none⟩:Addr).block<(ZK.row (rdL xA.r) 4).y/\yB RD (iV xA.c)=true)/\zH Pg (ZK.row (rdL xA.r) 4) 3 ⟨Z.y,2,none⟩=some (iV xA.c))) (h18:(((⟨Z.y,2,none⟩:Addr).block<ZL.y/\yB RD (iV xA.c)=true)/\zH Pg ZL 3 ⟨Z.y,2,none⟩=some (iV xA.c))) (h19:(((⟨BA,0+Int.toNat xA.c*1,none⟩:Addr).block<ZK.y/\yB RD (.slice qC lD cD)=true)/\zH Pg ZK 66 ⟨BA,0+Int.toNat xA.c*1,none⟩=some (.slice qC lD cD))) (h20:(((⟨BA,0+Int.toNat xA.c*1,none⟩:Addr).block<(ZK.row (rdL xA.r) 4).y/\yB RD (.slice qC lD cD)=true)/\zH Pg (ZK.row (rdL xA.r) 4) 66 ⟨BA,0+Int.toNat xA.c*1,none⟩=some (.slice qC lD cD))) (nx:Nx t11_1 (i51_1+1) ZF) (u1:i51_1<((taps_l:Nat):Int):=by omega) (u2:Ix i51_1 taps_l:=by omega) (u3:Ix xA.c 10:=by omega) (u4:I6 (i51_1+1):=by omega):zVF BA (some taps_a) taps_l taps_c t11_1 i51_1 Z Nx Q1 :=
 let s1:=Z.row (yH 0 0 0 0 0 0 0) 7;let s2:=s1.own Z.y (tpL xA) 7;let s3:=s2.row [iV 0,iV 0] 2;let s7:=Z.y+1;let s4:=s3.own s7 [iV xA.m,iV xA.n] 2;let s5:=s4.row (yH 0 0 0 0 0 0 0) 7;let s6:=s5.own (Z.y+2) (tpL xD) 7;kO 0 (t11_1,i51_1+1) [.b true,.i,.l (.agg ⟨tpL xA⟩),.g,.e undef s2,.g,.l (iV xA.m),.g,.l (iV xA.n),.g,.g,.e undef s4,.g,.l (.map (some mB)),.l (.agg ⟨[iV xA.m,iV xA.n]⟩),.v (.tuple ⟨[.agg ⟨tpL xD⟩,.bool false]⟩),.g,.g,.g,.g,.e undef s6,.g,.g,.g,.g,.g,.l (.map (some mC)),.l (.agg ⟨[iV xA.m,iV xA.n]⟩),.l (.agg ⟨tpL xA⟩),.e undef ZK,.g,.l (iV xA.c),.g,.l (iV xA.c),.g,.i,.l (.slice qC lD cD),.g,.l (.agg ⟨rdL xA.r⟩),.g,.e (.slice qL lM cL) ZL,.g,.i,.e undef ZF,.n (i51_1+1),.g] (fun _ f=>(an3 (zU u1) u2 h1 (an6 ((zI _ _ _).store (vs:=(tpL xA)) rfl zJJ rfl (nle rfl) rfl:zN Pg (evL [.pointer (some ⟨Z.y,0,none⟩),.agg ⟨tpL xA⟩]) s1 (.store 78 (.tmp 0) (.tmp 1))=some (undef,s2)) ((zI _ _ _).put.rw.ld zT (k:=0) rfl:zH Pg s2 3 ⟨Z.y,0,none⟩=some (iV xA.m)) ((zI _ _ _).put.rw.ld zT (k:=1) rfl:zH Pg s2 3 ⟨Z.y,1,none⟩=some (iV xA.n)) ((zI _ _ _).store (vs:=[iV xA.m,iV xA.n]) rfl yHO rfl (nle rfl) rfl:zN Pg (evL [.pointer (some ⟨s7,0,none⟩),.agg ⟨[iV xA.m,iV xA.n]⟩]) s3 (.store 108 (.tmp 0) (.tmp 1))=some (undef,s4)) h2 ((zI _ _ _).put.rw.ldN xNK yHO (k:=0) rfl rfl (nle rfl):zH Pg s4 108 ⟨s7,0,none⟩=some (.agg ⟨[iV xA.m,iV xA.n]⟩)) (an6 h3 ((zI _ _ _).store (vs:=(tpL xD)) rfl zJJ rfl (nle rfl) rfl:zN Pg (evL [.pointer (some ⟨(Z.y+2),0,none⟩),.agg ⟨tpL xD⟩]) s5 (.store 78 (.tmp 0) (.tmp 1))=some (undef,s6)) h4 (((zI _ _ _).put.row.own (nne Z.y 1 2 rfl)).rw.ldN xNK yHO (k:=0) rfl rfl (nle rfl):zH Pg s6 108 ⟨s7,0,none⟩=some (.agg ⟨[iV xA.m,iV xA.n]⟩)) ((((zI _ _ _).put.row.own (nne Z.y 0 1 rfl)).row.own (nne Z.y 0 2 rfl)).rw.ldN yZY zJJ (k:=0) rfl rfl (nle rfl):zH Pg s6 78 ⟨Z.y,0,none⟩=some (.agg ⟨tpL xA⟩)) h5 (an6 h6 h6 u3 h7 h8 h9 (an6 u3 h10 h11 h11 h12 h13 (an6 ((zM (zCR rfl) zO):zX ZK.y [.agg ⟨rdL xA.r⟩]) h14 h15 h16 h17 h17 (an6 h18 h16 h17 h19 h20 (w64 u4) f)))))))) nx
theorem xIA (nx:Q1 t11_1 Z) (u1:¬ i51_1<((taps_l:Nat):Int):=by omega):zVF BA taps taps_l taps_c t11_1 i51_1 Z Nx Q1 :=
 kO 1 t11_1 [.b false] (fun _ f=>(And.intro (zY u1) f)) nx
def yDY (BA:Nat) (taps:Option Addr) (taps_l taps_c:Nat) (t11_1:Bool) (Z:St) (Q:Value->St->Prop):Prop:=∀ g:Nat->Value,∃ an,Hid (kAt Pg (zW Pg) none (zR Pg 18) [1,0,1,1,1,1,1,1,1,0,1,0] (kFn Pg 18 Q) (.exit 1) ⟨Fm 113 (ov (yDW BA taps taps_l taps_c t11_1) g),[]⟩ Z an)
theorem xPI {t_0:Trf} {counts:Option Addr} {counts_l counts_c:Nat} {n1:Int} {P1:Bool->St->Prop} (h1:zJ Pg 33 [.agg ⟨trL t_0⟩] (((Z.row (trL t_0) 5).row [.slice counts counts_l counts_c] 1).row (zBL none) 11) (iV n1) (((Z.row (trL t_0) 5).row [.slice counts counts_l counts_c] 1).row (zBL none) 11)) (h2:zJ Pg 38 [.slice counts counts_l counts_c,.func (.func 34) ⟨[]⟩ ⟨[]⟩] (((Z.row (trL t_0) 5).row [.slice counts counts_l counts_c] 1).row (zBL none) 11) (.bool true) (((Z.row (trL t_0) 5).row [.slice counts counts_l counts_c] 1).row (zBL none) 11)) (h3:zJ Pg 39 [.slice taps taps_l taps_c,.func (.func 36) ⟨[]⟩ ⟨[.pointer (some ⟨Z.y,0,none⟩),.pointer (some ⟨(Z.y+1),0,none⟩)]⟩] (((Z.row (trL t_0) 5).row [.slice counts counts_l counts_c] 1).row (zBL none) 11) (.bool true) (((Z.row (trL t_0) 5).row [.slice counts counts_l counts_c] 1).row (zBL none) 11)) (hL:yXY (Z.y+2) taps taps_l taps_c false 0 (((((Z.row (trL t_0) 5).row [.slice counts counts_l counts_c] 1).row (zBL none) 11).add (.map [])).own (Z.y+2) (zBL (some (Z.y+3))) 11) P1) (k1:∀ t11_1' Z',P1 t11_1' Z'->yDY (Z.y+2) taps taps_l taps_c t11_1' Z' Q) (u1:n1=0:=by omega) (u2:¬ 40<((taps_l:Nat):Int):=by omega) (u3:((counts_l:Nat):Int)=4:=by omega):zL Pg 18 [.agg ⟨trL t_0⟩,.slice taps taps_l taps_c,.slice counts counts_l counts_c] Z Q :=
 let s1:=Z.row (trL t_0) 5;let s2:=s1.row [.slice counts counts_l counts_c] 1;let s3:=s2.row (zBL none) 11;let s4:=s3.add (.map []);let s6:=zVE (Z.y+2) taps taps_l taps_c false 0;let s7:=some (Z.y+3);let s5:=s4.own (Z.y+2) (zBL s7) 11;zK [.g,.g,.g,.g,.l (.agg ⟨trL t_0⟩),.c (iV n1) s3,.g,.g,.b false,.g,.g,.g,.g,.g,.b false,.g,.l (.slice counts counts_l counts_c),.g,.b false,.g,.l (.slice counts counts_l counts_c),.g,.c (.bool true) s3,.g,.g,.g,.g,.g,.c (.bool true) s3,.g,.g,.g,.g,.e undef s5,.g,.g,.g,.g,.lf 113 s6 [zRR (Z.y+2) taps taps_l taps_c P1]] (kd (an4 ((zI _ _ _).row.row.rw.ldN yGP zMZ (k:=0) rfl rfl (nle rfl):zH Pg s3 45 ⟨Z.y,0,none⟩=some (.agg ⟨trL t_0⟩)) h1 (xN u1) (zY u2) (an6 ((zI _ _ _).row.rw.ld vQ (k:=0) rfl:zH Pg s3 22 ⟨(Z.y+1),0,none⟩=some (.slice counts counts_l counts_c)) (xN u3) ((zI _ _ _).row.rw.ld vQ (k:=0) rfl:zH Pg s3 22 ⟨(Z.y+1),0,none⟩=some (.slice counts counts_l counts_c)) h2 h3 ((zI _ _ _).add.store (vs:=[.map s7]) rfl xTK rfl (nle rfl) rfl:zN Pg (evL [.pointer (some ⟨(Z.y+2),10,none⟩),.map s7]) s4 (.store 68 (.tmp 0) (.tmp 1))=some (undef,s5)) (And.intro (And.intro tt (And.intro (arf s6) hL)) (And.intro (kz1 k1) trivial)))))
noncomputable def yXV:Code:=(Code.part [1,0,1,1,1,1,1,1,1,1,1,0,1,0,0] (zR Pg 18))
def zPH (BA:Nat) (i93_2:Int):List (Nat × Value):=[(6,.pointer (some ⟨BA,0,none⟩)),(93,iV i93_2)]
def xIC (BA:Nat) (Q:Int->St->Prop):Alt:=⟨Int,.normal,fun t=>zPH BA t,fun t=>[],fun t Z=>Q t Z⟩
def yDU (BA:Nat) (i7_2:Int):List (Nat × Value):=[(6,.pointer (some ⟨BA,0,none⟩)),(7,iV i7_2)]
def zRP (BA:Nat) (Q:Int->St->Prop):Alt:=⟨Int,.ret,fun t=>yDU BA t,fun t=>[],fun t Z=>Q t Z⟩
def yDV (BA:Nat):List (Nat × Value):=[(6,.pointer (some ⟨BA,0,none⟩))]
def zRQ (BA:Nat) (Q:St->Prop):Alt:=⟨Unit,(.exit 3),fun t=>yDV BA,fun t=>[],fun t Z=>Q Z⟩
def yHS (BA:Nat) (i93_2:Int) (Z:St) (Nx:Int->St->Prop) (Qr:Int->St->Prop) (Q3:St->Prop):Prop:=xK Pg (zW Pg) none yXV 113 (zPH BA i93_2) [] [xIC BA Nx,zRP BA Qr,zRQ BA Q3] Z
def yXX (BA:Nat) (i93_2:Int) (Z:St) (Qr:Int->St->Prop) (Q3:St->Prop):Prop:=xO Pg (zW Pg) none yXV 113 (zPH BA i93_2) [] [zRP BA Qr,zRQ BA Q3] Z
theorem ySN {Inv:Nat->Int->St->Prop} (hb:∀ k i93_2 Z,Inv k i93_2 Z->yHS BA i93_2 Z (NX1 Inv k) Qr Q3):∀ k i93_2 Z,Inv k i93_2 Z->yXX BA i93_2 Z Qr Q3 :=
 uH (And.intro zAW (And.intro (vN 3) trivial)) hb
theorem xHZ {lN cM lJB cHB lKB cSB:Nat} {qM qHB qSB:Option Addr} {ZP ZIB:St} {Nx:Int->St->Prop} (h1:zH Pg Z 66 ⟨BA,0+Int.toNat i93_2*1,none⟩=some (.slice qM lN cM)) (h2:zJ Pg 40 [.slice qM lN cM] Z (.slice qHB lJB cHB) ZP) (h3:zN Pg (evL [.pointer (some ⟨BA,0+Int.toNat i93_2*1,none⟩),.slice qHB lJB cHB]) ZP (.store 66 (.tmp 0) (.tmp 1))=some (undef,ZIB)) (h4:zH Pg ZIB 66 ⟨BA,0+Int.toNat i93_2*1,none⟩=some (.slice qSB lKB cSB)) (nx:Nx (i93_2+1) ZIB) (u1:i93_2<10:=by omega) (u2:Ix i93_2 10:=by omega) (u3:¬ 12<((lKB:Nat):Int):=by omega) (u4:I6 (i93_2+1):=by omega):yHS BA i93_2 Z Nx Qr Q3 :=
 kO 0 (i93_2+1) [.b true,.g,.g,.g,.g,.g,.i,.l (.slice qM lN cM),.c (.slice qHB lJB cHB) ZP,.g,.i,.e undef ZIB,.g,.g,.i,.l (.slice qSB lKB cSB),.g,.b false,.n (i93_2+1),.g] (fun _ f=>(an4 (zU u1) u2 h1 h2 (an6 u2 h3 u2 h4 (zY u3) (w64 u4) f))) nx
theorem xHY {Nx:Int->St->Prop} (nx:Q3 Z) (u1:¬ i93_2<10:=by omega):yHS BA i93_2 Z Nx Qr Q3 :=
 kO 2 () [.b false] (fun _ f=>(And.intro (zY u1) f)) nx
def xAY (BA:Nat) (i7_2:Int) (Z:St) (Q:Value->St->Prop):Prop:=∀ g:Nat->Value,∃ an,Hid (kAt Pg (zW Pg) none (zR Pg 18) [1,0,1,1,1,1,1,1,1,1,1,0,1,0] (kFn Pg 18 Q) .ret ⟨Fm 113 (ov (yDU BA i7_2) g),[]⟩ Z an)
def yDX (BA:Nat) (Z:St) (Q:Value->St->Prop):Prop:=∀ g:Nat->Value,∃ an,Hid (kAt Pg (zW Pg) none (zR Pg 18) [1,0,1,1,1,1,1,1,1,1,1,0,1,0] (kFn Pg 18 Q) (.exit 3) ⟨Fm 113 (ov (yDV BA) g),[]⟩ Z an)
theorem ySM {Pr:Int->St->Prop} {P3:St->Prop} (hL:yXX BA 0 Z Pr P3) (kr:∀ i7_2' Z',Pr i7_2' Z'->xAY BA i7_2' Z' Q) (k3:∀ Z',P3 Z'->yDX BA Z' Q):yDY BA taps taps_l taps_c false Z Q :=
 sK [.g,.g,.lf 113 (zPH BA 0) [zRP BA Pr,zRQ BA P3]] (And.intro (And.intro tt (And.intro (arf (zPH BA 0)) hL)) (And.intro (kz1 kr) (And.intro (kz0 k3) trivial)))
theorem ySL {cs2912 cs2914:List Value} {ZJB:St} (h1:zH Pg Z 70 ⟨BA,0,none⟩=some (.agg ⟨cs2912⟩)) (h2:zN Pg (evL [.pointer (some ⟨BA,0,none⟩),.agg ⟨cs2912⟩]) Z (.store 70 (.tmp 0) (.tmp 1))=some (undef,ZJB)) (h3:zH Pg ZJB 70 ⟨BA,0,none⟩=some (.agg ⟨cs2914⟩)) (nx:Q (.tuple ⟨[.agg ⟨cs2914⟩,iV 0]⟩) ZJB):yDX BA Z Q :=
 sK [.l (.agg ⟨cs2912⟩),.e undef ZJB,.g,.l (.agg ⟨cs2914⟩)] (an3 h1 h2 h3 nx)
end
section
variable {b n t:Nat} {cs:List Value} {j:Int} {v:Value}
abbrev zBC (xs:List Tp) (k:Int × Int):Option Tp:=zMN (fun x:Tp=>(x.m,x.n)) xs k
theorem yIT:KeyT Pg 108 zPU:=xWJ (by kernel_rfl) (fun e x y=>by kernel_rfl)
theorem xPY:zDR Pg 68=some (108,78):=by kernel_rfl
def tp0:Tp:=⟨0,0,0,⟨0,0,0,0⟩⟩
theorem yRN:uQ Pg 78=some (tpV tp0):=by kernel_rfl
theorem xLX (r:Rd):zGZ Pg 75 4 (rdV r):=.inr ⟨yQE,zJK,_,rfl,rfl⟩
structure RdI (Z U:St) (xs:List Tp) (cs:List Value):Prop where
 new:New Z.re U
 nx:Z.y+4<=U.y
 own:Own U (Z.y+2) cs 11
 len:cs.length=11
 cell:cs.all cellB=true
 mp:cs[10]?=some (.map (some (Z.y+3)))
 map:zBR Pg U (Z.y+3) zPU tpV (zBC xs)
 sl:∀ c:Nat,c<10->∃ q d,cs[c]?=some (.slice q (xU xs c).length d)/\Gr Pg U (Z.y+4) 75 4 q (xU xs c).length d ((xU xs c).map rdV)
 ap:∀ (c c':Nat) (q q':Option Addr) (l l' d d':Nat),c≠c'->cs[c]?=some (.slice q l d)->cs[c']?=some (.slice q' l' d')->∀ b,AtP q b->¬ AtP q' b
section
variable {Z U:St}
theorem yIC (h:Own Z b cs n) (ht:vE Pg t=some false) (h0:0<=j) (hv:cs[j.toNat]?=some v):zH Pg Z t (zS ⟨b,0,none⟩ (Int.toNat j*1))=some v:=by
 have:=h.ldI (P:=Pg) (t:=t) (i:=j.toNat) ht hv;rwa [Int.toNat_of_nonneg h0] at this
theorem yYJ (h:Own Z b cs n) (hv:v.cells.toList=[v]) (hs:yU Pg t=some 1) (hc:cellB v=true) (h0:0<=j) (hi:j.toNat<cs.length) :
  zN Pg (evL [.pointer (some (zS ⟨b,0,none⟩ (Int.toNat j*1))),v]) Z (.store t (.tmp 0) (.tmp 1))=some (undef,Z.own b (cs.set j.toNat v) n):=by
 have:=h.stI (P:=Pg) (t:=t) (i:=j.toNat) (v:=v) hv hs hc hi;rwa [Int.toNat_of_nonneg h0] at this
theorem yZX {i:Nat} (h:cs.all cellB=true) (hv:cellB v=true):(cs.set i v).all cellB=true :=
 List.all_eq_true.2 fun w hw=>by
  rcases List.mem_or_eq_of_mem_set hw with h1 | rfl
  ·exact List.all_eq_true.1 h w h1
  ·exact hv
theorem RdI.step {xs:List Tp} {x:Tp} {a:Addr} {l c:Nat} {i:Int} {t:Bool} {Nx:Bool->Int->St->Prop} {Q1:Bool->St->Prop} (h:RdI Z U xs cs) (hk:zBC xs (x.m,x.n)=none) (hc:0<=x.c/\x.c<=9) (hl:xs.length<=1000)
  (ld:zH Pg U 78 (zS a (Int.toNat i*7))=some (tpV x)) (hi:0<=i/\i<(l:Int)) (hl2:l<=1000) (hn:∀ U' cs',RdI Z U' (xs++[x]) cs'->Nx t (i+1) U'):zVF (Z.y+2) (some a) l c t i U Nx Q1:=by
 obtain ⟨hN,hnx,hO,hlen,hcell,hmp,hM,hsl,hap⟩:=h;obtain ⟨s1,hs1⟩:∃ s1,s1=(((U.row (yH 0 0 0 0 0 0 0) 7).own U.y (tpL x) 7).row [iV 0,iV 0] 2).own (U.y+1) [iV x.m,iV x.n] 2:=⟨_,rfl⟩;have N1:New U s1:=by rw [hs1];exact (((New.row _ _ _).own (Nat.le_refl _)).row').own (by simp)
 have n1:s1.y=U.y+2:=by rw [hs1];rfl
 have x1:Own s1 U.y (tpL x) 7:=by rw [hs1];exact (((zI U (yH 0 0 0 0 0 0 0) 7).put (ds:=tpL x)).row).own (by simp)
 obtain ⟨s2,hs2⟩:∃ s2,s2=(s1.row (yH 0 0 0 0 0 0 0) 7).own s1.y (tpL tp0) 7:=⟨_,rfl⟩;have N12:New s1 s2:=by rw [hs2];exact (New.row _ _ _).own (Nat.le_refl _)
 have N2:=N1.trans N12;have n2:s2.y=U.y+3:=by rw [hs2];show s1.y+1=_;omega
 have x2:=x1.le N12.le;have hML:=hM.1;have lk:=(hM.le N1.le).look0 yIT xPY yRN hk;have lm1:=(hO.le N1.le).ld (P:=Pg) (t:=68) rfl xNG hmp;have lm2:=(hO.le N2.le).ld (P:=Pg) (t:=68) rfl xNG hmp;obtain ⟨es,u1,u2⟩:=(hM.le N2.le).put yIT xPY (x.m,x.n) x;obtain ⟨s3,hs3⟩:∃ s3,s3=s2.put (Z.y+3) (.map es):=⟨_,rfl⟩;rw [<- hs3] at u1 u2;have K3:Only (·=Z.y+3) s2 s3:=by rw [hs3];exact Only.put (.inr rfl)
 have n3:s3.y=U.y+3:=by rw [hs3];exact n2
 have x3:=K3.own' x2 (by omega);have O3:=K3.own' (hO.le N2.le) (by omega);obtain ⟨j,hj⟩:∃ j:Nat,x.c=j:=⟨x.c.toNat,by omega⟩;have hjn:x.c.toNat=j:=by omega
 obtain ⟨q,d,hq,hg⟩:=hsl j (by omega);have hbd:∀ b,AtP q b->Z.y+4<=b:=fun b hb=>(hg.bd hb).1
 have g3:=(hg.le N2.le).only K3 (fun b hb e=>by have:=hbd b hb;omega);have lq:∀ s,Own s (Z.y+2) cs 11->zH Pg s 66 (zS ⟨Z.y+2,0,none⟩ (Int.toNat x.c*1))=some (.slice q (xU xs j).length d):=fun s hs=>yIC hs xNH hc.1 (by rw [hjn];exact hq)
 have lx:∀ s,Own s U.y (tpL x) 7->zH Pg s 3 ⟨U.y,2,none⟩=some (iV x.c):=fun s hs=>hs.ld rfl zT rfl
 have lr:=x3.ldN (P:=Pg) (t:=75) (k:=3) (ds:=rdL x.r) yQE zJK rfl rfl (by simp);have hrl:(xU xs j).length<=xs.length:=by unfold xU;rw [List.length_map];exact List.length_filter_le _ _
 obtain ⟨q2,d2,s4,f1,f2,f3,f4⟩:=zGW (rdV x.r) yAR g3 (Le.refl s3) (xLX _) (by omega) (by omega) (e:=rfl) (hc:=rfl);have r3:New s3 (s3.row (rdL x.r) 4):=New.row _ _ _;have hno:∀ b,b<Z.y+4->¬ AtP q b:=fun b hb hp=>by have:=hbd b hp;omega
 have O4:=f3.own' (O3.le r3.le) (hno _ (by omega));have hlt:∀ b,AtP q b->b<U.y:=fun b hb=>(hg.bd hb).2
 have x4:=f3.own' (x3.le r3.le) (fun hp=>by have:=hlt _ hp;omega);have st:=yYJ (j:=x.c) (v:=.slice q2 ((xU xs j).length+1) d2) O4 rfl xHH rfl hc.1 (by omega);obtain ⟨s5,hs5⟩:∃ s5,s5=s4.own (Z.y+2) (cs.set j (.slice q2 ((xU xs j).length+1) d2)) 11:=⟨_,rfl⟩;rw [show cs.set x.c.toNat (.slice q2 ((xU xs j).length+1) d2)=cs.set j (.slice q2 ((xU xs j).length+1) d2) by rw [hjn],<- hs5] at st;have K5:Only (·=Z.y+2) s4 s5:=by rw [hs5];exact Only.own (.inr rfl)
 have n4:s3.y+1<=s4.y:=f3.y;have hq2:∀ b,AtP q2 b->Z.y+4<=b:=fun b hb=>(f2.bd hb).1
 have bel:∀ s:St,∀ b k,b<s.y->zX s.y [.pointer (some ⟨b,k,none⟩)]:=fun s b k hb=>zM (zV hb) zO
 have RR:RdI Z s5 (xs++[x]) (cs.set j (.slice q2 ((xU xs j).length+1) d2)):=by
  have e1:xU (xs++[x]) j=xU xs j++[x.r]:=by rw [zJN,if_pos hj]
  refine ⟨?_, ?_, ?_,by rw [List.length_set];exact hlen,yZX hcell rfl,by rw [List.getElem?_set_ne (by omega)];exact hmp, ?_,fun c' hc'=>?_, ?_⟩
  ·refine (((hN.trans N2).of_only K3 fun b e=>?_).trans r3).of_only f3 (fun b hb=>?_) |>.of_only K5 fun b e=>?_
   ·show Z.y<=b;omega
   ·have:=hbd b hb;show Z.y<=b;omega
   ·show Z.y<=b;omega
  ·have:=K5.y;omega
  ·rw [hs5];exact O4.put
  ·have m3:=u2.le r3.le;have m4:=m3.at_ (f3.get _ m3.1 (hno _ (by omega))) f3.y;have m5:=m4.at_ (K5.get _ m4.1 (by omega)) K5.y;have e:zBC (xs++[x])=fun k'=>if k'=(x.m,x.n) then some x else zBC xs k':=funext fun k'=>zYW hk
   rw [e];exact m5
  ·by_cases e:c'=j
   ·subst e;refine ⟨q2,d2, ?_, ?_⟩
    ·rw [e1,List.length_append,List.getElem?_set_self (by omega)];rfl
    ·rw [e1,List.length_append,List.map_append];exact f2.only K5 (fun b hb e=>by have:=hq2 b hb;omega)
   ·obtain ⟨q',d',h1,h2⟩:=hsl c' hc';have e2:xU (xs++[x]) c'=xU xs c':=by rw [zJN,if_neg (by omega),List.append_nil]
    have hb':∀ b,AtP q' b->Z.y+4<=b:=fun b hb=>(h2.bd hb).1
    refine ⟨q',d',by rw [e2,List.getElem?_set_ne (fun e3=>e e3.symm)];exact h1, ?_⟩
    rw [e2];have g4:=((h2.le N2.le).only K3 (fun b hb e=>by have:=hb' b hb;omega)).le r3.le;exact (g4.only f3 (fun b hb=>hap _ _ _ _ _ _ _ _ e h1 hq b hb)).only K5 (fun b hb e=>by have:=hb' b hb;omega)
  ·have key:∀ (c':Nat) (q':Option Addr) (l' d':Nat),c'≠j->cs[c']?=some (.slice q' l' d')->∀ b,AtP q2 b->¬ AtP q' b:=by
    intro c' q' l' d' hne hq' b hb hb';rcases f4 b hb with h1 | h1
    ·exact hap _ _ _ _ _ _ _ _ hne hq' hq b hb' h1
    ·have hc10:c' < 10:=by
      have hc11:=(List.getElem?_eq_some_iff.1 hq').1;by_cases e:c'=10
      ·subst e;rw [hmp] at hq';cases hq'
      ·omega
     obtain ⟨q'',d'',h2,h3⟩:=hsl c' hc10;rw [hq'] at h2;cases h2
     have:=(h3.bd hb').2;omega
   intro c1 c2 q1 q2' l1 l2 d1 d2' hne h1 h2 b hb;rw [List.getElem?_set] at h1 h2;by_cases e1:j=c1
   ·rw [if_pos e1,if_pos (by omega)] at h1;rw [if_neg (by omega)] at h2;cases h1
    exact key c2 _ _ _ (by omega) h2 b hb
   ·rw [if_neg e1] at h1;by_cases e2:j=c2
    ·rw [if_pos e2,if_pos (by omega)] at h2;cases h2
     exact fun hb2=>key c1 _ _ _ (by omega) h1 b hb2 hb
    ·rw [if_neg e2] at h2;exact hap _ _ _ _ _ _ _ _ hne h1 h2 b hb
 have b3:∀ s:St,s3.y<=s.y->((⟨U.y,2,none⟩:Addr).block<s.y/\yB RD (iV x.c)=true):=fun s hs=>⟨by show U.y<s.y;omega,rfl⟩
 have b4:∀ s:St,s3.y<=s.y->((zS ⟨Z.y+2,0,none⟩ (Int.toNat x.c*1)).block<s.y/\yB RD (.slice q (xU xs j).length d)=true):=fun s hs=>⟨by show Z.y+2<s.y;omega,by cases q <;> rfl⟩
 have hrow:(s3.row (rdL x.r) 4).y=s3.y+1:=rfl;have bq:xL RD (s3.row (rdL x.r) 4).y (.slice q (xU xs j).length d)=true:=zEH fun a e=>by have:=hlt _ ⟨a,e,rfl⟩;omega
 have bq2:xL RD s4.y (.slice q2 ((xU xs j).length+1) d2)=true:=zEH fun a e=>(f2.bd ⟨a,e,rfl⟩).2
 have nxt:=hn s5 _ RR;have lm2':zH Pg s2 68 ⟨Z.y+2,10,none⟩=some (.map (some (Z.y+3))):=lm2;subst hs1;subst hs2;exact xIB ld lm1 lk lm2' u1 (lx _ x3) (lq _ O3) lr f1 st (bel _ _ _ (by omega)) (bel _ _ _ (by omega)) (bel _ _ _ (by omega)) (zM bq (zM (zBK (Nat.lt_succ_self _)) zO)) (zM (zV (by show Z.y+2<_;omega)) (zM bq2 zO))
  ⟨b3 _ (Nat.le_refl _),lx _ x3⟩ ⟨b3 _ (by omega),lx _ (x3.le r3.le)⟩ ⟨b3 _ (by omega),lx _ x4⟩ ⟨b4 _ (Nat.le_refl _),lq _ O3⟩ ⟨b4 _ (by omega),lq _ (O3.le r3.le)⟩ nxt (by omega) ⟨by omega,by omega⟩ ⟨by omega,by omega⟩ ⟨by omega,by omega⟩
end
end
structure RdJ (Z U:St) (xs:List Tp) (s:Nat) (cs:List Value):Prop where
 new:New Z.re U
 own:Own U (Z.y+2) cs 11
 len:cs.length=11
 cell:cs.all cellB=true
 mp:cs[10]?=some (.map (some (Z.y+3)))
 map:zBR Pg U (Z.y+3) zPU tpV (zBC xs)
 sl:∀ c:Nat,s<=c->c<10->∃ (q:Option Addr) (n d:Nat),cs[c]?=some (.slice q n d)/\(q=none\/0<n)/\xSM U 75 q n (xU xs c)/\∀ b,AtP q b->Z.y+4<=b
section
variable {Z U:St}
theorem xWO {n0 t n len c:Nat} {p:Option Addr} {vs:List Value} (h:Gr Pg Z n0 t n p len c vs):p=none\/0<len:=by
 have ha:=h.app;generalize wI vs=cs at ha;cases ha with
 | nil=>exact .inl rfl
 | more _ _ _ _ _ h6 _=>exact .inr h6
theorem xGR {cs:List Value} {m:Nat} (h:cs[10]?=some (.map (some m))):zQ RD (.tuple ⟨[.agg ⟨cs⟩,iV 0]⟩)=false:=by
 cases hr:zQ RD (.tuple ⟨[.agg ⟨cs⟩,iV 0]⟩) with
 | false=>rfl
 | true =>
  have h1:(cs.all (zQ 6) && true)=true:=by
   have:zQ RD (.tuple ⟨[.agg ⟨cs⟩,iV 0]⟩)=(cs.all (zQ 6) && (true && true)):=rfl;rw [this] at hr;simpa using hr
  rw [Bool.and_true] at h1;have:=List.all_eq_true.1 h1 _ (List.mem_of_getElem? h);cases this
theorem xTV {T:Trf} {A B C:List Int} {p q:Option Addr} {l c d:Nat} {xs:List Tp} {ns:List Int} {f:Nat->Int} (hT:TrfP Z T A B C) (hok:okT T A B C=true) (h1:T.pl<=8) (h2:T.ql<=8) (h3:T.sl<=8) (hx:zDV Z 78 p l xs) (hl:l<=40) (hc:zCD Z q 4 ns) (hf:∀ k,k<4->ns[k]?=some (f k)) (hb:∀ k,k<4->0<=f k/\f k<=50)
  (hr:∀ x∈xs,ySI T.z f x) (hd:xs.Pairwise fun x y=>x.m=y.m->x.n<y.n) (hfew:∀ c:Nat,c<10->zYX xs c) :
  ∃ cs m Z',zJ Pg 18 [.agg ⟨trL T⟩,.slice p l c,.slice q 4 d] Z (.tuple ⟨[.agg ⟨cs⟩,iV 0]⟩) Z'/\New Z Z'/\cs.length=11/\cs.all cellB=true/\cs[10]?=some (.map (some m))/\zBR Pg Z' m zPU tpV (zBC xs):=by
 have hlen:=vK hx;refine (zL.new (P:=Pg) (f:=18) (args:=[.agg ⟨trL T⟩,.slice p l c,.slice q 4 d]) (Z:=Z) (Q:=fun v s=>∃ cs m,v=.tuple ⟨[.agg ⟨cs⟩,iV 0]⟩/\cs.length=11/\cs.all cellB=true/\cs[10]?=some (.map (some m))/\zBR Pg s m zPU tpV (zBC xs)) ?_ (by rintro v s s' ⟨cs,m,rfl,g1,g2,g3,g4⟩ hle;exact ⟨cs,m,rfl,g1,g2,g3,g4.le hle⟩) (by
  rintro v s hrg ⟨cs,m,rfl,g1,g2,g3,g4⟩;rw [xGR g3] at hrg;cases hrg)).elim fun v ⟨Z',g1,g2,cs,m,e,g3⟩=>⟨cs,m,Z',e ▸ g1,g2,g3⟩
 obtain ⟨s1,hs1⟩:∃ s1,s1=((Z.re.row (trL T) 5).row [.slice q 4 d] 1).row (zBL none) 11:=⟨_,rfl⟩;have N1:New Z.re s1:=by rw [hs1];exact ((New.row _ _ _).row').row'
 have L1:=(le0 Z).trans N1.le;have o1:Own s1 Z.y (trL T) 5:=by rw [hs1];exact ((zI Z.re (trL T) 5).row).row
 have o2:Own s1 (Z.y+1) [.slice q 4 d] 1:=by rw [hs1];exact (zI (Z.re.row (trL T) 5) [.slice q 4 d] 1).row
 have k1:=xOH (hT.le L1) hok h1 h2 h3;have k2:zJ Pg 38 [.slice q 4 d,.func (.func 34) ⟨[]⟩ ⟨[]⟩] s1 (.bool true) s1:=xNC (SlV.le hc L1) (by omega) (fun n hn U _=>by
  obtain ⟨k,hk,rfl⟩:=List.mem_iff_getElem.1 hn;have hk4:k<4:=by have:=vK hc;omega
  have e:=hf k hk4;rw [List.getElem?_eq_getElem hk] at e;have:=hb k hk4;exact (xRH (yCL (wD.2 (by rw [Option.some.inj e];exact this))) ⟨rfl,Nat.le_refl _⟩).pure)
 have k3:zJ Pg 39 [.slice p l c,.func (.func 36) ⟨[]⟩ ⟨[.pointer (some ⟨Z.y,0,none⟩),.pointer (some ⟨Z.y+1,0,none⟩)]⟩] s1 (.bool true) s1:=xVK (SlV.le hx L1) (by omega) (fun x hxm U hU=>by
  have N:New U.re (U.re.row (tpL x) 7):=New.row _ _ _;have L:=(hU.trans (le0 U)).trans N.le;exact (xOQ ((o1.le L).ldN (k:=0) (ds:=trL T) yGP zMZ rfl rfl (by simp)) ((o2.le L).ld rfl vQ rfl) (xWB (SlV.le hc (L1.trans L)) hf hb (hr x hxm)) ⟨rfl,N.lw⟩).pure)
 obtain ⟨s2,hs2⟩:∃ s2,s2=(s1.add (.map [])).own (Z.y+2) (zBL (some (Z.y+3))) 11:=⟨_,rfl⟩;have n1:s1.y=Z.y+3:=by rw [hs1];rfl
 have Na:New s1 (s1.add (.map [])):=New.add _ _;have o3:Own s1 (Z.y+2) (zBL none) 11:=by rw [hs1];exact zI ((Z.re.row (trL T) 5).row [.slice q 4 d] 1) (zBL none) 11
 have K2:Only (·=Z.y+2) (s1.add (.map [])) s2:=by rw [hs2];exact Only.own (.inr rfl)
 have n2:s2.y=Z.y+4:=by rw [hs2];show s1.y+1=_;omega
 have hM:zBR Pg s2 (Z.y+3) zPU tpV (zBC []):=by
  have m0:zBR Pg (s1.add (.map [])) s1.y zPU tpV (zBC []):=zBR.new s1;rw [n1] at m0;exact m0.at_ (K2.get _ m0.1 (by omega)) K2.y
 have I0:RdI Z s2 (xs.take 0) (zBL (some (Z.y+3))):=by
  refine ⟨(N1.trans Na).of_only K2 (fun b e=>by show Z.y<=b;omega),by omega,by rw [hs2];exact (o3.le Na.le).put,rfl,rfl,rfl,hM,fun c hc=>⟨none,0, ?_,Gr.nil⟩, ?_⟩
  ·rcases c with _ | _ | _ | _ | _ | _ | _ | _ | _ | _ | c <;> first | rfl | omega
  ·intro c c' q q' l l' d d' hne h1 h2 b hb;have hcq:q=none:=by
    rcases c with _ | _ | _ | _ | _ | _ | _ | _ | _ | _ | _ | c <;> first | (cases h1;rfl) | cases h1
   subst hcq;exact (AtP.none hb).elim
 subst hs1;subst hs2;refine xPI k1 k2 k3 (P1:=fun t U=>t=false/\∃ cs,RdI Z U xs cs)
  (ySO (Inv:=fun k t i U=>t=false/\∃ (s:Nat) (cs:List Value),i=s/\s+k=l/\RdI Z U (xs.take s) cs) ?_ l false 0 _ ⟨rfl,0,_,rfl,by omega,I0⟩) ?_ rfl (by omega) rfl
 ·rintro k t i U ⟨rfl,s,cs,rfl,hk,hI⟩;by_cases hs:s<l;rotate_left
  ·rw [List.take_of_length_le (by omega)] at hI;exact xIA ⟨rfl,cs,hI⟩ (by omega)
  obtain ⟨a,rfl,x,hx',ld⟩:=wS (SlV.le (SlV.le hx (le0 Z)) hI.new.le) hs;have hxr:=hr x (List.mem_of_getElem? hx');refine hI.step ?_ hxr.2.1.1 (by rw [List.length_take];omega) ld ⟨by omega,by omega⟩ (by omega) (fun U' cs' hI'=>⟨k-1,by omega,rfl,s+1,cs',by omega,by omega,by rw [yM hx'];exact hI'⟩);cases e:zBC (xs.take s) (x.m,x.n) with
  | none=>rfl
  | some y =>
   exfalso;obtain ⟨hy,e2⟩:=zYV e;obtain ⟨j,hj,rfl⟩:=List.mem_iff_getElem.1 hy;have hjs:j<s:=by simp at hj;omega
   have:=List.pairwise_iff_getElem.1 hd j s (by omega) (by omega) hjs;rw [List.getElem_take] at e2;rw [(List.getElem?_eq_some_iff.1 hx').2] at this;simp only [Prod.mk.injEq] at e2;have:=this e2.1;omega
 rintro t U ⟨rfl,cs,hI⟩;refine ySM (Pr:=fun _ _=>False) (P3:=fun U=>∃ cs,RdJ Z U xs 10 cs)
  (ySN (Inv:=fun k i U=>∃ (s:Nat) (cs:List Value),i=s/\s+k=10/\RdJ Z U xs s cs) ?_ 10 0 U ⟨0,cs,rfl,rfl,hI.new,hI.own,hI.len,hI.cell,hI.mp,hI.map,fun c _ hc=>by
   obtain ⟨q,d,g1,g2⟩:=hI.sl c hc;exact ⟨q,_,d,g1,xWO g2,g2.slv,fun b hb=>(g2.bd hb).1⟩⟩) (fun _ _ h=>h.elim) ?_
 ·rintro k i U ⟨s,cs,rfl,hk,hN,hO,hlen,hcell,hmp,hM,hsl⟩;by_cases hs:s<10;rotate_left
  ·have:s=10:=by omega
   subst this;exact xHY ⟨cs,hN,hO,hlen,hcell,hmp,hM,hsl⟩ (by omega)
  obtain ⟨q,n,d,hq,hor,hR,hbd⟩:=hsl s (Nat.le_refl _) hs;have hrl:(xU xs s).length<=xs.length:=by unfold xU;rw [List.length_map];exact List.length_filter_le _ _
  have hn:=vK hR;obtain ⟨q2,k2,d2,U2,c1,m1,hk2,hlt⟩:=xTZ (c:=d) hR hor (by omega);have hfw:=hfew s hs;unfold zYX at hfw;have hcq:cs[(s:Int).toNat]?=some (.slice q n d):=by rw [Int.toNat_natCast];exact hq
  have O2:=hO.le m1.le;have st:=yYJ (t:=66) (j:=(s:Int)) (v:=.slice q2 k2 d2) O2 rfl xHH rfl (by omega) (by omega);rw [Int.toNat_natCast] at st;obtain ⟨U3,hU3⟩:∃ U3,U3=U2.own (Z.y+2) (cs.set s (.slice q2 k2 d2)) 11:=⟨_,rfl⟩;rw [<- hU3] at st;have K3:Only (·=Z.y+2) U2 U3:=by rw [hU3];exact Only.own (.inr rfl)
  have O3:Own U3 (Z.y+2) (cs.set s (.slice q2 k2 d2)) 11:=by rw [hU3];exact O2.put
  have ld2:=yIC (t:=66) (j:=(s:Int)) (v:=.slice q2 k2 d2) O3 xNH (by omega) (by rw [Int.toNat_natCast,List.getElem?_set_self (by omega)]);have hM2:=hM.le m1.le;refine xHZ (yIC (t:=66) hO xNH (by omega) hcq) c1 st ld2 ⟨k-1,by omega,s+1,cs.set s (.slice q2 k2 d2),by omega,by omega,(hN.trans m1).of_only K3 (fun b e=>by show Z.y<=b;omega),O3,by rw [List.length_set];exact hlen,yZX hcell rfl,by rw [List.getElem?_set_ne (by omega)];exact hmp,hM2.at_ (K3.get _ hM2.1 (by omega)) K3.y,fun c hc hc10=>?_⟩ (by omega) ⟨by omega,by omega⟩ (by omega) ⟨by omega,by omega⟩;obtain ⟨q',n',d',g1,g2,g3,g4⟩:=hsl c (by omega) hc10;exact ⟨q',n',d',by rw [List.getElem?_set_ne (by omega)];exact g1,g2,K3.slv' (SlV.le g3 m1.le) (fun a e hb=>by have:=g4 _ ⟨a,e,rfl⟩;omega),g4⟩
 ·rintro U ⟨cs,hN,hO,hlen,hcell,hmp,hM,_⟩;have ld:=hO.ldN (P:=Pg) (t:=70) (k:=0) (ds:=cs) xNF zWE (by rw [List.drop_zero,<- hlen,List.take_length]) hlen (by omega);have st:=hO.store (P:=Pg) (k:=0) (t:=70) (v:=.agg ⟨cs⟩) (vs:=cs) (ds:=cs) rfl (by rw [zWE,hlen]) hcell (by omega) (by simp);have K:Only (·=Z.y+2) U (U.own (Z.y+2) cs 11):=Only.own (.inr rfl);have ld2:=(hO.put (ds:=cs)).ldN (P:=Pg) (t:=70) (k:=0) (ds:=cs) xNF zWE (by rw [List.drop_zero,<- hlen,List.take_length]) hlen (by omega);exact ySL ld st ld2 ⟨hN.of_only K (fun b e=>by show Z.y<=b;omega),cs,_,rfl,hlen,hcell,hmp,hM.at_ (K.get _ hM.1 (by omega)) K.y⟩
end
section
variable {machine count aJ i25_1:Int} {BA aM aN mA counts_l counts_c l10_1 c10_1:Nat} {Inv:Nat->(Option Addr)->Nat->Nat->Int->St->Prop} {Q0 P0:(Option Addr)->Nat->Nat->St->Prop} {aO counts p10_1:Option Addr} {xC:Tp} {Z ZO:St} {Nx:(Option Addr)->Nat->Nat->Int->St->Prop} {Q:Value->St->Prop}
noncomputable def yYU:Code:=(Code.part [1,0,1,0,0] (zR Pg 19))
def zPP (machine:Int) (BA:Nat) (count:Int) (aO:Option Addr) (aM aN:Nat) (aJ:Int):List (Nat × Value):=[(1,iV machine),(3,.pointer (some ⟨BA,0,none⟩)),(6,.slice aO aM aN),(10,iV count),(11,iV aJ)]
def xJI (machine:Int) (BA:Nat) (count:Int) (Q:(Option Addr)->Nat->Nat->Int->St->Prop):Alt:=⟨(Option Addr) × Nat × Nat × Int,.normal,fun t=>zPP machine BA count t.1 t.2.1 t.2.2.1 t.2.2.2,fun t=>[],fun t Z=>Q t.1 t.2.1 t.2.2.1 t.2.2.2 Z⟩
def yEQ (machine:Int) (BA:Nat) (count:Int) (aO:Option Addr) (aM aN:Nat):List (Nat × Value):=[(6,.slice aO aM aN)]
def zSE (machine:Int) (BA:Nat) (count:Int) (Q:(Option Addr)->Nat->Nat->St->Prop):Alt:=⟨(Option Addr) × Nat × Nat,(.exit 0),fun t=>yEQ machine BA count t.1 t.2.1 t.2.2,fun t=>[],fun t Z=>Q t.1 t.2.1 t.2.2 Z⟩
def zVK (machine:Int) (BA:Nat) (count:Int) (aO:Option Addr) (aM aN:Nat) (aJ:Int) (Z:St) (Nx:(Option Addr)->Nat->Nat->Int->St->Prop) (Q0:(Option Addr)->Nat->Nat->St->Prop):Prop:=xK Pg (zW Pg) none yYU 31 (zPP machine BA count aO aM aN aJ) [] [xJI machine BA count Nx,zSE machine BA count Q0] Z
def yYV (machine:Int) (BA:Nat) (count:Int) (aO:Option Addr) (aM aN:Nat) (aJ:Int) (Z:St) (Q0:(Option Addr)->Nat->Nat->St->Prop):Prop:=xO Pg (zW Pg) none yYU 31 (zPP machine BA count aO aM aN aJ) [] [zSE machine BA count Q0] Z
theorem yTT (hb:∀ k aO aM aN aJ Z,Inv k aO aM aN aJ Z->zVK machine BA count aO aM aN aJ Z (NX4 Inv k) Q0):∀ k aO aM aN aJ Z,Inv k aO aM aN aJ Z->yYV machine BA count aO aM aN aJ Z Q0 :=
 zAS (And.intro (vN 0) trivial) hb
theorem xJH (h1:zH Pg Z 68 ⟨BA,10,none⟩=some (.map (some mA))) (h2:xV Pg (evL [.map (some mA),.agg ⟨[iV machine,iV aJ]⟩]) Z (.lookup 68 (.tmp 0) (.tmp 1) true)=some (.tuple ⟨[.agg ⟨tpL xC⟩,.bool true]⟩)) (nx:Nx aO aM aN (aJ+1) ((Z.row (yH 0 0 0 0 0 0 0) 7).own Z.y (tpL xC) 7)) (u1:aJ<count:=by omega) (u2:I6 (aJ+1):=by omega):zVK machine BA count aO aM aN aJ Z Nx Q0 :=
 let s1:=Z.row (yH 0 0 0 0 0 0 0) 7;let s2:=s1.own Z.y (tpL xC) 7;kO 0 (aO,aM,aN,aJ+1) [.b true,.g,.g,.g,.l (.map (some mA)),.g,.g,.g,.v (.tuple ⟨[.agg ⟨tpL xC⟩,.bool true]⟩),.g,.g,.g,.g,.e undef s2,.g,.g,.g,.n (aJ+1),.g] (fun _ f=>(an5 (zU u1) h1 h2 ((zI _ _ _).store (vs:=(tpL xC)) rfl zJJ rfl (nle rfl) rfl:zN Pg (evL [.pointer (some ⟨Z.y,0,none⟩),.agg ⟨tpL xC⟩]) s1 (.store 78 (.tmp 0) (.tmp 1))=some (undef,s2)) (w64 u2) f)) nx
theorem xJG {lO cN:Nat} {qN:Option Addr} (h1:zH Pg Z 68 ⟨BA,10,none⟩=some (.map (some mA))) (h2:xV Pg (evL [.map (some mA),.agg ⟨[iV machine,iV aJ]⟩]) Z (.lookup 68 (.tmp 0) (.tmp 1) true)=some (.tuple ⟨[.agg ⟨tpL xC⟩,.bool false]⟩)) (h3:yA Pg 22 22 (.slice aO aM aN) (.slice (some ⟨(Z.y+1),0,none⟩) 1 1) (((Z.row (yH 0 0 0 0 0 0 0) 7).own Z.y (tpL xC) 7).row [iV aJ] 1)=some (.slice qN lO cN,ZO)) (nx:Nx qN lO cN (aJ+1) ZO) (u1:aJ<count:=by omega) (u2:I6 (aJ+1):=by omega):zVK machine BA count aO aM aN aJ Z Nx Q0 :=
 let s1:=Z.row (yH 0 0 0 0 0 0 0) 7;let s2:=s1.own Z.y (tpL xC) 7;kO 0 (qN,lO,cN,aJ+1) [.b true,.g,.g,.g,.l (.map (some mA)),.g,.g,.g,.v (.tuple ⟨[.agg ⟨tpL xC⟩,.bool false]⟩),.g,.g,.g,.g,.e undef s2,.g,.g,.g,.g,.g,.g,.e (.slice qN lO cN) ZO,.g,.n (aJ+1),.g] (fun _ f=>(an6 (zU u1) h1 h2 ((zI _ _ _).store (vs:=(tpL xC)) rfl zJJ rfl (nle rfl) rfl:zN Pg (evL [.pointer (some ⟨Z.y,0,none⟩),.agg ⟨tpL xC⟩]) s1 (.store 78 (.tmp 0) (.tmp 1))=some (undef,s2)) h3 (w64 u2) f)) nx
theorem xJF (nx:Q0 aO aM aN Z) (u1:¬ aJ<count:=by omega):zVK machine BA count aO aM aN aJ Z Nx Q0 :=
 kO 1 (aO,aM,aN) [.b false] (fun _ f=>(And.intro (zY u1) f)) nx
def yER (machine:Int) (BA:Nat) (count:Int) (aO:Option Addr) (aM aN:Nat) (Z:St) (Q:Value->St->Prop):Prop:=∀ g:Nat->Value,∃ an,Hid (kAt Pg (zW Pg) none (zR Pg 19) [1,0,1,0] (kFn Pg 19 Q) (.exit 0) ⟨Fm 31 (ov (yEQ machine BA count aO aM aN) g),[]⟩ Z an)
theorem xPW {x:List Value} (hL:yYV machine Z.y count none 0 0 0 (Z.row x x.length) P0) (k0:∀ p6_1' l6_1' c6_1' Z',P0 p6_1' l6_1' c6_1' Z'->yER machine Z.y count p6_1' l6_1' c6_1' Z' Q):zL Pg 19 [.agg ⟨x⟩,iV machine,iV count] Z Q :=
 zK [.g,.g,.g,.g,.lf 31 (zPP machine Z.y count none 0 0 0) [zSE machine Z.y count P0]] (kd (And.intro (And.intro tt (And.intro (arf (zPP machine Z.y count none 0 0 0)) hL)) (And.intro (kz3 k0) trivial)))
theorem yTS (nx:Q (.slice aO aM aN) Z):yER machine BA count aO aM aN Z Q :=
 sK [.g,.g] nx
noncomputable def xAH:Code:=(Code.part [1,1,1,1,0,1,0,0] (zR Pg 8))
def zRD (BA:Nat) (counts:Option Addr) (counts_l counts_c:Nat) (p10_1:Option Addr) (l10_1 c10_1:Nat) (i25_1:Int):List (Nat × Value):=[(8,.pointer (some ⟨BA,0,none⟩)),(10,.slice p10_1 l10_1 c10_1),(23,.slice counts counts_l counts_c),(24,iV ((counts_l:Nat):Int)),(25,iV i25_1)]
def xOB (BA:Nat) (counts:Option Addr) (counts_l counts_c:Nat) (Q:(Option Addr)->Nat->Nat->Int->St->Prop):Alt:=⟨(Option Addr) × Nat × Nat × Int,.normal,fun t=>zRD BA counts counts_l counts_c t.1 t.2.1 t.2.2.1 t.2.2.2,fun t=>[],fun t Z=>Q t.1 t.2.1 t.2.2.1 t.2.2.2 Z⟩
def yGZ (BA:Nat) (counts:Option Addr) (counts_l counts_c:Nat) (p10_1:Option Addr) (l10_1 c10_1:Nat):List (Nat × Value):=[(10,.slice p10_1 l10_1 c10_1)]
def zTM (BA:Nat) (counts:Option Addr) (counts_l counts_c:Nat) (Q:(Option Addr)->Nat->Nat->St->Prop):Alt:=⟨(Option Addr) × Nat × Nat,(.exit 0),fun t=>yGZ BA counts counts_l counts_c t.1 t.2.1 t.2.2,fun t=>[],fun t Z=>Q t.1 t.2.1 t.2.2 Z⟩
def yJP (BA:Nat) (counts:Option Addr) (counts_l counts_c:Nat) (p10_1:Option Addr) (l10_1 c10_1:Nat) (i25_1:Int) (Z:St) (Nx:(Option Addr)->Nat->Nat->Int->St->Prop) (Q0:(Option Addr)->Nat->Nat->St->Prop):Prop:=xK Pg (zW Pg) none xAH 39 (zRD BA counts counts_l counts_c p10_1 l10_1 c10_1 i25_1) [] [xOB BA counts counts_l counts_c Nx,zTM BA counts counts_l counts_c Q0] Z
def xAI (BA:Nat) (counts:Option Addr) (counts_l counts_c:Nat) (p10_1:Option Addr) (l10_1 c10_1:Nat) (i25_1:Int) (Z:St) (Q0:(Option Addr)->Nat->Nat->St->Prop):Prop:=xO Pg (zW Pg) none xAH 39 (zRD BA counts counts_l counts_c p10_1 l10_1 c10_1 i25_1) [] [zTM BA counts counts_l counts_c Q0] Z
theorem yWQ (hb:∀ k p10_1 l10_1 c10_1 i25_1 Z,Inv k p10_1 l10_1 c10_1 i25_1 Z->yJP BA counts counts_l counts_c p10_1 l10_1 c10_1 i25_1 Z (NX4 Inv k) Q0):∀ k p10_1 l10_1 c10_1 i25_1 Z,Inv k p10_1 l10_1 c10_1 i25_1 Z->xAI BA counts counts_l counts_c p10_1 l10_1 c10_1 i25_1 Z Q0 :=
 zAS (And.intro (vN 0) trivial) hb
theorem xOA {lC cB lDB cCB:Nat} {qB qCB:Option Addr} {nA:Int} {counts_a:Addr} {cs1502:List Value} {ZC:St} (h1:zH Pg Z 3 (zS counts_a (Int.toNat i25_1*1))=some (iV nA)) (h2:zH Pg Z 70 ⟨BA,0,none⟩=some (.agg ⟨cs1502⟩)) (h3:zJ Pg 19 [.agg ⟨cs1502⟩,iV i25_1,iV nA] Z (.slice qB lC cB) ZO) (h4:yA Pg 41 41 (.slice p10_1 l10_1 c10_1) (.slice (some ⟨ZO.y,0,none⟩) 1 1) (ZO.row [.slice qB lC cB] 1)=some (.slice qCB lDB cCB,ZC)) (nx:Nx qCB lDB cCB (i25_1+1) ZC) (u1:i25_1<((counts_l:Nat):Int):=by omega) (u2:Ix i25_1 counts_l:=by omega) (u3:I6 (i25_1+1):=by omega):yJP BA (some counts_a) counts_l counts_c p10_1 l10_1 c10_1 i25_1 Z Nx Q0 :=
 kO 0 (qCB,lDB,cCB,i25_1+1) [.b true,.g,.i,.l (iV nA),.g,.g,.g,.l (.agg ⟨cs1502⟩),.g,.g,.c (.slice qB lC cB) ZO,.g,.e (.slice qCB lDB cCB) ZC,.g,.n (i25_1+1),.g] (fun _ f=>(And.intro (zU u1) (an6 u2 h1 h2 h3 h4 (w64 u3) f))) nx
theorem xNZ (nx:Q0 p10_1 l10_1 c10_1 Z) (u1:¬ i25_1<((counts_l:Nat):Int):=by omega):yJP BA counts counts_l counts_c p10_1 l10_1 c10_1 i25_1 Z Nx Q0 :=
 kO 1 (p10_1,l10_1,c10_1) [.b false] (fun _ f=>(And.intro (zY u1) f)) nx
def yHA (BA:Nat) (counts:Option Addr) (counts_l counts_c:Nat) (p10_1:Option Addr) (l10_1 c10_1:Nat) (Z:St) (Q:Value->St->Prop):Prop:=∀ g:Nat->Value,∃ an,Hid (kAt Pg (zW Pg) none (zR Pg 8) [1,1,1,1,0,1,0] (kFn Pg 8 Q) (.exit 0) ⟨Fm 39 (ov (yGZ BA counts counts_l counts_c p10_1 l10_1 c10_1) g),[]⟩ Z an)
theorem xSO {t_0:Trf} {taps:Option Addr} {taps_l taps_c:Nat} {cs1:List Value} {n2:Int} {Z3 Z4:St} (h1:zJ Pg 18 [.agg ⟨trL t_0⟩,.slice taps taps_l taps_c,.slice counts counts_l counts_c] (Z.row (trL t_0) 5) (.tuple ⟨[.agg ⟨cs1⟩,iV n2]⟩) Z3) (h2:zN Pg (evL [.pointer (some ⟨Z3.y,0,none⟩),.agg ⟨cs1⟩]) (Z3.row (zBL none) 11) (.store 70 (.tmp 0) (.tmp 1))=some (undef,Z4)) (hL:xAI Z3.y counts counts_l counts_c none 0 0 0 Z4 P0) (k0:∀ p10_1' l10_1' c10_1' Z',P0 p10_1' l10_1' c10_1' Z'->yHA Z3.y counts counts_l counts_c p10_1' l10_1' c10_1' Z' Q) (u1:n2=0:=by omega):zL Pg 8 [.agg ⟨trL t_0⟩,.slice taps taps_l taps_c,.slice counts counts_l counts_c] Z Q :=
 zK [.g,.g,.g,.l (.agg ⟨trL t_0⟩),.g,.g,.c (.tuple ⟨[.agg ⟨cs1⟩,iV n2]⟩) Z3,.g,.g,.g,.g,.e undef Z4,.g,.g,.b false,.g,.g,.g,.g,.lf 39 (zRD Z3.y counts counts_l counts_c none 0 0 0) [zTM Z3.y counts counts_l counts_c P0]] (kd (an4 ((zI _ _ _).rw.ldN yGP zMZ (k:=0) rfl rfl (nle rfl):zH Pg (Z.row (trL t_0) 5) 45 ⟨Z.y,0,none⟩=some (.agg ⟨trL t_0⟩)) h1 h2 (xN u1) (And.intro (And.intro tt (And.intro (arf (zRD Z3.y counts counts_l counts_c none 0 0 0)) hL)) (And.intro (kz3 k0) trivial))))
theorem yWP (nx:Q (.tuple ⟨[.slice p10_1 l10_1 c10_1,iV 0]⟩) Z):yHA BA counts counts_l counts_c p10_1 l10_1 c10_1 Z Q :=
 sK [.g,.g,.g] nx
end
section
variable {xs:List Tp} {m:Int} {N:Nat}
def zEZ (xs:List Tp) (m:Int) (N:Nat):Nat:=(List.range N).countP fun n:Nat=>(zBC xs (m,(n:Int))).isNone
theorem yYW:zEZ xs m (N+1)=zEZ xs m N+if (zBC xs (m,(N:Int))).isNone=true then 1 else 0:=by
 unfold zEZ;rw [List.range_succ,List.countP_append,List.countP_singleton]
theorem xJJ:zEZ xs m N<=N:=by
 have:=List.countP_le_length (p:=fun n:Nat=>(zBC xs (m,(n:Int))).isNone) (l:=List.range N);rw [List.length_range] at this;exact this
theorem yQC:AppT Pg 22 22 3 1:=zBF (by kernel_rfl)
theorem xEP:AppT Pg 41 41 22 1:=zBF (by kernel_rfl)
section
variable {Z:St}
theorem xUC {cs:List Value} {M:Nat} (h1:cs.length=11) (h3:cs[10]?=some (.map (some M))) (hM:zBR Pg Z M zPU tpV (zBC xs)) (hN:N<=50) :
  ∃ q d Z',zJ Pg 19 [.agg ⟨cs⟩,iV m,iV (N:Int)] Z (.slice q (zEZ xs m N) d) Z'/\New Z Z':=by
 have N0:New Z.re (Z.re.row cs cs.length):=New.row _ _ _;refine (zL.new (P:=Pg) (f:=19) (args:=[.agg ⟨cs⟩,iV m,iV (N:Int)]) (Z:=Z) (Q:=fun v s=>∃ q d,v=.slice q (zEZ xs m N) d) ?_ (by rintro v s s' h hle;exact h) (by rintro v s hr h;exact h)).elim fun v ⟨Z',g1,g2,q,d,e⟩=>⟨q,d,Z',e ▸ g1,g2⟩
 refine xPW (P0:=fun p l c U=>New Z.re U/\l=zEZ xs m N)
  (yTT (Inv:=fun k p l c i U=>∃ (s:Nat) (vs:List Value),i=s/\s+k=N/\l=zEZ xs m s/\New (Z.re.row cs cs.length) U/\Gr Pg U (Z.y+1) 3 1 p l c vs) ?_ N none 0 0 0 _ ⟨0,[],rfl,by omega,rfl,New.refl _,Gr.nil⟩) (fun p l c U ⟨hN,e⟩=>yTS ⟨hN,p,c,by rw [e]⟩)
 rintro k p l c i U ⟨s,vs,rfl,hk,rfl,hNw,hg⟩;by_cases hs:s<N;rotate_left
 ·have:s=N:=by omega
  subst this;exact xJF ⟨N0.trans hNw,rfl⟩ (by omega)
 have lm:=((zI Z.re cs cs.length).le hNw.le).ld (P:=Pg) (t:=68) rfl xNG h3;have hMt:=(hM.le (le0 Z)).le (N0.trans hNw).le;have hle:=xJJ (xs:=xs) (m:=m) (N:=s);have hsn:=yYW (xs:=xs) (m:=m) (N:=s);have hMl:=hMt.1;cases hf:zBC xs (m,(s:Int)) with
 | some y =>
  rw [hf] at hsn;have N1:New U ((U.row (yH 0 0 0 0 0 0 0) 7).own U.y (tpL y) 7):=(New.row _ _ _).own (Nat.le_refl _);have lk:=hMt.look1 yIT xPY yRN hf;exact xJH lm lk ⟨k-1,by omega,s+1,vs,by omega,by omega,by rw [hsn];simp,hNw.trans N1,hg.le N1.le⟩ (by omega) ⟨by omega,by omega⟩
 | none =>
  rw [hf] at hsn;have N1:New U ((U.row (yH 0 0 0 0 0 0 0) 7).own U.y (tpL tp0) 7):=(New.row _ _ _).own (Nat.le_refl _);have hnx:Z.y+1<=U.y:=hNw.nx;obtain ⟨p4,c4,U4,f1,f2,f3,f4⟩:=zGW (iV (s:Int)) yQC hg N1.le (zQG zT _ _) (by omega) (by omega) (e:=rfl) (hc:=rfl);have lk:=hMt.look0 yIT xPY yRN hf;exact xJG lm lk f1 ⟨k-1,by omega,s+1,_,by omega,by omega,by rw [hsn];simp,((hNw.trans N1).trans (New.row _ _ _)).of_only f3 (fun b hb=>by have:=(hg.bd hb).1;show Z.y+1<=b;omega),f2⟩ (by omega) ⟨by omega,by omega⟩
theorem xVT {T:Trf} {A B C:List Int} {p q:Option Addr} {l c d:Nat} {ns:List Int} {f:Nat->Int} (hT:TrfP Z T A B C) (hok:okT T A B C=true) (h1:T.pl<=8) (h2:T.ql<=8) (h3:T.sl<=8) (hx:zDV Z 78 p l xs) (hl:l<=40) (hc:zCD Z q 4 ns) (hf:∀ k,k<4->ns[k]?=some (f k)) (hb:∀ k,k<4->0<=f k/\f k<=50)
  (hr:∀ x∈xs,ySI T.z f x) (hd:xs.Pairwise fun x y=>x.m=y.m->x.n<y.n) (hfew:∀ c:Nat,c<10->zYX xs c) :
  ∃ q' d' vs Z',zJ Pg 8 [.agg ⟨trL T⟩,.slice p l c,.slice q 4 d] Z (.tuple ⟨[.slice q' 4 d',iV 0]⟩) Z'/\New Z Z'/\SlV Pg Z' 22 1 q' 4 vs/\∀ k:Nat,k<4->∃ q d,vs[k]?=some (.slice q (zEZ xs k (f k).toNat) d):=by
 refine (zL.new (P:=Pg) (f:=8) (args:=[.agg ⟨trL T⟩,.slice p l c,.slice q 4 d]) (Z:=Z) (Q:=fun v s=>∃ q' d' vs,v=.tuple ⟨[.slice q' 4 d',iV 0]⟩/\SlV Pg s 22 1 q' 4 vs/\∀ k:Nat,k<4->∃ q d,vs[k]?=some (.slice q (zEZ xs k (f k).toNat) d)) ?_ (by rintro v s s' ⟨q',d',vs,rfl,g1,g2⟩ hle;exact ⟨q',d',vs,rfl,SlV.le g1 hle,g2⟩) (by
  rintro v s hr ⟨q',d',vs,rfl,g1,g2⟩;refine ⟨q',d',vs,rfl, ?_,g2⟩
  cases q' with
  | none=>exact zAV g1
  | some a=>exact Bool.noConfusion (show false=true from hr))).elim fun v ⟨Z',g1,g2,q',d',vs,e,g3,g4⟩=>⟨q',d',vs,Z',e ▸ g1,g2,g3,g4⟩
 have N1:New Z.re (Z.re.row (trL T) 5):=New.row _ _ _;have L1:=(le0 Z).trans N1.le;obtain ⟨cs,M,Z3,k1,n3,e1,e2,e3,hM⟩:=xTV (c:=c) (d:=d) (hT.le L1) hok h1 h2 h3 (SlV.le hx L1) hl (SlV.le hc L1) hf hb hr hd hfew;have N3:=N1.trans n3;have oB:=zI Z3 (zBL none) 11;have st:=oB.store (P:=Pg) (k:=0) (t:=70) (v:=.agg ⟨cs⟩) (vs:=cs) (ds:=cs) rfl (by rw [zWE,e1]) e2 (by rw [e1];exact Nat.le_refl _) (by rw [List.take_zero,List.drop_of_length_le (by rw [e1];exact Nat.le_refl _)];simp);have oC:=oB.put (ds:=cs);have n4:((Z3.row (zBL none) 11).own Z3.y cs 11).y=Z3.y+1:=rfl;have N4:New Z3 ((Z3.row (zBL none) 11).own Z3.y cs 11):=(New.row _ _ _).own (Nat.le_refl _);obtain ⟨Z4,hZ4⟩:∃ Z4,Z4=(Z3.row (zBL none) 11).own Z3.y cs 11:=⟨_,rfl⟩;rw [<- hZ4] at st oC n4 N4;refine xSO k1 st (P0:=fun p' l' c' U=>New Z.re U/\l'=4/\∃ vs,Gr Pg U (Z3.y+1) 22 1 p' 4 c' vs/\∀ k:Nat,k<4->∃ q d,vs[k]?=some (.slice q (zEZ xs k (f k).toNat) d))
  (yWQ (Inv:=fun k p' l' c' i U=>∃ (s:Nat) (vs:List Value),i=s/\s+k=4/\l'=s/\New Z4 U/\Gr Pg U (Z3.y+1) 22 1 p' s c' vs/\∀ k:Nat,k<s->∃ q d,vs[k]?=some (.slice q (zEZ xs k (f k).toNat) d)) ?_ 4 none 0 0 0 _ ⟨0,[],rfl,rfl,rfl,New.refl _,Gr.nil,by simp⟩) (fun p' l' c' U ⟨hN,e,vs,hg,hv⟩=>by subst e;exact yWP ⟨hN,p',c',vs,rfl,hg.slv,hv⟩) rfl
 rintro k p' l' c' i U ⟨s,vs,rfl,hk,rfl,hN,hg,hv⟩;have N5:=N3.trans N4;by_cases hs:l' < 4;rotate_left
 ·have:l'=4:=by omega
  subst this;exact xNZ ⟨N5.trans hN,rfl,vs,hg,hv⟩ (by omega)
 obtain ⟨a,rfl,n,hn,ld⟩:=wS (SlV.le (SlV.le hc (le0 Z)) (N5.trans hN).le) hs;rw [hf l' hs] at hn;cases hn
 have hb':=hb l' hs;have lt:=(oC.le hN.le).ldN (P:=Pg) (t:=70) (k:=0) (ds:=cs) xNF zWE (by rw [List.drop_zero,<- e1,List.take_length]) e1 (by omega);obtain ⟨q5,d5,U5,k5,n5⟩:=xUC (m:=(l':Int)) (N:=(f l').toNat) (xs:=xs) e1 e3 (hM.le (N4.trans hN).le) (by omega);rw [Int.toNat_of_nonneg hb'.1] at k5;have hnx:=hN.nx;have hnx5:=n5.nx;obtain ⟨p6,c6,U6,f1,f2,f3,f4⟩:=zGW (.slice q5 (zEZ xs l' (f l').toNat) d5) xEP (hg.le n5.le) (Le.refl U5) (.inl ⟨vQ,rfl,rfl⟩) (by omega) (by omega) (e:=rfl) (hc:=rfl);have hvl:vs.length=l':=hg.len_eq;refine xOA ld lt k5 f1 ⟨k-1,by omega,l'+1,_,by omega,by omega,rfl,((hN.trans n5).trans (New.row _ _ _)).of_only f3 (fun b hb=>by have:=(hg.bd hb).1;rw [n4];omega),f2,fun k hk=>?_⟩ (by omega) ⟨by omega,by omega⟩ ⟨by omega,by omega⟩;by_cases e:k=l'
 ·subst e;exact ⟨q5,d5,by rw [List.getElem?_append_right (by omega),hvl,Nat.sub_self];rfl⟩
 ·obtain ⟨q,d,h⟩:=hv k (by omega);exact ⟨q,d,by rw [List.getElem?_append_left (by omega)];exact h⟩
end
end
end Go.Proofs.YtflfajphjmajpaaGreatDoor
