import Derived.Test.YtflfajphjmajpaaGreatDoorXA
import Derived.Test.YtflfajphjmajpaaGreatDoorMG
import Derived.Test.YtflfajphjmajpaaGreatDoorVA
import Derived.Test.YtflfajphjmajpaaGreatDoorLayD
import Derived.Test.YtflfajphjmajpaaGreatDoorNE
import Derived.Test.YtflfajphjmajpaaGreatDoorLB
import Derived.Test.YtflfajphjmajpaaGreatDoorNC
set_option linter.unusedVariables false
set_option maxRecDepth 20000
set_option linter.unusedSimpArgs false
namespace Go.Proofs.YtflfajphjmajpaaGreatDoor
open Go Go.Lay
open Tryz renaming prog -> Pg
section
variable {l aD:Option Addr} {l_l l_c aA aC:Nat} {Z:St} {Q:Value->St->Prop} {Q0:(Option Addr)->Nat->Nat->St->Prop} {ao:Int} {Nx:(Option Addr)->Nat->Nat->Int->St->Prop}
theorem xKI {q2:Option Addr} {l2 c2:Nat} {Z1:St} (h1:yA Pg 22 22 (.slice none 0 0) (.slice l l_l l_c) Z=some (.slice q2 l2 c2,Z1)) (nx:Q (.slice q2 l2 c2) Z1):zL Pg 20 [.slice l l_l l_c] Z Q :=
 zK [.g,.g,.e (.slice q2 l2 c2) Z1,.g] (kd (And.intro h1 nx))
theorem xER {t_0 T11:Trf} {q1 q3 q4 q6 q7:Option Addr} {l1 c1 l3 c3 l4 c4 l6 c6 l7 c7:Nat} {Z2 Z5 Z8 Z10:St} {n9:Int} (h1:zJ Pg 20 [.slice t_0.p t_0.pl t_0.pc] ((Z.row (trL t_0) 5).row (trf 0 none 0 0 none 0 0 none 0 0 0) 5) (.slice q1 l1 c1) Z2) (h2:zH Pg Z2 22 ⟨Z.y,2,none⟩=some (.slice q3 l3 c3)) (h3:zJ Pg 20 [.slice q3 l3 c3] Z2 (.slice q4 l4 c4) Z5) (h4:zH Pg Z5 22 ⟨Z.y,3,none⟩=some (.slice q6 l6 c6)) (h5:zJ Pg 20 [.slice q6 l6 c6] Z5 (.slice q7 l7 c7) Z8) (h6:zH Pg Z8 3 ⟨Z.y,4,none⟩=some (iV n9)) (h7:zN Pg (evL [.pointer (some ⟨(Z.y+1),0,none⟩),.agg ⟨trf t_0.z q1 l1 c1 q4 l4 c4 q7 l7 c7 n9⟩]) Z8 (.store 45 (.tmp 0) (.tmp 1))=some (undef,Z10)) (h8:zX Z2.y [.pointer (some ⟨Z.y,2,none⟩)]) (h9:zX Z2.y [.slice q3 l3 c3]) (h10:zX Z5.y [.pointer (some ⟨Z.y,3,none⟩)]) (h11:zX Z5.y [.slice q6 l6 c6]) (h12:zX Z8.y [.pointer (some ⟨Z.y,4,none⟩)]) (h13:zX Z8.y [.pointer (some ⟨(Z.y+1),0,none⟩),.agg ⟨trf t_0.z q1 l1 c1 q4 l4 c4 q7 l7 c7 n9⟩]) (h14:(((⟨Z.y,0,none⟩:Addr).block<Z2.y/\yB RD (iV t_0.z)=true)/\zH Pg Z2 3 ⟨Z.y,0,none⟩=some (iV t_0.z))) (h15:(((⟨Z.y,0,none⟩:Addr).block<Z5.y/\yB RD (iV t_0.z)=true)/\zH Pg Z5 3 ⟨Z.y,0,none⟩=some (iV t_0.z))) (h16:(((⟨Z.y,0,none⟩:Addr).block<Z8.y/\yB RD (iV t_0.z)=true)/\zH Pg Z8 3 ⟨Z.y,0,none⟩=some (iV t_0.z))) (h17:zH Pg ((Z.row (trL t_0) 5).row (trf 0 none 0 0 none 0 0 none 0 0 0) 5) 22 ⟨Z.y,2,none⟩=some (.slice q3 l3 c3)) (h18:(((⟨Z.y,2,none⟩:Addr).block<Z2.y/\yB RD (.slice q3 l3 c3)=true)/\zH Pg Z2 22 ⟨Z.y,2,none⟩=some (.slice q3 l3 c3))) (h19:zH Pg ((Z.row (trL t_0) 5).row (trf 0 none 0 0 none 0 0 none 0 0 0) 5) 22 ⟨Z.y,3,none⟩=some (.slice q6 l6 c6)) (h20:(((⟨Z.y,3,none⟩:Addr).block<Z2.y/\yB RD (.slice q6 l6 c6)=true)/\zH Pg Z2 22 ⟨Z.y,3,none⟩=some (.slice q6 l6 c6))) (h21:(((⟨Z.y,3,none⟩:Addr).block<Z5.y/\yB RD (.slice q6 l6 c6)=true)/\zH Pg Z5 22 ⟨Z.y,3,none⟩=some (.slice q6 l6 c6))) (h22:zH Pg ((Z.row (trL t_0) 5).row (trf 0 none 0 0 none 0 0 none 0 0 0) 5) 3 ⟨Z.y,4,none⟩=some (iV n9)) (h23:(((⟨Z.y,4,none⟩:Addr).block<Z2.y/\yB RD (iV n9)=true)/\zH Pg Z2 3 ⟨Z.y,4,none⟩=some (iV n9))) (h24:(((⟨Z.y,4,none⟩:Addr).block<Z5.y/\yB RD (iV n9)=true)/\zH Pg Z5 3 ⟨Z.y,4,none⟩=some (iV n9))) (h25:(((⟨Z.y,4,none⟩:Addr).block<Z8.y/\yB RD (iV n9)=true)/\zH Pg Z8 3 ⟨Z.y,4,none⟩=some (iV n9))) (h26:zH Pg Z10 45 ⟨(Z.y+1),0,none⟩=some (.agg ⟨trL T11⟩)) (b_t_0_p:∀ a,t_0.p=some a->a.block<Z.y) (nx:Q (.agg ⟨trL T11⟩) Z10):zL Pg 9 [.agg ⟨trL t_0⟩] Z Q :=
 let s1:=Z.row (trL t_0) 5;let s2:=s1.row (trf 0 none 0 0 none 0 0 none 0 0 0) 5;zK [.g,.g,.g,.l (iV t_0.z),.g,.l (.slice t_0.p t_0.pl t_0.pc),.c (.slice q1 l1 c1) Z2,.g,.l (.slice q3 l3 c3),.c (.slice q4 l4 c4) Z5,.g,.l (.slice q6 l6 c6),.c (.slice q7 l7 c7) Z8,.g,.l (iV n9),.g,.e undef Z10,.l (.agg ⟨trL T11⟩)] (kd (And.intro ((zI _ _ _).row.rw.ld zT (k:=0) rfl:zH Pg s2 3 ⟨Z.y,0,none⟩=some (iV t_0.z)) (an6 ((zI _ _ _).row.rw.ld vQ (k:=1) rfl:zH Pg s2 22 ⟨Z.y,1,none⟩=some (.slice t_0.p t_0.pl t_0.pc)) h1 h2 h3 h4 h5 (an6 h6 h7 ((zM (zV (nlt Z.y 0 2 rfl)) zO):zX s2.y [.pointer (some ⟨Z.y,0,none⟩)]) ((zM (zV (nlt Z.y 0 2 rfl)) zO):zX s2.y [.pointer (some ⟨Z.y,1,none⟩)]) ((zM (yAN b_t_0_p 2) zO):zX s2.y [.slice t_0.p t_0.pl t_0.pc]) h8 (an6 h9 h10 h11 h12 h13 (⟨⟨(nlt Z.y 0 2 rfl),rfl⟩,((zI _ _ _).row.rw.ld zT (k:=0) rfl)⟩:(((⟨Z.y,0,none⟩:Addr).block<s2.y/\yB RD (iV t_0.z)=true)/\zH Pg s2 3 ⟨Z.y,0,none⟩=some (iV t_0.z))) (an6 h14 h14 h15 h15 h16 (⟨⟨(nlt Z.y 0 2 rfl),rfl⟩,h17⟩:(((⟨Z.y,2,none⟩:Addr).block<s2.y/\yB RD (.slice q3 l3 c3)=true)/\zH Pg s2 22 ⟨Z.y,2,none⟩=some (.slice q3 l3 c3))) (an6 h18 (⟨⟨(nlt Z.y 0 2 rfl),rfl⟩,h19⟩:(((⟨Z.y,3,none⟩:Addr).block<s2.y/\yB RD (.slice q6 l6 c6)=true)/\zH Pg s2 22 ⟨Z.y,3,none⟩=some (.slice q6 l6 c6))) h20 h20 h21 (⟨⟨(nlt Z.y 0 2 rfl),rfl⟩,h22⟩:(((⟨Z.y,4,none⟩:Addr).block<s2.y/\yB RD (iV n9)=true)/\zH Pg s2 3 ⟨Z.y,4,none⟩=some (iV n9))) (an6 h23 h23 h24 h24 h25 h26 nx))))))))
theorem xLF {r:Rd} (nx:Q (.agg ⟨rdL r⟩) (((Z.row (rdL r) 4).row (xW 0 0 0 0) 4).own (Z.y+1) (rdL r) 4)):zL Pg 21 [.agg ⟨rdL r⟩] Z Q :=
 let s1:=Z.row (rdL r) 4;let s2:=s1.row (xW 0 0 0 0) 4;let s3:=s2.own (Z.y+1) (rdL r) 4;zK [.g,.g,.g,.l (iV r.d),.g,.l (iV r.t),.g,.l (iV r.a),.g,.l (iV r.b),.g,.e undef s3,.l (.agg ⟨rdL r⟩)] (kd (an6 ((zI _ _ _).row.rw.ld zT (k:=0) rfl:zH Pg s2 3 ⟨Z.y,0,none⟩=some (iV r.d)) ((zI _ _ _).row.rw.ld zT (k:=1) rfl:zH Pg s2 3 ⟨Z.y,1,none⟩=some (iV r.t)) ((zI _ _ _).row.rw.ld zT (k:=2) rfl:zH Pg s2 3 ⟨Z.y,2,none⟩=some (iV r.a)) ((zI _ _ _).row.rw.ld zT (k:=3) rfl:zH Pg s2 3 ⟨Z.y,3,none⟩=some (iV r.b)) ((zI _ _ _).store (vs:=(rdL r)) rfl zJK rfl (nle rfl) rfl:zN Pg (evL [.pointer (some ⟨(Z.y+1),0,none⟩),.agg ⟨rdL r⟩]) s2 (.store 75 (.tmp 0) (.tmp 1))=some (undef,s3)) ((zI _ _ _).put.rw.ldN yQE zJK (k:=0) rfl rfl (nle rfl):zH Pg s3 75 ⟨(Z.y+1),0,none⟩=some (.agg ⟨rdL r⟩)) nx))
noncomputable def xAB:Code:=(Code.part [1,1,0,1,0,0] (zR Pg 10))
def zQT (l:Option Addr) (l_l l_c:Nat) (aD:Option Addr) (aA aC:Nat) (ao:Int):List (Nat × Value):=[(0,.slice l l_l l_c),(3,.slice aD aA aC),(4,iV ao)]
def xNP (l:Option Addr) (l_l l_c:Nat) (Q:(Option Addr)->Nat->Nat->Int->St->Prop):Alt:=⟨(Option Addr) × Nat × Nat × Int,.normal,fun t=>zQT l l_l l_c t.1 t.2.1 t.2.2.1 t.2.2.2,fun t=>[],fun t Z=>Q t.1 t.2.1 t.2.2.1 t.2.2.2 Z⟩
def yGQ (l:Option Addr) (l_l l_c:Nat) (aD:Option Addr) (aA aC:Nat):List (Nat × Value):=[(3,.slice aD aA aC)]
def zTH (l:Option Addr) (l_l l_c:Nat) (Q:(Option Addr)->Nat->Nat->St->Prop):Alt:=⟨(Option Addr) × Nat × Nat,(.exit 0),fun t=>yGQ l l_l l_c t.1 t.2.1 t.2.2,fun t=>[],fun t Z=>Q t.1 t.2.1 t.2.2 Z⟩
def yJM (l:Option Addr) (l_l l_c:Nat) (aD:Option Addr) (aA aC:Nat) (ao:Int) (Z:St) (Nx:(Option Addr)->Nat->Nat->Int->St->Prop) (Q0:(Option Addr)->Nat->Nat->St->Prop):Prop:=xK Pg (zW Pg) none xAB 37 (zQT l l_l l_c aD aA aC ao) [] [xNP l l_l l_c Nx,zTH l l_l l_c Q0] Z
def xAC (l:Option Addr) (l_l l_c:Nat) (aD:Option Addr) (aA aC:Nat) (ao:Int) (Z:St) (Q0:(Option Addr)->Nat->Nat->St->Prop):Prop:=xO Pg (zW Pg) none xAB 37 (zQT l l_l l_c aD aA aC ao) [] [zTH l l_l l_c Q0] Z
theorem yWF {Inv:Nat->(Option Addr)->Nat->Nat->Int->St->Prop} (hb:∀ k aD aA aC ao Z,Inv k aD aA aC ao Z->yJM l l_l l_c aD aA aC ao Z (NX4 Inv k) Q0):∀ k aD aA aC ao Z,Inv k aD aA aC ao Z->xAC l l_l l_c aD aA aC ao Z Q0 :=
 zAS (And.intro (vN 0) trivial) hb
theorem xNO {lD cD:Nat} {qC:Option Addr} {nA nD nE:Int} {l_a:Addr} {rF rC:Rd} {ZK:St} (h1:zH Pg Z 3 (zS l_a ((Int.toNat ao*7)+0))=some (iV nA)) (h2:zH Pg Z 3 (zS l_a ((Int.toNat ao*7)+1))=some (iV nD)) (h3:zH Pg Z 3 (zS l_a ((Int.toNat ao*7)+2))=some (iV nE)) (h4:zH Pg Z 35 (zS l_a ((Int.toNat ao*7)+3))=some (.agg ⟨rdL rF⟩)) (h5:zJ Pg 21 [.agg ⟨rdL rF⟩] Z (.agg ⟨rdL rC⟩) Z) (h6:yA Pg 47 47 (.slice aD aA aC) (.slice (some ⟨Z.y,0,none⟩) 1 1) (Z.row (yH nA nD nE rC.d rC.t rC.a rC.b) 7)=some (.slice qC lD cD,ZK)) (b_p3_1:∀ a,aD=some a->a.block<Z.y) (nx:Nx qC lD cD (ao+1) ZK) (u1:ao<((l_l:Nat):Int):=by omega) (u2:Ix ao l_l:=by omega) (u3:I6 (ao+1):=by omega) (b_l_a_block:l_a.block<Z.y:=by omega):yJM (some l_a) l_l l_c aD aA aC ao Z Nx Q0 :=
 let s1:=Int.toNat ao*7;let s2:=zS l_a (s1+2);let s3:=zS l_a (s1+1);let s4:=zS l_a (s1+0);kO 0 (qC,lD,cD,ao+1) [.g,.g,.g,.b true,.g,.g,.g,.i,.g,.l (iV nA),.g,.g,.i,.g,.l (iV nD),.g,.g,.i,.g,.l (iV nE),.g,.g,.i,.g,.l (.agg ⟨rdL rF⟩),.c (.agg ⟨rdL rC⟩) Z,.g,.g,.e (.slice qC lD cD) ZK,.g,.g,.n (ao+1),.g] (fun _ f=>(And.intro (zU u1) (an6 u2 h1 u2 h2 u2 h3 (an6 u2 h4 h5 h6 ((zM (zV b_l_a_block) zO):zX Z.y [.pointer (some s4)]) ((zM (zV b_l_a_block) zO):zX Z.y [.pointer (some s3)]) (an6 ((zM (zV b_l_a_block) zO):zX Z.y [.pointer (some s2)]) ((zM (zV b_l_a_block) zO):zX Z.y [.pointer (some (zS l_a (s1+3)))]) ((zM (zCR rfl) zO):zX Z.y [.agg ⟨rdL rF⟩]) ((zM (zCR rfl) zO):zX Z.y [.agg ⟨yH nA nD nE rC.d rC.t rC.a rC.b⟩]) ((zM (yAN b_p3_1 1) (zM (zBK (nlt Z.y 0 1 rfl)) zO)):zX (Z.row (yH nA nD nE rC.d rC.t rC.a rC.b) 7).y [.slice aD aA aC,.slice (some ⟨Z.y,0,none⟩) 1 1]) (⟨⟨b_l_a_block,rfl⟩,h1⟩:((s4.block<Z.y/\yB RD (iV nA)=true)/\zH Pg Z 3 s4=some (iV nA))) (an6 (⟨⟨b_l_a_block,rfl⟩,h1⟩:((s4.block<Z.y/\yB RD (iV nA)=true)/\zH Pg Z 3 s4=some (iV nA))) (⟨⟨b_l_a_block,rfl⟩,h2⟩:((s3.block<Z.y/\yB RD (iV nD)=true)/\zH Pg Z 3 s3=some (iV nD))) (⟨⟨b_l_a_block,rfl⟩,h2⟩:((s3.block<Z.y/\yB RD (iV nD)=true)/\zH Pg Z 3 s3=some (iV nD))) (⟨⟨b_l_a_block,rfl⟩,h3⟩:((s2.block<Z.y/\yB RD (iV nE)=true)/\zH Pg Z 3 s2=some (iV nE))) (⟨⟨b_l_a_block,rfl⟩,h3⟩:((s2.block<Z.y/\yB RD (iV nE)=true)/\zH Pg Z 3 s2=some (iV nE))) (w64 u3) f)))))) nx
theorem xNN (nx:Q0 aD aA aC Z) (u1:¬ ao<((l_l:Nat):Int):=by omega):yJM l l_l l_c aD aA aC ao Z Nx Q0 :=
 kO 1 (aD,aA,aC) [.g,.g,.g,.b false] (fun _ f=>(And.intro (zY u1) f)) nx
def yGR (l:Option Addr) (l_l l_c:Nat) (aD:Option Addr) (aA aC:Nat) (Z:St) (Q:Value->St->Prop):Prop:=∀ g:Nat->Value,∃ an,Hid (kAt Pg (zW Pg) none (zR Pg 10) [1,1,0,1,0] (kFn Pg 10 Q) (.exit 0) ⟨Fm 37 (ov (yGQ l l_l l_c aD aA aC) g),[]⟩ Z an)
theorem xSK {P0:(Option Addr)->Nat->Nat->St->Prop} (hL:xAC l l_l l_c none 0 0 0 Z P0) (k0:∀ p3_1' l3_1' c3_1' Z',P0 p3_1' l3_1' c3_1' Z'->yGR l l_l l_c p3_1' l3_1' c3_1' Z' Q):zL Pg 10 [.slice l l_l l_c] Z Q :=
 zK [.g,.g,.g,.lf 37 (zQT l l_l l_c none 0 0 0) [zTH l l_l l_c P0]] (kd (And.intro (And.intro tt (And.intro (arf (zQT l l_l l_c none 0 0 0)) hL)) (And.intro (kz3 k0) trivial)))
theorem yWE (nx:Q (.slice aD aA aC) Z):yGR l l_l l_c aD aA aC Z Q :=
 sK [.g,.g] nx
end
section
variable {p:Option Addr} {l c:Nat} {xs:List Int}
theorem xMT:AppT Pg 47 47 78 7:=zBF (by kernel_rfl)
theorem xLW (x:Tp):zGZ Pg 78 7 (tpV x):=.inr ⟨yZY,zJJ,_,rfl,rfl⟩
section
variable {Z:St}
theorem yAG:∀ xs:List Int,(wI (xs.map zBA)).all cellB=true
 | []=>rfl
 | x::xs=>by
  have e:wI ((x::xs).map zBA)=zBA x::wI (xs.map zBA):=rfl;rw [e,List.all_cons,yAG xs];rfl
theorem xSY {n0:Nat} (h:zCD Z p l xs) (hl:l<=1000000) (hn:n0<=Z.y):∃ q d Z',yA Pg 22 22 (.slice none 0 0) (.slice p l c) Z=some (.slice q l d,Z')/\New Z Z'/\zCD Z' q l xs/\∀ a,q=some a->n0<=a.block/\a.block<Z'.y:=by
 obtain ⟨q,d,Z',g1,g2,g3,g4⟩:=Ax.append (n0:=n0) (k:=c) yQC (Ax.nil (Z:=Z)) h.1 (by omega) (yAG xs) hn;rw [Nat.zero_add] at g1 g2;rw [List.nil_append] at g2;exact ⟨q,d,Z',g1,(New.refl Z).of_only g3 (fun b hb=>(AtP.none hb).elim),g2.slv (by simpa using vK h) (by intro v hv;obtain ⟨x,_,rfl⟩:=List.mem_map.1 hv;exact zQG zT _ _),fun a e=>g2.bd _ ⟨a,e,rfl⟩⟩
theorem yIW (h:zCD Z p l xs) (hl:l<=1000000):∃ q d Z',zJ Pg 20 [.slice p l c] Z (.slice q l d) Z'/\New Z Z'/\zCD Z' q l xs/\∀ b,AtP q b->Z.y<=b:=by
 obtain ⟨q,d,Z',g1,n1,r1,f1⟩:=xSY (c:=c) (SlV.le h (le0 Z)) hl (Nat.le_refl _);exact zL.newSl (xKI g1 ⟨n1,q,d,rfl,r1,fun b ⟨a,e,hb⟩=>hb ▸ (f1 a e).1⟩)
theorem xNM {T:Trf} {A B C:List Int} (h:TrfP Z T A B C) (h1:T.pl<=8) (h2:T.ql<=8) (h3:T.sl<=8):∃ T' Z',zJ Pg 9 [.agg ⟨trL T⟩] Z (.agg ⟨trL T'⟩) Z'/\New Z Z'/\TrfP Z' T' A B C/\T'.z=T.z/\T'.w=T.w/\T'.pl<=8/\T'.ql<=8/\T'.sl<=8:=by
 obtain ⟨s1,hs1⟩:∃ s1,s1=(Z.re.row (trL T) 5).row (trf 0 none 0 0 none 0 0 none 0 0 0) 5:=⟨_,rfl⟩;have N1:New Z.re s1:=by rw [hs1];exact (New.row _ _ _).row'
 have n1:s1.y=Z.y+2:=by rw [hs1];rfl
 have oT:Own s1 Z.y (trL T) 5:=by rw [hs1];exact (zI Z.re (trL T) 5).row
 have oC:Own s1 (Z.y+1) (trf 0 none 0 0 none 0 0 none 0 0 0) 5:=by rw [hs1];exact zI (Z.re.row (trL T) 5) _ 5
 have L1:=(le0 Z).trans N1.le;obtain ⟨q1,d1,s2,k1,m1,r1,f1⟩:=yIW (c:=T.pc) (SlV.le h.a L1) (by omega);obtain ⟨q4,d4,s5,k2,m2,r2,f2⟩:=yIW (c:=T.qc) (SlV.le h.b (L1.trans m1.le)) (by omega);obtain ⟨q7,d7,s8,k3,m3,r3,f3⟩:=yIW (c:=T.sc) (SlV.le h.c ((L1.trans m1.le).trans m2.le)) (by omega);have M2:=m1.trans m2;have M3:=M2.trans m3;have x2:=m1.nx;have x5:=m2.nx;have x8:=m3.nx;have lt1:=zEP r1;have lt4:=zEP r2;have lt7:=zEP r3;have pt:∀ (s:St) (b k:Nat),b<s.y->zX s.y [.pointer (some ⟨b,k,none⟩)]:=fun s b k hb=>zM (zV hb) zO
 have hltp:=zEP h.a;have hltq:=zEP h.b;have hlts:=zEP h.c;have bel:∀ (n:Nat) (v:Value) (z w:Int) (p q r:Option Addr) (a b c d e f:Nat),xL RD n v=true->(∀ x,p=some x->x.block<n)->(∀ x,q=some x->x.block<n)->(∀ x,r=some x->x.block<n)->zX n [v,.agg ⟨trf z p a b q c d r e f w⟩]:=by
  intro n v z w p q r a b c d e f hv hp hq hr;refine zM hv (zM ?_ zO);have k:∀ (p:Option Addr) (a b:Nat),(∀ x,p=some x->x.block<n)->xL 7 n (.slice p a b)=true:=fun p a b hp=>by
   cases p with
   | none=>rfl
   | some x=>exact (zAQ _ _).2 (hp x rfl)
  show (true && (xL 7 n (.slice p a b) && (xL 7 n (.slice q c d) && (xL 7 n (.slice r e f) && (true && true)))))=true;rw [k p a b hp,k q c d hq,k r e f hr];rfl
 have g:∀ (p:Option Addr) (l c:Nat),yB RD (.slice p l c)=true:=fun p l c=>by cases p <;> rfl
 have lz:∀ s,Le s1 s->zH Pg s 3 ⟨Z.y,0,none⟩=some (iV T.z):=fun s hs=>(oT.le hs).ld rfl zT rfl
 have lq:∀ s,Le s1 s->zH Pg s 22 ⟨Z.y,2,none⟩=some (.slice T.q T.ql T.qc):=fun s hs=>(oT.le hs).ld rfl vQ rfl
 have ls:∀ s,Le s1 s->zH Pg s 22 ⟨Z.y,3,none⟩=some (.slice T.s T.sl T.sc):=fun s hs=>(oT.le hs).ld rfl vQ rfl
 have lw:∀ s,Le s1 s->zH Pg s 3 ⟨Z.y,4,none⟩=some (iV T.w):=fun s hs=>(oT.le hs).ld rfl zT rfl
 have a0:∀ (s:St) (k:Nat),s1.y<=s.y->(⟨Z.y,k,none⟩:Addr).block<s.y:=fun s k hs=>by show Z.y<s.y;omega
 have st:=(oC.le M3.le).store (P:=Pg) (k:=0) (t:=45) (v:=.agg ⟨trf T.z q1 T.pl d1 q4 T.ql d4 q7 T.sl d7 T.w⟩) (vs:=trf T.z q1 T.pl d1 q4 T.ql d4 q7 T.sl d7 T.w) (ds:=trf T.z q1 T.pl d1 q4 T.ql d4 q7 T.sl d7 T.w) rfl zMZ rfl (by simp) rfl;have oD:=(oC.le M3.le).put (ds:=trf T.z q1 T.pl d1 q4 T.ql d4 q7 T.sl d7 T.w);have ld:=oD.ldN (P:=Pg) (t:=45) (k:=0) (ds:=trf T.z q1 T.pl d1 q4 T.ql d4 q7 T.sl d7 T.w) yGP zMZ rfl rfl (by simp);have K:Only (·=Z.y+1) s8 (s8.own (Z.y+1) (trf T.z q1 T.pl d1 q4 T.ql d4 q7 T.sl d7 T.w) 5):=Only.own (.inr rfl);have NN:New Z.re (s8.own (Z.y+1) (trf T.z q1 T.pl d1 q4 T.ql d4 q7 T.sl d7 T.w) 5):=(N1.trans M3).of_only K (fun b e=>by show Z.y<=b;omega);have fr:∀ (q:Option Addr),(∀ b,AtP q b->s1.y<=b)->∀ a,q=some a->¬ a.block=Z.y+1:=fun q hq a e hb=>by have:=hq _ ⟨a,e,rfl⟩;omega
 have R1:=K.slv' (SlV.le r1 (m2.trans m3).le) (fr q1 f1);have R2:=K.slv' (SlV.le r2 m3.le) (fr q4 fun b hb=>by have:=f2 b hb;omega);have R3:=K.slv' r3 (fr q7 fun b hb=>by have:=f3 b hb;omega);refine (zL.new (P:=Pg) (f:=9) (args:=[.agg ⟨trL T⟩]) (Z:=Z) (Q:=fun v s=>∃ T',v=.agg ⟨trL T'⟩/\TrfP s T' A B C/\T'.z=T.z/\T'.w=T.w/\T'.pl<=8/\T'.ql<=8/\T'.sl<=8) ?_ (by rintro v s s' ⟨T',rfl,g1,g2⟩ hle;exact ⟨T',rfl,g1.le hle,g2⟩) (by
  rintro v s hr ⟨T',rfl,g1,g2⟩;refine ⟨T',rfl, ?_,g2⟩
  obtain ⟨z,p,a,b,q,c,d,r,e,f,w⟩:=T';obtain ⟨i1,i2,i3⟩:=g1;cases p with
  | some x=>exact Bool.noConfusion (show false=true from hr)
  | none =>
  cases q with
  | some x=>exact Bool.noConfusion (show false=true from hr)
  | none =>
  cases r with
  | some x=>exact Bool.noConfusion (show false=true from hr)
  | none=>exact ⟨zAV i1,zAV i2,zAV i3⟩)).elim fun v ⟨Z',g1,g2,T',e,g3⟩=>⟨T',Z',e ▸ g1,g2,g3⟩
 subst hs1;exact xER (T11:=⟨T.z,q1,T.pl,d1,q4,T.ql,d4,q7,T.sl,d7,T.w⟩) k1 (lq _ m1.le) k2 (ls _ M2.le) k3 (lw _ M3.le) st (pt _ _ _ (a0 _ 0 x2)) (zM (zEH fun a e=>by have:=hltq a e;have:=a0 _ 0 x2;show a.block<_;exact Nat.lt_trans (hltq a e) (a0 _ 0 x2)) zO) (pt _ _ _ (a0 _ 0 (by omega))) (zM (zEH fun a e=>Nat.lt_trans (hlts a e) (a0 _ 0 (by omega))) zO) (pt _ _ _ (a0 _ 0 (by omega)))
  (bel _ _ _ _ _ _ _ _ _ _ _ _ _ (zV (by show Z.y+1<_;omega)) (fun a e=>by have:=lt1 a e;omega) (fun a e=>by have:=lt4 a e;omega) lt7)
  ⟨⟨a0 _ 0 x2,rfl⟩,lz _ m1.le⟩ ⟨⟨a0 _ 0 (by omega),rfl⟩,lz _ M2.le⟩ ⟨⟨a0 _ 0 (by omega),rfl⟩,lz _ M3.le⟩ (lq _ (Le.refl _)) ⟨⟨a0 _ 2 x2,g _ _ _⟩,lq _ m1.le⟩ (ls _ (Le.refl _)) ⟨⟨a0 _ 3 x2,g _ _ _⟩,ls _ m1.le⟩ ⟨⟨a0 _ 3 (by omega),g _ _ _⟩,ls _ M2.le⟩ (lw _ (Le.refl _)) ⟨⟨a0 _ 4 x2,rfl⟩,lw _ m1.le⟩ ⟨⟨a0 _ 4 (by omega),rfl⟩,lw _ M2.le⟩ ⟨⟨a0 _ 4 (by omega),rfl⟩,lw _ M3.le⟩ ld hltp
  ⟨NN,_,rfl,⟨R1,R2,R3⟩,rfl,rfl,h1,h2,h3⟩
theorem xVQ {xs:List Tp} (h:zDV Z 37 p l xs) (hl:l<=1000000):∃ q d Z',zJ Pg 10 [.slice p l c] Z (.slice q l d) Z'/\New Z Z'/\zDV Z' 78 q l xs/\∀ b,AtP q b->Z.y<=b:=by
 have hlen:=vK h;refine zL.newSl (xSK (P0:=fun p' l' c' U=>l'=l/\New Z.re U/\Gr Pg U Z.y 78 7 p' l' c' (xs.map tpV)) (yWF (Inv:=fun k p' l' c' i U=>∃ s:Nat,i=s/\l'=s/\s+k=l/\New Z.re U/\Gr Pg U Z.y 78 7 p' s c' ((xs.take s).map tpV)) ?_ l none 0 0 0 Z.re ⟨0,rfl,rfl,by omega,New.refl _,by simpa using Gr.nil⟩) ?_)
 ·rintro k p' l' c' i U ⟨s,rfl,rfl,hk,hN,hg⟩;by_cases hs:l' < l;rotate_left
  ·have:l'=l:=by omega
   subst this;rw [List.take_of_length_le (by omega)] at hg;exact xNN ⟨rfl,hN,hg⟩ (by omega)
  have hz:=SlV.le (SlV.le h (le0 Z)) hN.le;obtain ⟨a,rfl,x,hx,ld⟩:=wS hz hs;have hm:(xs.map tpV)[l']?=some (.agg ⟨tpL x⟩):=by rw [List.getElem?_map,hx];rfl
  have hlt:=zEP hz a rfl;have kr:zJ Pg 21 [.agg ⟨rdL x.r⟩] U (.agg ⟨rdL x.r⟩) U:=(xLF ⟨rfl,(((New.row _ _ _).row').own (by show U.y<=U.y+1;omega):New U.re _).lw⟩).pure;obtain ⟨p4,c4,U2,g1,g2,g3,g4,g5⟩:=grow (Z0:=Z.re) (tpV x) xMT hg hN (New.refl U) (xLW _) (by omega) (e:=rfl) (hc:=rfl);exact xNO (uF (t':=3) hz hm (k:=0) rfl zT) (uF (t':=3) hz hm (k:=1) rfl zT) (uF (t':=3) hz hm (k:=2) rfl zT) (yKL (t':=35) (m:=4) hz hm (k:=3) (ds:=rdL x.r) rfl rfl (by omega) yQF zWG) kr g1 (fun a e=>(hg.bd ⟨a,e,rfl⟩).2) ⟨k-1,by omega,l'+1,by omega,rfl,by omega,g3,by rw [yM hx,List.map_append];exact g2⟩ (by omega) ⟨by omega,by omega⟩ ⟨by omega,by omega⟩ hlt
 ·rintro p' l' c' U ⟨rfl,hN,hg⟩;exact yWE ⟨hN,p',c',rfl,hg.slv,fun b hb=>(hg.bd hb).1⟩
end
end
section
open Go.Sort (SWO)
variable {x y:Rec} {l:List Rec} {U0:St} {c:Nat}
abbrev xXP (l:List Rec):Prop:=l.Pairwise fun x y=>¬ zIY x y
section
variable {Z:St}
structure M1 (Z U:St) (M n0:Nat) (l:List Rec) (p:Option Addr) (c:Nat) (out:List Rec):Prop where
 new:New Z.re U
 mp:zBR Tryz.prog U M zPU xT (yFQ out)
 gr:Gr Tryz.prog U n0 64 6 p out.length c (out.map xT)
 un:xXP out
 sub:∀ x,x∈out↔x∈l
 len:out.length<=l.length
 nx:n0<=U.y
theorem xKD:(x.m,x.s)=(y.m,y.s)↔zIY x y:=by simp [zIY]
theorem xPV (hx:x∈l) (hy:y∈l) (k:zIY x y) (h:x≠y):¬ zLF l:=fun c=>h (c.key hx hy k)
theorem yIM {M:Nat} {q:Option Addr} (hq:wB U0 64 q l.length l) (hN:New Z.re U0) (hM:zBR Tryz.prog U0 M zPU xT (yFQ [])) (hMn:Z.y<=M) (hqM:∀ b,AtP q b->b≠M) (hl:l.length<=1000000) (hC:zLF l) :
  zSG M q l.length c none 0 0 0 U0 (fun p l' c' e U=>False) (fun p l' c' U=>∃ out,l'=out.length/\M1 Z U M U0.y l p c' out):=by
 refine yIL (Inv:=fun k p l' c' i U=>∃ (s:Nat) (out:List Rec),i=s/\s+k=l.length/\l'=out.length/\M1 Z U M U0.y (l.take s) p c' out/\wB U 64 q l.length l) ?_ l.length none 0 0 0 U0 ⟨0,[],rfl,by omega,rfl,⟨hN,hM,Gr.nil,.nil,by simp,by simp,Nat.le_refl _⟩,hq⟩;rintro k p l' c' i U ⟨s,out,rfl,hk,rfl,m1,hr⟩;by_cases hs:s<l.length;rotate_left
 ·have:s=l.length:=by omega
  subst this;rw [List.take_length] at m1;exact yTY ⟨out,rfl,m1⟩ (by omega)
 obtain ⟨a,rfl,x,hx,ld⟩:=wS hr hs;have hxm:=List.mem_of_getElem? hx;have N1:New U ((((U.row (rcd 0 0 0 0 0 0) 6).own U.y (xG x) 6).row [iV 0,iV 0] 2).own (U.y+1) [iV x.m,iV x.s] 2):=(((New.row _ _ _).own (Nat.le_refl _)).row').own (by simp);have hMl:=m1.mp.1;have look:=fun (z:St) (hz:Le U z)=>m1.mp.le hz
 have N2:∀ y:Rec,New U ((((((U.row (rcd 0 0 0 0 0 0) 6).own U.y (xG x) 6).row [iV 0,iV 0] 2).own (U.y+1) [iV x.m,iV x.s] 2).row (rcd 0 0 0 0 0 0) 6).own (U.y+2) (xG y) 6):=fun y=>(N1.row').own (by simp)
 have onx:∀ y:Rec,Own ((((((U.row (rcd 0 0 0 0 0 0) 6).own U.y (xG x) 6).row [iV 0,iV 0] 2).own (U.y+1) [iV x.m,iV x.s] 2).row (rcd 0 0 0 0 0 0) 6).own (U.y+2) (xG y) 6) U.y (xG x) 6:=fun y=>(((((zI U (rcd 0 0 0 0 0 0) 6).put (ds:=xG x)).row).own (by simp)).row).own (by omega)
 cases hf:yFQ out (x.m,x.s) with
 | some y =>
  obtain ⟨hy1,hy2⟩:=zYV hf;have hyl:y∈l:=List.mem_of_mem_take ((m1.sub y).1 hy1);have hlk:=(look _ N1.le).look1 yUK xUD xGF hf;by_cases e:y=x
  ·refine yUA ld hlk (by rw [xWF,decide_eq_true e];rfl) ⟨k-1,by omega,s+1,out,by omega,by omega,rfl,⟨m1.new.trans (N2 y),look _ (N2 y).le,m1.gr.le (N2 y).le,m1.un,fun z=>?_,by rw [List.length_take];have:=m1.len;rw [List.length_take] at this;omega,Nat.le_trans m1.nx (N2 y).le.y⟩,SlV.le hr (N2 y).le⟩ (by omega);rw [m1.sub,yM hx,List.mem_append,List.mem_singleton];refine ⟨.inl,fun h=>h.elim id (fun h=>?_)⟩
   rw [h,<- e];exact (m1.sub y).1 hy1
  ·exact absurd hC (xPV hyl hxm (xKD.1 hy2) e)
 | none =>
  have hlk:=(look _ N1.le).look0 yUK xUD xGF hf;obtain ⟨es,u1,u2⟩:=(look _ (N2 ⟨0,0,0,0,0,0⟩).le).put yUK xUD (x.m,x.s) x;obtain ⟨U3,hU3⟩:∃ U3,U3=((((((U.row (rcd 0 0 0 0 0 0) 6).own U.y (xG x) 6).row [iV 0,iV 0] 2).own (U.y+1) [iV x.m,iV x.s] 2).row (rcd 0 0 0 0 0 0) 6).own (U.y+2) (xG ⟨0,0,0,0,0,0⟩) 6).put M (.map es):=⟨_,rfl⟩;rw [<- hU3] at u1 u2;have O3:Only (·=M) ((((((U.row (rcd 0 0 0 0 0 0) 6).own U.y (xG x) 6).row [iV 0,iV 0] 2).own (U.y+1) [iV x.m,iV x.s] 2).row (rcd 0 0 0 0 0 0) 6).own (U.y+2) (xG ⟨0,0,0,0,0,0⟩) 6) U3:=by rw [hU3];exact Only.put (.inr rfl)
  have N3:New Z.re U3:=(m1.new.trans (N2 ⟨0,0,0,0,0,0⟩)).of_only O3 (fun b hb=>by show Z.y<=b;omega);have o3:=O3.own' (onx ⟨0,0,0,0,0,0⟩) (by omega);have g3:=(m1.gr.le (N2 ⟨0,0,0,0,0,0⟩).le).only O3 (fun b hb e=>by have:=(m1.gr.bd hb).1;have:=hM.1;omega);have hn3:U3.y=U.y+3:=by rw [hU3];rfl
  have hlen:=m1.len;rw [List.length_take] at hlen;have hnx:=m1.nx;have hM0:M<U0.y:=hM.1;obtain ⟨p4,c4,U4,g1,g2,g4,g5⟩:=zGW (xT x) zQS g3 (Le.refl U3) (zGY x) (by omega) (by omega) (e:=rfl) (hc:=rfl);have hpM:∀ b,AtP p b->b≠M:=fun b hb e=>by have:=(m1.gr.bd hb).1;omega
  have nr:New U3 (U3.row (xG x) 6):=New.row _ _ _;refine yTZ ld hlk u1 (o3.ldN uM yP (k:=0) rfl rfl (by simp)) g1 ⟨k-1,by omega,s+1,out++[x],by omega,by omega,by simp,⟨(N3.trans nr).of_only g4 (fun b hb=>?_), ?_, ?_, ?_, ?_, ?_, ?_⟩, ?_⟩ (by omega)
  ·have:=(m1.gr.bd hb).1;show Z.y<=b;omega
  ·have h1:=u2.le nr.le;have h2:zBR Tryz.prog U4 M zPU xT _:=h1.at_ (g4.get M h1.1 (fun hb=>hpM M hb rfl)) g4.y;have e:yFQ (out++[x])=fun k'=>if k'=(x.m,x.s) then some x else yFQ out k':=funext fun k'=>zYW hf
   rw [e];exact h2
  ·rw [List.length_append,List.map_append];exact g2
  ·refine List.pairwise_append.2 ⟨m1.un,List.pairwise_singleton _ _,fun y hy z hz=>?_⟩;rw [List.mem_singleton.1 hz];exact fun e=>yVC hf y hy (xKD.2 e)
  ·intro z;rw [List.mem_append,m1.sub,yM hx,List.mem_append]
  ·rw [List.length_append,List.length_take,List.length_singleton];omega
  ·exact Nat.le_trans (Nat.le_trans (show U0.y<=U3.y by omega) nr.le.y) g4.y
  ·have h1:=SlV.le hr (N2 ⟨0,0,0,0,0,0⟩).le;have h2:=O3.slv' h1 (fun a' e hb=>hqM _ ⟨a',e,rfl⟩ hb);have h3:=SlV.le h2 nr.le;exact g4.slv' h3 (fun a' e hb=>by
    have:=(m1.gr.bd hb).1;have:=zEP hq a' e;omega)
theorem yCH {p:Option Addr} {L:List Rec} (hp:wB U0 64 p L.length L) (hN:New Z.re U0) (hs:Srt L) (hl:L.length<=1000000) (hC:zLF L) :
  zSF p L.length c 0 U0 (fun p' l' c' e U=>False) (fun U=>New Z.re U/\wB U 64 p L.length L):=by
 refine yIK (Inv:=fun k i U=>∃ s:Nat,i=s/\s+k=L.length/\New Z.re U/\wB U 64 p L.length L) ?_ L.length 0 U0 ⟨0,rfl,by omega,hN,hp⟩;rintro k i U ⟨s,rfl,hk,hNw,hr⟩;by_cases hsl:s<L.length;rotate_left
 ·exact yTU ⟨hNw,hr⟩ (by omega)
 obtain ⟨a,rfl,x,hx,ld⟩:=wS hr hsl;have N1:New U ((U.row (rcd 0 0 0 0 0 0) 6).own U.y (xG x) 6):=(New.row _ _ _).own (Nat.le_refl _);have hr1:=SlV.le hr N1.le;by_cases h0:0<s;rotate_left
 ·exact yTV ld ⟨k-1,by omega,s+1,by omega,by omega,hNw.trans N1,hr1⟩ (by omega) (by omega) (by omega)
 have hy:L[s-1]?=some (L[s-1]'(by omega)):=by simp
 obtain ⟨y,hy'⟩:∃ y,y=L[s-1]'(by omega):=⟨_,rfl⟩;rw [<- hy'] at hy;have hmy:(L.map xT)[s-1]?=some (.agg ⟨xG y⟩):=by rw [List.getElem?_map,hy];rfl
 have e1:Int.toNat ((s:Int)-1)=s-1:=by omega
 have l1:zH Tryz.prog ((U.row (rcd 0 0 0 0 0 0) 6).own U.y (xG x) 6) 3 (zS a ((Int.toNat ((s:Int)-1)*6)+0))=some (iV y.m):=by
  rw [e1];exact uF (t':=3) hr1 hmy (k:=0) rfl zT
 have l2:zH Tryz.prog ((U.row (rcd 0 0 0 0 0 0) 6).own U.y (xG x) 6) 3 (zS a ((Int.toNat ((s:Int)-1)*6)+2))=some (iV y.t):=by
  rw [e1];exact uF (t':=3) hr1 hmy (k:=2) rfl zT
 by_cases hm:y.m=x.m
 ·have:=(xMA hs hC hy hx (by omega) hm).2;exact yTX ld l1 l2 ⟨k-1,by omega,s+1,by omega,by omega,hNw.trans N1,hr1⟩ (by omega) (by omega) (by omega) (by omega) (by omega)
 ·exact yTW ld l1 ⟨k-1,by omega,s+1,by omega,by omega,hNw.trans N1,hr1⟩ (by omega) (by omega) (by omega) (by omega) (by omega)
end
end
section
variable {rs:List (List Rec)}
theorem yFT (h:zAT rs=0):rs.length<=6/\(∀ r∈rs,r.length<=60)/\∀ r∈rs,∀ x∈r,yQ x=true:=by
 unfold zAT at h;by_cases h6:6<rs.length
 ·rw [if_pos h6] at h;cases h
 rw [if_neg h6] at h;cases e1:rs.all fun r=>decide (r.length<=60) with
 | false=>rw [e1] at h;cases h
 | true =>
 rw [e1] at h;cases e2:rs.all fun r=>r.all yQ with
 | false=>rw [e2] at h;cases h
 | true =>
  refine ⟨by omega,fun r hr=>by simpa using List.all_eq_true.1 e1 r hr,fun r hr x hx=>?_⟩
  exact List.all_eq_true.1 (List.all_eq_true.1 e2 r hr) x hx
theorem xQO (h:∀ r∈rs,r.length<=60):rs.flatten.length<=60*rs.length:=by
 induction rs with
 | nil=>simp
 | cons r rs ih =>
  have h1:=h r List.mem_cons_self;have h2:=ih (fun x hx=>h x (List.mem_cons_of_mem _ hx));rw [List.flatten_cons,List.length_append,List.length_cons];omega
section
variable {Z:St}
theorem xJK {p:Option Addr} {l c:Nat} (h:zDI Z 52 64 p l rs) (hl:l<=1073741824) (hb:∀ r∈rs,r.length<=1073741824/\∀ x∈r,Byte x) (hz:zAT rs=0) (hC:zLF rs.flatten) :
    ∃ q d Z',zJ Tryz.prog 28 [.slice p l c] Z (.tuple ⟨[.slice q (zJW rs.flatten).length d,iV 0]⟩) Z'/\New Z Z'/\wB Z' 64 q (zJW rs.flatten).length (zJW rs.flatten):=by
  have h0:=h.le (le0 Z);have k1:=yGI (c:=c) h0 hl hb;rw [hz] at k1;obtain ⟨z1,z2,z3⟩:=yFT hz;have hfl:=xQO z2;have hright:∀ x∈rs.flatten,yQ x=true:=fun x hx=>by
    obtain ⟨r,hr,hxr⟩:=List.mem_flatten.1 hx;exact z3 r hr x hxr
  refine (zL.new (P:=Tryz.prog) (f:=28) (args:=[.slice p l c]) (Z:=Z) (Q:=fun v s=>∃ q d,v=.tuple ⟨[.slice q (zJW rs.flatten).length d,iV 0]⟩/\wB s 64 q (zJW rs.flatten).length (zJW rs.flatten)) ?_ (by rintro v s s' ⟨q,d,rfl,g⟩ hle;exact ⟨q,d,rfl,SlV.le g hle⟩) (by
        rintro v s hr ⟨q,d,rfl,g⟩;refine ⟨q,d,rfl, ?_⟩
        cases q with
        | none=>exact zAV g
        | some a=>exact Bool.noConfusion (show false=true from hr))).elim fun v ⟨Z',g1,g2,q',d',e,g3⟩=>⟨q',d',Z',e ▸ g1,g2,g3⟩
  have N1:New Z.re (Z.re.add (.map [])):=New.add _ _;obtain ⟨q2,c2,Z3,k2,n2,r2,f2⟩:=xQY (c:=c) (h0.le N1.le) hl (by omega);have N3:=N1.trans n2;have hM:zBR Tryz.prog Z3 Z.y zPU xT (yFQ []):=(zBR.new Z.re).le n2.le;have hn3:Z.y+1<=Z3.y:=n2.nx;have hL1:=yIM (c:=c2) r2 N3 hM (Nat.le_refl _) (fun b hb e=>by have h3:Z.y+1<=b:=f2 b hb;omega) (by omega) hC;refine xBR k1 k2 hL1 (fun p' l' c' e U h=>h.elim) ?_ rfl;rintro p' l' c' U ⟨out,rfl,m1⟩;have hol:=m1.len;obtain ⟨L,U',k5,o5,hsrt,hperm,hR⟩:=xOY (c:=c') m1.gr (by omega) (fun x hx=>hright x ((m1.sub x).1 hx)) m1.un;have hmem:∀ x,x∈L↔x∈rs.flatten:=fun x=>by rw [hperm.mem_iff,<- m1.sub]
  have hlen:L.length=out.length:=hperm.length_eq;have hcf:zLF L:=hC.mem fun x hx=>(hmem x).1 hx
  have hN:New Z.re U':=m1.new.of_only o5 (fun x hx=>by have:=(m1.gr.bd hx).1;have:=N3.nx;show Z.y<=x;have h4:Z.re.y=Z.y:=rfl;omega);have hL2:=yCH (c:=c') hR hN hsrt (by omega) hcf;rw [hlen] at hL2 hR;refine yIJ k5 hL2 (fun p' l' c' e U h=>h.elim) (fun U ⟨hN,hr⟩=>?_);have he:L=zJW rs.flatten:=yZB hC hsrt hmem;rw [<- hlen,he] at hr;refine yII ⟨hN,p',c', ?_,hr⟩;rw [<- hlen,he]
end
end
section
noncomputable section
variable (l:Nat) (v0:Addr) (BA BB BD:Nat) (q1 ak:oA) (l1 ad c1 ag:Nat) (aj bk:Int) (q0:Int->St->Prop) (Q:St->Prop) (Z:St) (Nx:Int->St->Prop) (q2:vPa) (Qr Q0:St->Prop)
def yXL:Code:=(Code.part [0,1,1,1,0,0] (dj 62))
def zOZ:lNa:=[(0,.func (.yield l) ⟨[]⟩ ⟨[]⟩),(1,pv v0),(3,pq BA 0),(6,.slice q1 l1 c1),(7,iV (l1:Int)),(8,iV aj)]
def xHE:Alt:=⟨Int,.normal,fun t=>zOZ l v0 BA q1 l1 c1 t,fun t=>[],fun t Z=>q0 t Z⟩
def yDD (l:Nat) (v0:Addr) (BA:Nat) (q1:oA) (l1 c1:Nat):lNa:=[]
def zRK:Alt:=⟨Unit,.ret,fun t=>yDD l v0 BA q1 l1 c1,fun t=>[],fun t Z=>Q Z⟩
def yDE (l:Nat) (v0:Addr) (BA:Nat) (q1:oA) (l1 c1:Nat):lNa:=[]
def zRL:Alt:=⟨Unit,(.exit 0),fun t=>yDE l v0 BA q1 l1 c1,fun t=>[],fun t Z=>Q Z⟩
def zBS:Prop:=xK Pg dl none yXL 48 (zOZ l v0 BA q1 l1 c1 aj) [] [xHE l v0 BA q1 l1 c1 Nx,zRK l v0 BA q1 l1 c1 Qr,zRL l v0 BA q1 l1 c1 Q0] Z
def yXM:Prop:=xO Pg dl none yXL 48 (zOZ l v0 BA q1 l1 c1 aj) [] [zRK l v0 BA q1 l1 c1 Qr,zRL l v0 BA q1 l1 c1 Q0] Z
def yDF:Prop:=kZ dl (dj 62) [0,1,1,1,0] (dm 62 q2) .ret 48 (yDD l v0 BA q1 l1 c1) Z
def yDG:Prop:=kZ dl (dj 62) [0,1,1,1,0] (dm 62 q2) (.exit 0) 48 (yDE l v0 BA q1 l1 c1) Z
def yZC:Code:=(Code.part [1,1,0,1,0,0] (dj 30))
def zVL:lNa:=[(1,pq BA 0),(2,pq BB 0),(4,pq BD 0),(33,.slice ak ad ag),(34,iV (ad:Int)),(35,iV bk)]
def xJV:Alt:=⟨Int,.normal,fun t=>zVL BA BB BD ak ad ag t,fun t=>[],fun t Z=>q0 t Z⟩
def yEY (BA BB BD:Nat) (ak:oA) (ad ag:Nat):lNa:=[(1,pq BA 0),(2,pq BB 0),(4,pq BD 0)]
def zSM:Alt:=⟨Unit,(.exit 0),fun t=>yEY BA BB BD ak ad ag,fun t=>[],fun t Z=>Q Z⟩
def zVM:Prop:=xK Pg dl none yZC 78 (zVL BA BB BD ak ad ag bk) [] [xJV BA BB BD ak ad ag Nx,zSM BA BB BD ak ad ag Q0] Z
def yZD:Prop:=xO Pg dl none yZC 78 (zVL BA BB BD ak ad ag bk) [] [zSM BA BB BD ak ad ag Q0] Z
def zSN:Prop:=kZ dl (dj 30) [1,1,0,1,0] (dm 30 q2) (.exit 0) 78 (yEY BA BB BD ak ad ag) Z
end
variable {l_l l_c BA l1 c1 lL cI lW cU lX cV lD cD lNB cKB lY cW lM cL lS cS lZ cX BB BD ad ag lI cQ:Nat} {Z ZE ZI ZR ZL ZU ZWB ZX ZF ZV ZXB ZAB ZW ZYB ZKB ZLB:St} {Q:vPa} {v0 bK cd bX:Addr} {q1 qJ qU qV qKB qW qL qS qX ak qQ:oA} {Inv:Nat->Int->St->Prop} {Qr Q0 Pr P0:St->Prop} {aj nA nD nE nC nG nF nP nQ nN nO nGB nHB nIB nJB nKB nLB nMB nNB nBl nBN nHC nIC nJC nBA nM nYB nBO nBP nBm bk nAB ah ax ar az aI aH am aG ay aF aQ aP nZB nDB nW nS nT nX nY nBD nBn nBQ nBR nBS nBo nBp nBq nBr:Int} {Nx:Int->St->Prop} {bF:Bool}
theorem yHI {l:oA} (nx:Q (.func (.func 62) ⟨[]⟩ ⟨[pq Z.y 0]⟩) (Z.row [.slice l l_l l_c] 1)):dq 29 [.slice l l_l l_c] Z Q :=
 zK [.g,.g,.g,.g] (kd nx)
theorem yRY {l:Nat} (hb:∀ k aj Z,Inv k aj Z->zBS l v0 BA q1 l1 c1 aj Z (NX1 Inv k) Qr Q0):∀ k aj Z,Inv k aj Z->yXM l v0 BA q1 l1 c1 aj Z Qr Q0 :=
 uH (ai zAW (ai (vN 0) trivial)) hb
theorem xHC {l:Nat}:let y0:=rcd nA nD nE nC nG nF;∀ (h1:dg Z 64 (zS bK (Int.toNat aj*6)) (de y0)) (h2:di (evL [pq BA 0,de (xE nA 0 0 0 0 0 0 0 0 0 0 0 none 0 0)]) ((Z.row (rcd 0 0 0 0 0 0) 6).own Z.y y0 6) (.store 95 (.tmp 0) (.tmp 1))=some (undef,ZE)) (h3:dg ZE 5 (dc Z.y 3) (.int .u8 nC)) (h4:dg ZE 52 (dc BA 12) (.slice qJ lL cI)) (h5:dg ZE 64 (dc Z.y 0) (de y0)) (h6:yA Pg 52 52 (.slice qJ lL cI) (.slice (some (dc ZE.y 0)) 1 1) (ZE.row y0 6)=some (.slice qU lW cU,ZI)) (h7:di (evL [pq BA 12,.slice qU lW cU]) ZI (.store 52 (.tmp 0) (.tmp 1))=some (undef,ZR)) (nx:Nx (aj+1) ZR) (u1:aj<(l1:Int):=by omega) (u2:Ix aj l1:=by omega) (u3:aj=0:=by omega) (u4:¬ nC=2:=by omega) (u5:I6 (aj+1):=by omega),zBS l v0 BA (some bK) l1 c1 aj Z Nx Qr Q0 :=
 let s1:=Z.row (rcd 0 0 0 0 0 0) 6;let s2:=s1.own Z.y (rcd nA nD nE nC nG nF) 6;let y0:=rcd nA nD nE nC nG nF;fun h1 h2 h3 h4 h5 h6 h7 nx u1 u2 u3 u4 u5=>kO 0 (aj+1) [.b true,.g,.i,.l (de y0),.g,.g,.e undef s2,.g,.b true,.g,.g,.g,.l (iV nA),.g,.g,.e undef ZE,.g,.l (.int .u8 nC),.b true,.g,.l (.slice qJ lL cI),.l (de y0),.g,.e (.slice qU lW cU) ZI,.g,.e undef ZR,.n (aj+1),.g] (fun _ f=>an2 (zU u1) u2 (an6 h1 ((zI _ _ _).store (vs:=y0) rfl yP rfl (nle rfl) rfl:di (evL [pq Z.y 0,de y0]) s1 (.store 64 (.tmp 0) (.tmp 1))=some (undef,s2)) (vT u3) ((zI _ _ _).put.rw.ld zT (k:=0) rfl:dg s2 3 (dc Z.y 0) (iV nA)) h2 h3 (an6 (zDZ u4) h4 h5 h6 h7 (w64 u5) f))) nx
@[reducible] def Ha0 (Z ZE ZL:St) (bK:Addr) (aj nA nD nE nC nG nF nP nQ nN nO nGB nHB nIB nJB nKB nLB nMB nNB:Int) (BA lX cV:Nat) (qV:oA):Prop:=zH Pg Z 64 (zS bK (Int.toNat aj*6))=some (.agg ⟨rcd nA nD nE nC nG nF⟩)/\(di (evL [.pointer (some ⟨BA,0,none⟩),.agg ⟨xE nA 0 0 0 0 0 0 0 0 0 0 0 none 0 0⟩]) ((Z.row (rcd 0 0 0 0 0 0) 6).own Z.y (rcd nA nD nE nC nG nF) 6) (.store 95 (.tmp 0) (.tmp 1))=some (undef,ZE))/\zH Pg ZE 5 ⟨Z.y,3,none⟩=some (.int .u8 nC)/\zH Pg ZE 64 ⟨Z.y,0,none⟩=some (.agg ⟨rcd nA nD nE nC nG nF⟩)/\(di (evL [.pointer (some ⟨BA,6,none⟩),.agg ⟨rcd nA nD nE nC nG nF⟩]) ZE (.store 64 (.tmp 0) (.tmp 1))=some (undef,ZL))/\zH Pg ZL 95 ⟨BA,0,none⟩=some (.agg ⟨xE nP nQ nN nO nGB nHB nIB nJB nKB nLB nMB nNB qV lX cV⟩)
theorem xHB {l:Nat} (H:Ha0 Z ZE ZL bK aj nA nD nE nC nG nF nP nQ nN nO nGB nHB nIB nJB nKB nLB nMB nNB BA lX cV qV) (h7:zAC Pg l [de (xE nP nQ nN nO nGB nHB nIB nJB nKB nLB nMB nNB qV lX cV)] ZL (.bool true) ZU) (h8:dg ZU 64 (dc Z.y 0) (de (rcd nBl nBN nHC nIC nJC nBA))) (h9:di (evL [pq BA 0,de (xE nBl nBN nHC nIC nJC nBA 0 0 0 0 0 0 none 0 0)]) ZU (.store 95 (.tmp 0) (.tmp 1))=some (undef,ZWB)) (nx:Nx (aj+1) ZWB) (u1:aj<(l1:Int):=by omega) (u2:Ix aj l1:=by omega) (u3:aj=0:=by omega) (u4:nC=2:=by omega) (u5:I6 (aj+1):=by omega):zBS l v0 BA (some bK) l1 c1 aj Z Nx Qr Q0 :=
 match H with|⟨h1,h2,h3,h4,h5,h6⟩=>let s1:=Z.row (rcd 0 0 0 0 0 0) 6;let s2:=s1.own Z.y (rcd nA nD nE nC nG nF) 6;kO 0 (aj+1) [.b true,.g,.i,.l (de (rcd nA nD nE nC nG nF)),.g,.g,.e undef s2,.g,.b true,.g,.g,.g,.l (iV nA),.g,.g,.e undef ZE,.g,.l (.int .u8 nC),.b false,.l (de (rcd nA nD nE nC nG nF)),.g,.e undef ZL,.g,.l (de (xE nP nQ nN nO nGB nHB nIB nJB nKB nLB nMB nNB qV lX cV)),.c (.bool true) ZU,.g,.l (de (rcd nBl nBN nHC nIC nJC nBA)),.g,.e undef ZWB,.n (aj+1),.g] (fun _ f=>an4 (zU u1) u2 h1 ((zI _ _ _).store (vs:=(rcd nA nD nE nC nG nF)) rfl yP rfl (nle rfl) rfl:di (evL [pq Z.y 0,de (rcd nA nD nE nC nG nF)]) s1 (.store 64 (.tmp 0) (.tmp 1))=some (undef,s2)) (an6 (vT u3) ((zI _ _ _).put.rw.ld zT (k:=0) rfl:dg s2 3 (dc Z.y 0) (iV nA)) h2 h3 (xN u4) h4 (an6 h5 h6 h7 h8 h9 (w64 u5) f))) nx
theorem xHA {l:Nat} (H:Ha0 Z ZE ZL bK aj nA nD nE nC nG nF nP nQ nN nO nGB nHB nIB nJB nKB nLB nMB nNB BA lX cV qV) (h7:zAC Pg l [de (xE nP nQ nN nO nGB nHB nIB nJB nKB nLB nMB nNB qV lX cV)] ZL (.bool false) ZU) (nx:Qr ZU) (u1:aj<(l1:Int):=by omega) (u2:Ix aj l1:=by omega) (u3:aj=0:=by omega) (u4:nC=2:=by omega):zBS l v0 BA (some bK) l1 c1 aj Z Nx Qr Q0 :=
 match H with|⟨h1,h2,h3,h4,h5,h6⟩=>let s1:=Z.row (rcd 0 0 0 0 0 0) 6;let s2:=s1.own Z.y (rcd nA nD nE nC nG nF) 6;kO 1 () [.b true,.g,.i,.l (de (rcd nA nD nE nC nG nF)),.g,.g,.e undef s2,.g,.b true,.g,.g,.g,.l (iV nA),.g,.g,.e undef ZE,.g,.l (.int .u8 nC),.b false,.l (de (rcd nA nD nE nC nG nF)),.g,.e undef ZL,.g,.l (de (xE nP nQ nN nO nGB nHB nIB nJB nKB nLB nMB nNB qV lX cV)),.c (.bool false) ZU,.g] (fun _ f=>ai (zU u1) (an6 u2 h1 ((zI _ _ _).store (vs:=(rcd nA nD nE nC nG nF)) rfl yP rfl (nle rfl) rfl:di (evL [pq Z.y 0,de (rcd nA nD nE nC nG nF)]) s1 (.store 64 (.tmp 0) (.tmp 1))=some (undef,s2)) (vT u3) ((zI _ _ _).put.rw.ld zT (k:=0) rfl:dg s2 3 (dc Z.y 0) (iV nA)) h2 (an6 h3 (xN u4) h4 h5 h6 h7 f))) nx
@[reducible] def Ha1 (Z ZI:St) (bK v0 cd:Addr) (aj nA nD nE nC nG nF nM:Int) (lD cD BA:Nat):Prop:=zH Pg Z 64 (zS bK (Int.toNat aj*6))=some (.agg ⟨rcd nA nD nE nC nG nF⟩)/\zH Pg ((Z.row (rcd 0 0 0 0 0 0) 6).own Z.y (rcd nA nD nE nC nG nF) 6) 52 v0=some (.slice (some cd) lD cD)/\zH Pg ((Z.row (rcd 0 0 0 0 0 0) 6).own Z.y (rcd nA nD nE nC nG nF) 6) 3 (zS cd ((Int.toNat (aj-1)*6)+0))=some (iV nM)/\(di (evL [.pointer (some ⟨BA,0,none⟩),.agg ⟨xE nA 0 0 0 0 0 0 0 0 0 0 0 none 0 0⟩]) ((Z.row (rcd 0 0 0 0 0 0) 6).own Z.y (rcd nA nD nE nC nG nF) 6) (.store 95 (.tmp 0) (.tmp 1))=some (undef,ZI))/\zH Pg ZI 5 ⟨Z.y,3,none⟩=some (.int .u8 nC)
theorem xGZ {l:Nat}:let y0:=rcd nA nD nE nC nG nF;∀ (H:Ha1 Z ZI bK v0 cd aj nA nD nE nC nG nF nM lD cD BA) (h6:dg ZI 52 (dc BA 12) (.slice qU lW cU)) (h7:dg ZI 64 (dc Z.y 0) (de y0)) (h8:yA Pg 52 52 (.slice qU lW cU) (.slice (some (dc ZI.y 0)) 1 1) (ZI.row y0 6)=some (.slice qKB lNB cKB,ZR)) (h9:di (evL [pq BA 12,.slice qKB lNB cKB]) ZR (.store 52 (.tmp 0) (.tmp 1))=some (undef,ZX)) (nx:Nx (aj+1) ZX) (u1:aj<(l1:Int):=by omega) (u2:Ix aj l1:=by omega) (u3:¬ aj=0:=by omega) (u4:I6 (aj-1):=by omega) (u5:Ix (aj-1) lD:=by omega) (u6:¬ nM=nA:=by omega) (u7:¬ nC=2:=by omega) (u8:I6 (aj+1):=by omega),zBS l v0 BA (some bK) l1 c1 aj Z Nx Qr Q0 :=
 let y0:=rcd nA nD nE nC nG nF;fun H h6 h7 h8 h9 nx u1 u2 u3 u4 u5 u6 u7 u8=>match H with|⟨h1,h2,h3,h4,h5⟩=>let s1:=Z.row (rcd 0 0 0 0 0 0) 6;let s2:=s1.own Z.y y0 6;kO 0 (aj+1) [.b true,.g,.i,.l (de y0),.g,.g,.e undef s2,.g,.b false,.g,.l (.slice (some cd) lD cD),.g,.n (aj-1),.i,.g,.l (iV nM),.g,.l (iV nA),.b true,.g,.g,.l (iV nA),.g,.g,.e undef ZI,.g,.l (.int .u8 nC),.b true,.g,.l (.slice qU lW cU),.l (de y0),.g,.e (.slice qKB lNB cKB) ZR,.g,.e undef ZX,.n (aj+1),.g] (fun _ f=>an2 (zU u1) u2 (an6 h1 ((zI _ _ _).store (vs:=y0) rfl yP rfl (nle rfl) rfl:di (evL [pq Z.y 0,de y0]) s1 (.store 64 (.tmp 0) (.tmp 1))=some (undef,s2)) (vD u3) h2 (w64 u4) u5 (an6 h3 ((zI _ _ _).put.rw.ld zT (k:=0) rfl:dg s2 3 (dc Z.y 0) (iV nA)) (zDZ u6) ((zI _ _ _).put.rw.ld zT (k:=0) rfl:dg s2 3 (dc Z.y 0) (iV nA)) h4 h5 (an6 (zDZ u7) h6 h7 h8 h9 (w64 u8) f)))) nx
theorem xGY {l:Nat}:let y0:=rcd nA nD nE nC nG nF;let y1:=xE nN nO nGB nHB nIB nJB nKB nLB nMB nNB nYB nBO qW lY cW;let y2:=dc Z.y 0;∀ (H:Ha1 Z ZI bK v0 cd aj nA nD nE nC nG nF nM lD cD BA) (h6:dg ZI 64 y2 (de y0)) (h7:di (evL [pq BA 6,de y0]) ZI (.store 64 (.tmp 0) (.tmp 1))=some (undef,ZF)) (h8:dg ZF 95 (dc BA 0) (de y1)) (h9:zAC Pg l [de y1] ZF (.bool true) ZV) (h10:dg ZV 64 y2 (de (rcd nHC nIC nJC nBA nBP nBm))) (h11:di (evL [pq BA 0,de (xE nHC nIC nJC nBA nBP nBm 0 0 0 0 0 0 none 0 0)]) ZV (.store 95 (.tmp 0) (.tmp 1))=some (undef,ZXB)) (nx:Nx (aj+1) ZXB) (u1:aj<(l1:Int):=by omega) (u2:Ix aj l1:=by omega) (u3:¬ aj=0:=by omega) (u4:I6 (aj-1):=by omega) (u5:Ix (aj-1) lD:=by omega) (u6:¬ nM=nA:=by omega) (u7:nC=2:=by omega) (u8:I6 (aj+1):=by omega),zBS l v0 BA (some bK) l1 c1 aj Z Nx Qr Q0 :=
 let y0:=rcd nA nD nE nC nG nF;let y1:=xE nN nO nGB nHB nIB nJB nKB nLB nMB nNB nYB nBO qW lY cW;let y2:=dc Z.y 0;fun H h6 h7 h8 h9 h10 h11 nx u1 u2 u3 u4 u5 u6 u7 u8=>match H with|⟨h1,h2,h3,h4,h5⟩=>let s1:=Z.row (rcd 0 0 0 0 0 0) 6;let s2:=s1.own Z.y y0 6;kO 0 (aj+1) [.b true,.g,.i,.l (de y0),.g,.g,.e undef s2,.g,.b false,.g,.l (.slice (some cd) lD cD),.g,.n (aj-1),.i,.g,.l (iV nM),.g,.l (iV nA),.b true,.g,.g,.l (iV nA),.g,.g,.e undef ZI,.g,.l (.int .u8 nC),.b false,.l (de y0),.g,.e undef ZF,.g,.l (de y1),.c (.bool true) ZV,.g,.l (de (rcd nHC nIC nJC nBA nBP nBm)),.g,.e undef ZXB,.n (aj+1),.g] (fun _ f=>an4 (zU u1) u2 h1 ((zI _ _ _).store (vs:=y0) rfl yP rfl (nle rfl) rfl:di (evL [pq Z.y 0,de y0]) s1 (.store 64 (.tmp 0) (.tmp 1))=some (undef,s2)) (an6 (vD u3) h2 (w64 u4) u5 h3 ((zI _ _ _).put.rw.ld zT (k:=0) rfl:dg s2 3 y2 (iV nA)) (an6 (zDZ u6) ((zI _ _ _).put.rw.ld zT (k:=0) rfl:dg s2 3 y2 (iV nA)) h4 h5 (xN u7) h6 (an6 h7 h8 h9 h10 h11 (w64 u8) f)))) nx
theorem xGX {l:Nat}:let y0:=rcd nA nD nE nC nG nF;let y1:=xE nN nO nGB nHB nIB nJB nKB nLB nMB nNB nYB nBO qW lY cW;∀ (H:Ha1 Z ZI bK v0 cd aj nA nD nE nC nG nF nM lD cD BA) (h6:dg ZI 64 (dc Z.y 0) (de y0)) (h7:di (evL [pq BA 6,de y0]) ZI (.store 64 (.tmp 0) (.tmp 1))=some (undef,ZF)) (h8:dg ZF 95 (dc BA 0) (de y1)) (h9:zAC Pg l [de y1] ZF (.bool false) ZV) (nx:Qr ZV) (u1:aj<(l1:Int):=by omega) (u2:Ix aj l1:=by omega) (u3:¬ aj=0:=by omega) (u4:I6 (aj-1):=by omega) (u5:Ix (aj-1) lD:=by omega) (u6:¬ nM=nA:=by omega) (u7:nC=2:=by omega),zBS l v0 BA (some bK) l1 c1 aj Z Nx Qr Q0 :=
 let y0:=rcd nA nD nE nC nG nF;let y1:=xE nN nO nGB nHB nIB nJB nKB nLB nMB nNB nYB nBO qW lY cW;fun H h6 h7 h8 h9 nx u1 u2 u3 u4 u5 u6 u7=>match H with|⟨h1,h2,h3,h4,h5⟩=>let s1:=Z.row (rcd 0 0 0 0 0 0) 6;let s2:=s1.own Z.y y0 6;kO 1 () [.b true,.g,.i,.l (de y0),.g,.g,.e undef s2,.g,.b false,.g,.l (.slice (some cd) lD cD),.g,.n (aj-1),.i,.g,.l (iV nM),.g,.l (iV nA),.b true,.g,.g,.l (iV nA),.g,.g,.e undef ZI,.g,.l (.int .u8 nC),.b false,.l (de y0),.g,.e undef ZF,.g,.l (de y1),.c (.bool false) ZV,.g] (fun _ f=>ai (zU u1) (an6 u2 h1 ((zI _ _ _).store (vs:=y0) rfl yP rfl (nle rfl) rfl:di (evL [pq Z.y 0,de y0]) s1 (.store 64 (.tmp 0) (.tmp 1))=some (undef,s2)) (vD u3) h2 (w64 u4) (an6 u5 h3 ((zI _ _ _).put.rw.ld zT (k:=0) rfl:dg s2 3 (dc Z.y 0) (iV nA)) (zDZ u6) ((zI _ _ _).put.rw.ld zT (k:=0) rfl:dg s2 3 (dc Z.y 0) (iV nA)) h4 (an6 h5 (xN u7) h6 h7 h8 h9 f)))) nx
theorem xGW {l:Nat}:let s1:=Z.row (rcd 0 0 0 0 0 0) 6;let s2:=s1.own Z.y (rcd nA nD nE nC nG nF) 6;let y0:=rcd nA nD nE nC nG nF;∀ (h1:dg Z 64 (zS bK (Int.toNat aj*6)) (de y0)) (h2:dg s2 52 v0 (.slice (some cd) lD cD)) (h3:dg s2 3 (zS cd ((Int.toNat (aj-1)*6)+0)) (iV nM)) (h4:dg s2 52 (dc BA 12) (.slice qL lM cL)) (h5:yA Pg 52 52 (.slice qL lM cL) (.slice (some ⟨(Z.y+1),0,none⟩) 1 1) (s2.row y0 6)=some (.slice qS lS cS,ZF)) (h6:di (evL [pq BA 12,.slice qS lS cS]) ZF (.store 52 (.tmp 0) (.tmp 1))=some (undef,ZAB)) (nx:Nx (aj+1) ZAB) (u1:aj<(l1:Int):=by omega) (u2:Ix aj l1:=by omega) (u3:¬ aj=0:=by omega) (u4:I6 (aj-1):=by omega) (u5:Ix (aj-1) lD:=by omega) (u6:nM=nA:=by omega) (u7:¬ nC=2:=by omega) (u8:I6 (aj+1):=by omega),zBS l v0 BA (some bK) l1 c1 aj Z Nx Qr Q0:=
 let s1:=Z.row (rcd 0 0 0 0 0 0) 6;let s2:=s1.own Z.y (rcd nA nD nE nC nG nF) 6;let y0:=rcd nA nD nE nC nG nF;fun h1 h2 h3 h4 h5 h6 nx u1 u2 u3 u4 u5 u6 u7 u8=>kO 0 (aj+1) [.b true,.g,.i,.l (de y0),.g,.g,.e undef s2,.g,.b false,.g,.l (.slice (some cd) lD cD),.g,.n (aj-1),.i,.g,.l (iV nM),.g,.l (iV nA),.b false,.g,.g,.l (.int .u8 nC),.b true,.g,.l (.slice qL lM cL),.l (de y0),.g,.e (.slice qS lS cS) ZF,.g,.e undef ZAB,.n (aj+1),.g] (fun _ f=>an6 (zU u1) u2 h1 ((zI _ _ _).store (vs:=y0) rfl yP rfl (nle rfl) rfl:di (evL [pq Z.y 0,de y0]) s1 (.store 64 (.tmp 0) (.tmp 1))=some (undef,s2)) (vD u3) h2 (an6 (w64 u4) u5 h3 ((zI _ _ _).put.rw.ld zT (k:=0) rfl:dg s2 3 (dc Z.y 0) (iV nA)) (xN u6) ((zI _ _ _).put.rw.ld zGD (k:=3) rfl:dg s2 5 (dc Z.y 3) (.int .u8 nC)) (an6 (zDZ u7) h4 ((zI _ _ _).put.rw.ldN uM yP (k:=0) rfl rfl (nle rfl):dg s2 64 (dc Z.y 0) (de y0)) h5 h6 (w64 u8) f))) nx
@[reducible] def Ha2 (Z ZI:St) (bK v0 cd:Addr) (aj nA nD nE nC nG nF nM nQ nN nO nGB nHB nIB nJB nKB nLB nMB nNB nYB:Int) (lD cD BA lZ cX:Nat) (qX:oA):Prop:=zH Pg Z 64 (zS bK (Int.toNat aj*6))=some (.agg ⟨rcd nA nD nE nC nG nF⟩)/\zH Pg ((Z.row (rcd 0 0 0 0 0 0) 6).own Z.y (rcd nA nD nE nC nG nF) 6) 52 v0=some (.slice (some cd) lD cD)/\zH Pg ((Z.row (rcd 0 0 0 0 0 0) 6).own Z.y (rcd nA nD nE nC nG nF) 6) 3 (zS cd ((Int.toNat (aj-1)*6)+0))=some (iV nM)/\(di (evL [.pointer (some ⟨BA,6,none⟩),.agg ⟨rcd nA nD nE nC nG nF⟩]) ((Z.row (rcd 0 0 0 0 0 0) 6).own Z.y (rcd nA nD nE nC nG nF) 6) (.store 64 (.tmp 0) (.tmp 1))=some (undef,ZI))/\zH Pg ZI 95 ⟨BA,0,none⟩=some (.agg ⟨xE nQ nN nO nGB nHB nIB nJB nKB nLB nMB nNB nYB qX lZ cX⟩)
theorem xGV {l:Nat} (H:Ha2 Z ZI bK v0 cd aj nA nD nE nC nG nF nM nQ nN nO nGB nHB nIB nJB nKB nLB nMB nNB nYB lD cD BA lZ cX qX) (h6:zAC Pg l [de (xE nQ nN nO nGB nHB nIB nJB nKB nLB nMB nNB nYB qX lZ cX)] ZI (.bool true) ZW) (h7:dg ZW 64 (dc Z.y 0) (de (rcd nBN nHC nIC nJC nBA nBP))) (h8:di (evL [pq BA 0,de (xE nBN nHC nIC nJC nBA nBP 0 0 0 0 0 0 none 0 0)]) ZW (.store 95 (.tmp 0) (.tmp 1))=some (undef,ZYB)) (nx:Nx (aj+1) ZYB) (u1:aj<(l1:Int):=by omega) (u2:Ix aj l1:=by omega) (u3:¬ aj=0:=by omega) (u4:I6 (aj-1):=by omega) (u5:Ix (aj-1) lD:=by omega) (u6:nM=nA:=by omega) (u7:nC=2:=by omega) (u8:I6 (aj+1):=by omega):zBS l v0 BA (some bK) l1 c1 aj Z Nx Qr Q0 :=
 match H with|⟨h1,h2,h3,h4,h5⟩=>let s1:=Z.row (rcd 0 0 0 0 0 0) 6;let s2:=s1.own Z.y (rcd nA nD nE nC nG nF) 6;kO 0 (aj+1) [.b true,.g,.i,.l (de (rcd nA nD nE nC nG nF)),.g,.g,.e undef s2,.g,.b false,.g,.l (.slice (some cd) lD cD),.g,.n (aj-1),.i,.g,.l (iV nM),.g,.l (iV nA),.b false,.g,.g,.l (.int .u8 nC),.b false,.l (de (rcd nA nD nE nC nG nF)),.g,.e undef ZI,.g,.l (de (xE nQ nN nO nGB nHB nIB nJB nKB nLB nMB nNB nYB qX lZ cX)),.c (.bool true) ZW,.g,.l (de (rcd nBN nHC nIC nJC nBA nBP)),.g,.e undef ZYB,.n (aj+1),.g] (fun _ f=>an2 (zU u1) u2 (an6 h1 ((zI _ _ _).store (vs:=(rcd nA nD nE nC nG nF)) rfl yP rfl (nle rfl) rfl:di (evL [pq Z.y 0,de (rcd nA nD nE nC nG nF)]) s1 (.store 64 (.tmp 0) (.tmp 1))=some (undef,s2)) (vD u3) h2 (w64 u4) u5 (an6 h3 ((zI _ _ _).put.rw.ld zT (k:=0) rfl:dg s2 3 (dc Z.y 0) (iV nA)) (xN u6) ((zI _ _ _).put.rw.ld zGD (k:=3) rfl:dg s2 5 (dc Z.y 3) (.int .u8 nC)) (xN u7) ((zI _ _ _).put.rw.ldN uM yP (k:=0) rfl rfl (nle rfl):dg s2 64 (dc Z.y 0) (de (rcd nA nD nE nC nG nF))) (an6 h4 h5 h6 h7 h8 (w64 u8) f)))) nx
theorem xGU {l:Nat} (H:Ha2 Z ZI bK v0 cd aj nA nD nE nC nG nF nM nQ nN nO nGB nHB nIB nJB nKB nLB nMB nNB nYB lD cD BA lZ cX qX) (h6:zAC Pg l [de (xE nQ nN nO nGB nHB nIB nJB nKB nLB nMB nNB nYB qX lZ cX)] ZI (.bool false) ZW) (nx:Qr ZW) (u1:aj<(l1:Int):=by omega) (u2:Ix aj l1:=by omega) (u3:¬ aj=0:=by omega) (u4:I6 (aj-1):=by omega) (u5:Ix (aj-1) lD:=by omega) (u6:nM=nA:=by omega) (u7:nC=2:=by omega):zBS l v0 BA (some bK) l1 c1 aj Z Nx Qr Q0 :=
 match H with|⟨h1,h2,h3,h4,h5⟩=>let s1:=Z.row (rcd 0 0 0 0 0 0) 6;let s2:=s1.own Z.y (rcd nA nD nE nC nG nF) 6;kO 1 () [.b true,.g,.i,.l (de (rcd nA nD nE nC nG nF)),.g,.g,.e undef s2,.g,.b false,.g,.l (.slice (some cd) lD cD),.g,.n (aj-1),.i,.g,.l (iV nM),.g,.l (iV nA),.b false,.g,.g,.l (.int .u8 nC),.b false,.l (de (rcd nA nD nE nC nG nF)),.g,.e undef ZI,.g,.l (de (xE nQ nN nO nGB nHB nIB nJB nKB nLB nMB nNB nYB qX lZ cX)),.c (.bool false) ZW,.g] (fun _ f=>an5 (zU u1) u2 h1 ((zI _ _ _).store (vs:=(rcd nA nD nE nC nG nF)) rfl yP rfl (nle rfl) rfl:di (evL [pq Z.y 0,de (rcd nA nD nE nC nG nF)]) s1 (.store 64 (.tmp 0) (.tmp 1))=some (undef,s2)) (vD u3) (an6 h2 (w64 u4) u5 h3 ((zI _ _ _).put.rw.ld zT (k:=0) rfl:dg s2 3 (dc Z.y 0) (iV nA)) (xN u6) (an6 ((zI _ _ _).put.rw.ld zGD (k:=3) rfl:dg s2 5 (dc Z.y 3) (.int .u8 nC)) (xN u7) ((zI _ _ _).put.rw.ldN uM yP (k:=0) rfl rfl (nle rfl):dg s2 64 (dc Z.y 0) (de (rcd nA nD nE nC nG nF))) h4 h5 h6 f))) nx
theorem xGT {l:Nat} (nx:Q0 Z) (u1:¬ aj<(l1:Int):=by omega):zBS l v0 BA q1 l1 c1 aj Z Nx Qr Q0 :=
 kO 2 () [.b false] (fun _ f=>ai (zY u1) f) nx
theorem xOU {l:Nat}:let y0:=Z.row (xE 0 0 0 0 0 0 0 0 0 0 0 0 none 0 0) 13;∀ (h1:dg y0 52 v0 (.slice q1 l1 c1)) (hL:yXM l v0 Z.y q1 l1 c1 0 y0 Pr P0) (kr:∀ Z',Pr Z'->yDF l v0 Z.y q1 l1 c1 Z' Q) (k0:∀ Z',P0 Z'->yDG l v0 Z.y q1 l1 c1 Z' Q),dq 62 [.func (.yield l) ⟨[]⟩ ⟨[]⟩,pv v0] Z Q :=
 fun h1 hL kr k0=>zK [.g,.l (.slice q1 l1 c1),.g,.g,.lf 48 (zOZ l v0 Z.y q1 l1 c1 0) [zRK l v0 Z.y q1 l1 c1 Pr,zRL l v0 Z.y q1 l1 c1 P0]] (kd (ai h1 (ai (ai tt (ai (arf (zOZ l v0 Z.y q1 l1 c1 0)) hL)) (ai (kz0 kr) (ai (kz0 k0) trivial)))))
theorem yRW {l:Nat} (nx:Q (.tuple ⟨[]⟩) Z):yDF l v0 BA q1 l1 c1 Z Q :=
 sK [] nx
theorem yRX {l:Nat} (nx:Q (.tuple ⟨[]⟩) Z):yDG l v0 BA q1 l1 c1 Z Q :=
 sK [] nx
theorem yUH (hb:∀ k bk Z,Inv k bk Z->zVM BA BB BD ak ad ag bk Z (NX1 Inv k) Q0):∀ k bk Z,Inv k bk Z->yZD BA BB BD ak ad ag bk Z Q0 :=
 uH (ai (vN 0) trivial) hb
theorem xJU:let s1:=Z.row (rcd 0 0 0 0 0 0) 6;let s2:=s1.own Z.y (rcd nA nD nE nC nG nF) 6;∀ (h1:dg Z 64 (zS bX (Int.toNat bk*6)) (de (rcd nA nD nE nC nG nF))) (h2:dg s2 3 (dc BD 3) (iV nAB)) (h3:di (evL [pq BD 3,iV (nAB-1)]) s2 (.store 3 (.tmp 0) (.tmp 1))=some (undef,ZL)) (h4:dg ZL 3 (dc BD 4) (iV nP)) (h5:dg ZL 3 (dc Z.y 5) (iV nF)) (h6:di (evL [pq BD 4,iV (nP-nF)]) ZL (.store 3 (.tmp 0) (.tmp 1))=some (undef,ZF)) (nx:Nx (bk+1) ZF) (u1:bk<(ad:Int):=by omega) (u2:Ix bk ad:=by omega) (u3:nC=0:=by omega) (u4:I6 (nAB-1):=by omega) (u5:I6 (nP-nF):=by omega) (u6:I6 (bk+1):=by omega),zVM BA BB BD (some bX) ad ag bk Z Nx Q0:=
 let s1:=Z.row (rcd 0 0 0 0 0 0) 6;let s2:=s1.own Z.y (rcd nA nD nE nC nG nF) 6;fun h1 h2 h3 h4 h5 h6 nx u1 u2 u3 u4 u5 u6=>kO 0 (bk+1) [.b true,.i,.l (de (rcd nA nD nE nC nG nF)),.g,.e undef s2,.g,.l (.int .u8 nC),.b true,.g,.l (iV nAB),.n (nAB-1),.g,.e undef ZL,.g,.l (iV nP),.g,.l (iV nF),.n (nP-nF),.g,.e undef ZF,.n (bk+1),.g] (fun _ f=>an2 (zU u1) u2 (an6 h1 ((zI _ _ _).store (vs:=(rcd nA nD nE nC nG nF)) rfl yP rfl (nle rfl) rfl:di (evL [pq Z.y 0,de (rcd nA nD nE nC nG nF)]) s1 (.store 64 (.tmp 0) (.tmp 1))=some (undef,s2)) ((zI _ _ _).put.rw.ld zGD (k:=3) rfl:dg s2 5 (dc Z.y 3) (.int .u8 nC)) (vT u3) h2 (w64 u4) (an6 h3 h4 h5 (w64 u5) h6 (w64 u6) f))) nx
theorem xJT:let y0:=rcd nA nD nE nC nG nF;∀ (h1:dg Z 64 (zS bX (Int.toNat bk*6)) (de y0)) (nx:Nx (bk+1) ((Z.row (rcd 0 0 0 0 0 0) 6).own Z.y y0 6)) (u1:bk<(ad:Int):=by omega) (u2:Ix bk ad:=by omega) (u3:¬ nC=0:=by omega) (u4:I6 (bk+1):=by omega),zVM BA BB BD (some bX) ad ag bk Z Nx Q0 :=
 let s1:=Z.row (rcd 0 0 0 0 0 0) 6;let s2:=s1.own Z.y (rcd nA nD nE nC nG nF) 6;let y0:=rcd nA nD nE nC nG nF;fun h1 nx u1 u2 u3 u4=>kO 0 (bk+1) [.b true,.i,.l (de y0),.g,.e undef s2,.g,.l (.int .u8 nC),.b false,.n (bk+1),.g] (fun _ f=>ai (zU u1) (an6 u2 h1 ((zI _ _ _).store (vs:=y0) rfl yP rfl (nle rfl) rfl:di (evL [pq Z.y 0,de y0]) s1 (.store 64 (.tmp 0) (.tmp 1))=some (undef,s2)) ((zI _ _ _).put.rw.ld zGD (k:=3) rfl:dg s2 5 (dc Z.y 3) (.int .u8 nC)) (vD u3) (w64 u4) f)) nx
theorem xJS (nx:Q0 Z) (u1:¬ bk<(ad:Int):=by omega):zVM BA BB BD ak ad ag bk Z Nx Q0 :=
 kO 1 () [.b false] (fun _ f=>ai (zY u1) f) nx
theorem xQB:let y0:=xE ah ax ar az aI aH am aG ay aF aQ aP ak ad ag;∀ (hL:yZD Z.y (Z.y+1) (Z.y+2) ak ad ag 0 ((((Z.row y0 13).row (yF 0 0 0 0 0) 5).row (yF 0 0 0 0 0) 5).own (Z.y+2) (yF am ax aG (aQ-aI) (aP-aH)) 5) P0) (k0:∀ Z',P0 Z'->zSN Z.y (Z.y+1) (Z.y+2) ak ad ag Z' Q) (u1:I6 (aQ-aI):=by omega) (u2:I6 (aP-aH):=by omega),dq 30 [de y0] Z Q :=
 let s1:=Z.row (xE ah ax ar az aI aH am aG ay aF aQ aP ak ad ag) 13;let s2:=s1.row (yF 0 0 0 0 0) 5;let s3:=s2.row (yF 0 0 0 0 0) 5;let s5:=zVL Z.y (Z.y+1) (Z.y+2) ak ad ag 0;let s6:=aP-aH;let s7:=aQ-aI;let s4:=s3.own (Z.y+2) (yF am ax aG s7 s6) 5;fun hL k0 u1 u2=>zK [.g,.g,.g,.g,.g,.l (iV am),.g,.g,.l (iV ax),.g,.g,.l (iV aG),.g,.g,.l (iV aQ),.g,.g,.l (iV aI),.n s7,.g,.g,.l (iV aP),.g,.g,.l (iV aH),.n s6,.g,.g,.e undef s4,.g,.l (.slice ak ad ag),.g,.g,.lf 78 s5 [zSM Z.y (Z.y+1) (Z.y+2) ak ad ag P0]] (kd (an5 ((zI _ _ _).row.rw.ld zT (k:=6) rfl:dg s2 3 (dc Z.y 6) (iV am)) ((zI _ _ _).row.rw.ld zT (k:=1) rfl:dg s2 3 (dc Z.y 1) (iV ax)) ((zI _ _ _).row.rw.ld zT (k:=7) rfl:dg s2 3 (dc Z.y 7) (iV aG)) ((zI _ _ _).row.rw.ld zT (k:=10) rfl:dg s2 3 (dc Z.y 10) (iV aQ)) ((zI _ _ _).row.rw.ld zT (k:=4) rfl:dg s2 3 (dc Z.y 4) (iV aI)) (an6 (w64 u1) ((zI _ _ _).row.rw.ld zT (k:=11) rfl:dg s2 3 (dc Z.y 11) (iV aP)) ((zI _ _ _).row.rw.ld zT (k:=5) rfl:dg s2 3 (dc Z.y 5) (iV aH)) (w64 u2) ((zI _ _ _).store (vs:=(yF am ax aG s7 s6)) rfl zHP rfl (nle rfl) rfl:di (evL [pq ((Z.y+2)) 0,de (yF am ax aG s7 s6)]) s3 (.store 60 (.tmp 0) (.tmp 1))=some (undef,s4)) (((zI _ _ _).row.row.own (nne Z.y 0 2 rfl)).rw.ld zIZ (k:=12) rfl:dg s4 52 (dc Z.y 12) (.slice ak ad ag)) (ai (ai tt (ai (arf s5) hL)) (ai (kz0 k0) trivial)))))
theorem yUG:let y0:=yF nW nS nT nX nY;let y1:=(nZB-nDB)-1;∀ (h1:dg Z 3 (dc BA 7) (iV nZB)) (h2:dg Z 3 (dc BA 1) (iV nDB)) (h3:dg Z 52 (dc BA 12) (.slice qQ lI cQ)) (h4:dg Z 60 (dc BD 0) (de y0)) (h5:dg Z 3 (dc BD 3) (iV nBD)) (h6:dh 55 [iV nBD,iV 0,iV (y1-(lI:Int))] Z (.bool true) Z) (h7:dg Z 3 (dc BD 4) (iV nBn)) (h8:dh 55 [iV nBn,iV 0,iV (10000*nBD)] Z (.bool bF) Z) (h9:di (evL [pq BB 0,de y0]) Z (.store 60 (.tmp 0) (.tmp 1))=some (undef,ZKB)) (h10:dg ZKB 60 (dc BB 0) (de (yF nBQ nBR nBS nBo nBp))) (nx:Q (.tuple ⟨[de (yF nBQ nBR nBS nBo nBp),.bool bF]⟩) ZKB) (u1:I6 (nZB-nDB):=by omega) (u2:I6 y1:=by omega) (u3:I6 (y1-(lI:Int)):=by omega) (u4:I6 (10000*nBD):=by omega) (cj:BD<Z.y:=by omega) (b_BB:BB<Z.y:=by omega),zSN BA BB BD ak ad ag Z Q :=
 let s1:=nZB-nDB;let y0:=yF nW nS nT nX nY;fun h1 h2 h3 h4 h5 h6 h7 h8 h9 h10 nx u1 u2 u3 u4 cj b_BB=>sK [.g,.g,.l (iV nZB),.g,.g,.l (iV nDB),.n s1,.n (s1-1),.g,.l (.slice qQ lI cQ),.g,.n ((s1-1)-(lI:Int)),.g,.l (de y0),.g,.l (iV nBD),.g,.c (.bool true) Z,.g,.g,.l (iV nBn),.g,.l (iV nBD),.n (10000*nBD),.c (.bool bF) Z,.g,.e undef ZKB,.g,.l (de (yF nBQ nBR nBS nBo nBp))] (an6 h1 h2 (w64 u1) (w64 u2) h3 (w64 u3) (an6 h4 h5 h6 h7 h5 (w64 u4) (an6 h8 h9 ((zM (zV cj) zO):zX Z.y [pq BD 0]) ((zM (zV cj) zO):zX Z.y [pq BD 3]) ((zM (zV cj) zO):zX Z.y [pq BD 4]) ((zM (zV cj) zO):zX Z.y [pq BD 3]) (an6 ((zM (zV b_BB) (zM (zCR rfl) zO)):zX Z.y [pq BB 0,de y0]) (⟨⟨cj,rfl⟩,h4⟩:(zLq Z 60 (dc BD 0) (de y0))) (⟨⟨cj,rfl⟩,h4⟩:(zLq Z 60 (dc BD 0) (de y0))) (⟨⟨cj,rfl⟩,h4⟩:(zLq Z 60 (dc BD 0) (de y0))) (⟨⟨cj,rfl⟩,h4⟩:(zLq Z 60 (dc BD 0) (de y0))) h10 nx))))
theorem yUF:let y0:=yF nW nS nT nX nY;let y1:=(nZB-nDB)-1;∀ (h1:dg Z 3 (dc BA 7) (iV nZB)) (h2:dg Z 3 (dc BA 1) (iV nDB)) (h3:dg Z 52 (dc BA 12) (.slice qQ lI cQ)) (h4:dg Z 60 (dc BD 0) (de y0)) (h5:dg Z 3 (dc BD 3) (iV nBD)) (h6:dh 55 [iV nBD,iV 0,iV (y1-(lI:Int))] Z (.bool false) Z) (h7:di (evL [pq BB 0,de y0]) Z (.store 60 (.tmp 0) (.tmp 1))=some (undef,ZLB)) (h8:dg ZLB 60 (dc BB 0) (de (yF nBq nBr nBQ nBR nBS))) (nx:Q (.tuple ⟨[de (yF nBq nBr nBQ nBR nBS),.bool false]⟩) ZLB) (u1:I6 (nZB-nDB):=by omega) (u2:I6 y1:=by omega) (u3:I6 (y1-(lI:Int)):=by omega) (cj:BD<Z.y:=by omega) (b_BB:BB<Z.y:=by omega),zSN BA BB BD ak ad ag Z Q :=
 let s1:=nZB-nDB;let y0:=yF nW nS nT nX nY;fun h1 h2 h3 h4 h5 h6 h7 h8 nx u1 u2 u3 cj b_BB=>sK [.g,.g,.l (iV nZB),.g,.g,.l (iV nDB),.n s1,.n (s1-1),.g,.l (.slice qQ lI cQ),.g,.n ((s1-1)-(lI:Int)),.g,.l (de y0),.g,.l (iV nBD),.g,.c (.bool false) Z,.g,.g,.e undef ZLB,.g,.l (de (yF nBq nBr nBQ nBR nBS))] (an6 h1 h2 (w64 u1) (w64 u2) h3 (w64 u3) (an6 h4 h5 h6 h7 ((zM (zV cj) zO):zX Z.y [pq BD 0]) ((zM (zV cj) zO):zX Z.y [pq BD 3]) (an6 ((zM (zV b_BB) (zM (zCR rfl) zO)):zX Z.y [pq BB 0,de y0]) (⟨⟨cj,rfl⟩,h4⟩:(zLq Z 60 (dc BD 0) (de y0))) (⟨⟨cj,rfl⟩,h4⟩:(zLq Z 60 (dc BD 0) (de y0))) (⟨⟨cj,rfl⟩,h4⟩:(zLq Z 60 (dc BD 0) (de y0))) (⟨⟨cj,rfl⟩,h4⟩:(zLq Z 60 (dc BD 0) (de y0))) h8 nx)))
end
section
variable {n:Nat} {cs:List Value} {v:Value}
section
variable {Z Z':St}
theorem yHG {a:Addr} {vs:List Value} (h:yZ Z a vs=some Z'):Z'.low<=Z.low:=by
 unfold yZ at h;split at h
 ·split at h
  ·obtain ⟨_,h⟩:=yT h;rw [zBU,St.write_eq] at h;simp at h;rw [<- h];simp;omega
  ·cases h
 ·cases h
theorem yQD {base:Option Addr} {len cap cnt:Nat} (h:vZ Z n base len cap cnt cs=some (v,Z')):Z'.low<=Z.low:=by
 unfold vZ at h;rcases vB h with ⟨_,h⟩ | ⟨_,h⟩
 ·split at h
  ·obtain ⟨_,h⟩:=yT h;simp at h;rw [<- h.2];exact Nat.le_refl _
  ·rcases vB h with ⟨_,h⟩ | ⟨_,h⟩
   ·simp at h;rw [<- h.2];exact Nat.le_refl _
   ·simp only [Option.map_eq_some_iff] at h;obtain ⟨Z₁,h1,h2⟩:=h;simp at h2;rw [<- h2.2];exact yHG h1
 ·rcases vB h with ⟨_,h⟩ | ⟨_,h⟩
  ·split at h
   ·obtain ⟨_,h⟩:=yT h;rw [yO] at h;simp at h;rw [<- h.2];simp
   ·split at h
    ·rw [yO] at h;simp at h;rw [<- h.2];simp
    ·cases h
  ·split at h
   ·cases h
   ·unfold zIU at h;split at h
    ·split at h
     ·obtain ⟨_,h⟩:=yT h;rw [zBU,wL,wL,St.write_eq] at h;simp at h;rw [<- h.2];simp;omega
     ·cases h
    ·cases h
theorem yPZ {st xt:TypeId} {s x:Value} (h:yA Pg st xt s x Z=some (v,Z')):Z'.low<=Z.low:=by
 unfold yA at h;split at h
 ·split at h
  ·split at h
   ·split at h
    ·obtain ⟨_,h⟩:=yT h;exact yQD h
    ·cases h
   ·cases h
  ·cases h
 ·cases h
theorem own_low {b:Nat}:(Z.own b cs n).low<=Z.low:=by show min _ _<=_;omega
end
abbrev vJ (F T:Rec) (p:Option Addr) (l c:Nat):List Value:=xE F.m F.s F.t F.k F.a F.b T.m T.s T.t T.k T.a T.b p l c
structure StI (J:Nat->(Nat->Prop)->St->Prop) (L:List Rec) (Bs s:Nat) (U:St) (F T:Rec) (B:List Rec) (p:Option Addr) (d:Nat) (Y:Nat->Prop):Prop where
 j:J s Y U
 ys:Y Bs
 yp:∀ b,AtP p b->Y b
 ne:¬ AtP p Bs
 own:Own U Bs (vJ F T p B.length d) 13
 gr:Gr Pg U 0 64 6 p B.length d (B.map xT)
 fm:F∈L\/∃ m,F=uS m
 bm:∀ x∈B,x∈L
 bl:B.length<=s
section
variable {Z:St} {J:Nat->(Nat->Prop)->St->Prop} {L:List Rec} {Bs s d lo:Nat} {F T r:Rec} {B:List Rec} {p:Option Addr} {Y:Nat->Prop} {X:St->Prop}
theorem yHJ (hS:∀ i Y Y' z z',J i Y z->Only Y z z'->z'.low<=z.low->(∀ y,Y' y->Y y\/(z.y<=y/\y<z'.y))->J i Y' z') (hskip:∀ i Y z r,L[i]?=some r->r.k≠2->J i Y z->J (i+1) Y z)
  (h:StI J L Bs s Z F T B p d Y) (hr:L[s]?=some r) (hk:r.k≠2) (hB:B.length<=100000) :
  zH Pg Z 52 ⟨Bs,12,none⟩=some (.slice p B.length d)/\∃ p2 c2 Z2 Z3 Y',yA Pg 52 52 (.slice p B.length d) (.slice (some ⟨Z.y,0,none⟩) 1 1) (Z.row (xG r) 6)=some (.slice p2 (B.length+1) c2,Z2) /\
   zN Pg (evL [.pointer (some ⟨Bs,12,none⟩),.slice p2 (B.length+1) c2]) Z2 (.store 52 (.tmp 0) (.tmp 1))=some (undef,Z3)/\StI J L Bs (s+1) Z3 F T (B++[r]) p2 c2 Y':=by
 obtain ⟨p2,c2,Z2,h1,h2,h3,h4⟩:=zGW (xT r) zQS h.gr (Le.refl _) (zGY r) (by omega) (Nat.zero_le _) (e:=rfl) (hc:=rfl);have hlt:=h.own.lt;have o1:Own (Z.row (xG r) 6) Bs (vJ F T p B.length d) 13:=h.own.le (New.row _ _ _).le;have o2:=h3.own' o1 h.ne;have st:=o2.store (P:=Pg) (k:=12) (t:=52) (v:=.slice p2 (B.length+1) c2) (vs:=[.slice p2 (B.length+1) c2]) (ds:=vJ F T p2 (B.length+1) c2) rfl zWF rfl (by simp) rfl;have hne2:¬ AtP p2 Bs:=fun hb=>(h4 _ hb).elim h.ne (by omega)
 have k1:Only (fun y=>y=Bs\/AtP p y) Z Z2:=((Only.row _ _ _).trans' h3 fun b _ hb=>.inl (.inr hb));have k2:Only (fun y=>y=Bs\/AtP p y) Z (Z2.own Bs (vJ F T p2 (B.length+1) c2) 13):=k1.trans' (Only.own (S:=(·=Bs)) (.inr rfl)) fun b _ e=>.inl (.inl e)
 have hl:(B++[r]).length=B.length+1:=by simp
 refine ⟨by simpa [zS] using h.own.rw.load1 (P:=Pg) (t:=52) zIZ (k:=12) rfl,p2,c2,Z2,_,fun y=>Y y\/AtP p2 y,h1,st,⟨?_,.inl h.ys,fun b hb=>.inr hb,hne2, ?_, ?_,h.fm, ?_,by rw [hl];have:=h.bl;omega⟩⟩
 ·refine hskip _ _ _ r hr hk (hS _ Y _ Z _ h.j (k2.mono fun b _ hb=>?_) ?_ ?_)
  ·rcases hb with rfl | hb
   ·exact h.ys
   ·exact h.yp _ hb
  ·have a1:=yPZ h1;have a2:(Z2.own Bs (vJ F T p2 (B.length+1) c2) 13).low<=Z2.low:=own_low;simp only [St.row_low] at a1;omega
  ·rintro y (hy | hy)
   ·exact .inl hy
   ·exact (h4 y hy).imp (h.yp y) fun e=>⟨e,(h2.bd hy).2⟩
 ·rw [hl];exact o2.put
 ·rw [hl,List.map_append];exact h2.only (Only.own (S:=(·=Bs)) (.inr rfl)) (fun b hb e=>hne2 (e ▸ hb))
 ·intro x hx;rcases List.mem_append.1 hx with hx | hx
  ·exact h.bm x hx
  ·rw [List.mem_singleton.1 hx];exact List.mem_of_getElem? hr
theorem zRJ (hS:∀ i Y Y' z z',J i Y z->Only Y z z'->z'.low<=z.low->(∀ y,Y' y->Y y\/(z.y<=y/\y<z'.y))->J i Y' z')
  (hJ:∀ i Y z r F B p l d,L[i]?=some r->r.k=2->F.m=r.m->uO F B=wF L r.m i->(F∈L\/∃ m,F=uS m)->(∀ x∈B,x∈L)->B.length<=i->l=B.length->wB z 64 p l B->J i Y z ->
   (∃ z',zAC Pg lo [.agg ⟨vJ F r p l d⟩] z (.bool true) z'/\J (i+1) Y z'/\∀ b cs n,Y b->Own z b cs n->Own z' b cs n)\/∃ z',zAC Pg lo [.agg ⟨vJ F r p l d⟩] z (.bool false) z'/\X z')
  (h:StI J L Bs s Z F T B p d Y) {R:Nat} (ho:Own Z R (xG r) 6) (hR:Y R) (hne:R≠Bs) (hr:L[s]?=some r) (hk:r.k=2) (hF:F.m=r.m) (hc:uO F B=wF L r.m s) :
  ∃ Z3,zN Pg (evL [.pointer (some ⟨Bs,6,none⟩),xT r]) Z (.store 64 (.tmp 0) (.tmp 1))=some (undef,Z3)/\zH Pg Z3 95 ⟨Bs,0,none⟩=some (.agg ⟨vJ F r p B.length d⟩) /\
   ((∃ z' Z5 Y',zAC Pg lo [.agg ⟨vJ F r p B.length d⟩] Z3 (.bool true) z'/\zH Pg z' 64 ⟨R,0,none⟩=some (xT r)/\zN Pg (evL [.pointer (some ⟨Bs,0,none⟩),.agg ⟨vJ r (uS 0) none 0 0⟩]) z' (.store 95 (.tmp 0) (.tmp 1))=some (undef,Z5)/\StI J L Bs (s+1) Z5 r (uS 0) [] none 0 Y') \/
    ∃ z',zAC Pg lo [.agg ⟨vJ F r p B.length d⟩] Z3 (.bool false) z'/\X z'):=by
 have hlt:=h.own.lt;have st:=h.own.store (P:=Pg) (k:=6) (t:=64) (v:=xT r) (vs:=xG r) (ds:=vJ F r p B.length d) rfl yP rfl (by simp) rfl;have o3:Own (Z.own Bs (vJ F r p B.length d) 13) Bs (vJ F r p B.length d) 13:=h.own.put;have k3:Only (·=Bs) Z (Z.own Bs (vJ F r p B.length d) 13):=Only.own (.inr rfl);have r3:=k3.own' ho hne;have j3:J s Y (Z.own Bs (vJ F r p B.length d) 13):=hS _ Y _ _ _ h.j (k3.mono fun b _ e=>e ▸ h.ys) own_low (fun y hy=>.inl hy);have g3:=h.gr.only k3 (fun b hb e=>h.ne (e ▸ hb));refine ⟨_,st,by simpa [zS] using o3.rw.loadN (P:=Pg) (t:=95) xTB zMY (k:=0) rfl rfl (by simp), ?_⟩
 rcases hJ s Y _ r F B p B.length d hr hk hF hc h.fm h.bm h.bl rfl g3.slv j3 with ⟨z',c1,j4,c3⟩ | ⟨z',c1,hx⟩
 ·left;have o4:=c3 _ _ _ h.ys o3;have r4:=c3 _ _ _ hR r3;have st2:=o4.store (P:=Pg) (k:=0) (t:=95) (v:=.agg ⟨vJ r (uS 0) none 0 0⟩) (vs:=vJ r (uS 0) none 0 0) (ds:=vJ r (uS 0) none 0 0) rfl zMY rfl (by simp) rfl;refine ⟨z',_,Y,c1,by simpa [zS] using r4.rw.loadN (P:=Pg) (t:=64) uM yP (k:=0) rfl rfl (by simp),st2,⟨?_,h.ys,fun b hb=>(AtP.none hb).elim,AtP.none,o4.put,Gr.nil,.inl (List.mem_of_getElem? hr),by simp,by simp⟩⟩
  exact hS _ Y _ _ _ j4 ((Only.own (S:=(·=Bs)) (.inr rfl)).mono fun b _ e=>e ▸ h.ys) own_low (fun y hy=>.inl hy)
 ·exact .inr ⟨z',c1,hx⟩
end
end
section
variable {Z:St}
theorem xHD {lo a1:Nat} {q:Option Addr} {c:Nat} {L:List Rec} (hs:Srt L) (hlen:L.length<=100000) {J:Nat->(Nat->Prop)->St->Prop} {X:St->Prop}
  (hT:∀ i Y z,J i Y z->Own z a1 [.slice q L.length c] 1/\wB z 64 q L.length L) (h0:J 0 (fun _=>False) Z)
  (hS:∀ i Y Y' z z',J i Y z->Only Y z z'->z'.low<=z.low->(∀ y,Y' y->Y y\/(z.y<=y/\y<z'.y))->J i Y' z')
  (hskip:∀ i Y z r,L[i]?=some r->r.k≠2->J i Y z->J (i+1) Y z)
  (hJ:∀ i Y z r F B p l d,L[i]?=some r->r.k=2->F.m=r.m->uO F B=wF L r.m i->(F∈L\/∃ m,F=uS m)->(∀ x∈B,x∈L)->B.length<=i->l=B.length->wB z 64 p l B->J i Y z ->
   (∃ z',zAC Pg lo [.agg ⟨vJ F r p l d⟩] z (.bool true) z'/\J (i+1) Y z'/\∀ b cs n,Y b->Own z b cs n->Own z' b cs n)\/∃ z',zAC Pg lo [.agg ⟨vJ F r p l d⟩] z (.bool false) z'/\X z') :
  zL Pg 62 [.func (.yield lo) ⟨[]⟩ ⟨[]⟩,.pointer (some ⟨a1,0,none⟩)] Z fun v s=>v=.tuple ⟨[]⟩/\((∃ Y,J L.length Y s)\/X s):=by
 obtain ⟨Z0,hZ0⟩:∃ Z0,Z0=Z.row (vJ (uS 0) (uS 0) none 0 0) 13:=⟨_,rfl⟩;have n0:New Z Z0:=by rw [hZ0];exact New.row _ _ _
 have j0:J 0 (fun y=>y=Z.y) Z0:=hS _ _ _ _ _ h0 n0.only (by rw [hZ0];simp) (fun y e=>.inr ⟨by omega,by rw [hZ0,e];show Z.y<Z.y+1;omega⟩);have w0:Own Z0 Z.y (vJ (uS 0) (uS 0) none 0 0) 13:=by rw [hZ0];exact zI _ _ _
 have l0:=(hT _ _ _ j0).1.rw.load1 (P:=Pg) (t:=52) zIZ (k:=0) rfl;subst hZ0;have l0:zH Pg (Z.row (xE 0 0 0 0 0 0 0 0 0 0 0 0 none 0 0) 13) 52 ⟨a1,0,none⟩=some (.slice q L.length c):=l0;refine xOU (P0:=fun U=>∃ Y,J L.length Y U) (Pr:=X) l0
  (yRY (Inv:=fun k i U=>∃ (s:Nat) (F T:Rec) (B:List Rec) (p:Option Addr) (d:Nat) (Y:Nat->Prop),i=s/\s+k=L.length/\StI J L Z.y s U F T B p d Y/\(s=0\/∃ x,L[s-1]?=some x/\F.m=x.m/\uO F B=wF L x.m s)) ?_ L.length 0 _ ⟨0,uS 0,uS 0,[],none,0,_,rfl,by omega,⟨j0,rfl,fun b hb=>(AtP.none hb).elim,AtP.none,w0,Gr.nil,.inr ⟨0,rfl⟩,by simp,by simp⟩,.inl rfl⟩)
  (fun U h=>yRW ⟨rfl,.inr h⟩) (fun U h=>yRX ⟨rfl,.inl h⟩)
 rintro k i U ⟨s,F,T,B,p,d,Y,rfl,hk,hI,hrel⟩;by_cases hsl:s<L.length;rotate_left
 ·have:s=L.length:=by omega
  subst this;exact xGT ⟨Y,hI.j⟩ (by omega)
 obtain ⟨ow,hrec⟩:=hT _ _ _ hI.j;obtain ⟨a,rfl,r,hr,ld⟩:=wS hrec hsl;obtain ⟨U1,hU1⟩:∃ U1,U1=(U.row (xG ⟨0,0,0,0,0,0⟩) 6).own U.y (xG r) 6:=⟨_,rfl⟩;have N1:New U U1:=by rw [hU1];exact (New.row _ _ _).own (Nat.le_refl _)
 have o1:Own U1 U.y (xG r) 6:=by rw [hU1];exact (zI _ _ _).put
 have hlow1:U1.low<=U.low:=by rw [hU1];show min _ _<=_;simp only [St.row_low];omega
 have hBlt:=hI.own.lt;have j1:J s (fun y=>Y y\/y=U.y) U1:=hS _ _ _ _ _ hI.j N1.only hlow1 (fun y hy=>hy.imp id (fun e=>⟨by omega,by rw [e];exact o1.lt⟩));have I1:StI J L Z.y s U1 F T B p d (fun y=>Y y\/y=U.y):=⟨j1,.inl hI.ys,fun b hb=>.inl (hI.yp b hb),hI.ne,hI.own.le N1.le,hI.gr.le N1.le,hI.fm,hI.bm,hI.bl⟩;have hne:U.y≠Z.y:=by omega
 have kd:∀ z:St,Own z U.y (xG r) 6->zH Pg z 5 ⟨U.y,3,none⟩=some (.int .u8 r.k):=fun z h=>by simpa [zS] using h.rw.load1 (P:=Pg) (t:=5) zGD (k:=3) rfl
 have kr:∀ z:St,Own z U.y (xG r) 6->zH Pg z 64 ⟨U.y,0,none⟩=some (xT r):=fun z h=>by simpa [zS] using h.rw.loadN (P:=Pg) (t:=64) uM yP (k:=0) rfl rfl (by simp)
 have hnew:(∃ x,s=0\/(L[s-1]?=some x/\x.m≠r.m))->uO (uS r.m) []=wF L r.m s:=by
  rintro ⟨x,e | ⟨hx,hm⟩⟩
  ·subst e;rfl
  ·obtain ⟨s',rfl⟩:∃ s',s=s'+1:=⟨s-1,by
    rcases Nat.eq_zero_or_pos s with e | e
    ·subst e;have h2:x=r:=by simpa [hx] using hr
     exact absurd (by rw [h2]) hm
    ·omega⟩
   rw [yGF (xOV hs (by simpa using hx) hr hm)];rfl
 have st2:=I1.own.store (P:=Pg) (k:=0) (t:=95) (v:=.agg ⟨vJ (uS r.m) (uS 0) none 0 0⟩) (vs:=vJ (uS r.m) (uS 0) none 0 0) (ds:=vJ (uS r.m) (uS 0) none 0 0) rfl zMY rfl (by simp) rfl;obtain ⟨U2,hU2⟩:∃ U2,U2=U1.own Z.y (vJ (uS r.m) (uS 0) none 0 0) 13:=⟨_,rfl⟩;have k2:Only (·=Z.y) U1 U2:=by rw [hU2];exact Only.own (.inr rfl)
 have o2:Own U2 U.y (xG r) 6:=k2.own' o1 hne;have I2:StI J L Z.y s U2 (uS r.m) (uS 0) [] none 0 (fun y=>Y y\/y=U.y):=⟨hS _ _ _ _ _ j1 (k2.mono fun b _ e=>.inl (e ▸ hI.ys)) (by rw [hU2];exact own_low) (fun y hy=>.inl hy),.inl hI.ys,fun b hb=>(AtP.none hb).elim,AtP.none,by rw [hU2];exact I1.own.put,Gr.nil,.inr ⟨_,rfl⟩,by simp,by simp⟩;rw [<- hU2] at st2;have nextR:∀ (F:Rec) (B:List Rec),r.k≠2->F.m=r.m->uO F B=wF L r.m s->∃ x,L[s+1-1]?=some x/\F.m=x.m/\uO F (B++[r])=wF L x.m (s+1):=fun F B hk2 hm hc=>⟨r,hr,hm,by
  rw [yGE,zNY hr,hc];unfold bS yPA;rw [if_pos rfl,if_neg hk2]⟩
 have nextC:r.k=2->∃ x,L[s+1-1]?=some x/\r.m=x.m/\uO r []=wF L x.m (s+1):=fun hk2=>⟨r,hr,rfl,by
  rw [zNY hr];unfold yPA;rw [if_pos rfl,if_pos hk2];rfl⟩
 have hBl:=hI.bl;subst hU1;by_cases hz:s=0
 ·have hc:=hnew ⟨r,.inl hz⟩;by_cases hk2:r.k=2
  ·obtain ⟨U3,g1,g2,⟨z',U5,Y',g3,g4,g5,g6⟩ | ⟨z',g3,g4⟩⟩:=zRJ hS hJ I2 o2 (.inr rfl) hne hr hk2 rfl hc
   ·exact xHB ⟨ld,st2,(kd _ o2),(kr _ o2),g1,g2⟩ g3 g4 g5 ⟨k-1,by omega,s+1,_,_,_,_,_,_,by omega,by omega,g6,.inr (nextC hk2)⟩ (by omega) (by omega) (by omega) hk2
   ·exact xHA ⟨ld,st2,(kd _ o2),(kr _ o2),g1,g2⟩ g3 g4 (by omega) (by omega) (by omega) hk2
  ·obtain ⟨g1,p2,c2,U3,U4,Y',g2,g3,g4⟩:=yHJ hS hskip I2 hr hk2 (by simp);exact xHC ld st2 (kd _ o2) g1 (kr _ o2) g2 g3 ⟨k-1,by omega,s+1,_,_,_,_,_,_,by omega,by omega,g4,.inr (nextR _ _ hk2 rfl hc)⟩ (by omega) (by omega) (by omega) hk2
 rcases hrel with e | ⟨x,hx,hFx,hcx⟩
 ·exact absurd e hz
 have ow1:=(hT _ _ _ j1).1.rw.load1 (P:=Pg) (t:=52) zIZ (k:=0) rfl;have lm:zH Pg ((U.row (xG ⟨0,0,0,0,0,0⟩) 6).own U.y (xG r) 6) 3 (zS a ((Int.toNat ((s:Int)-1)*6)+0))=some (iV x.m):=by
  have:=uF (t':=3) (i:=s-1) (k:=0) (x:=iV x.m) (hT _ _ _ j1).2 (by rw [List.getElem?_map,hx];rfl) rfl zT;rw [show Int.toNat ((s:Int)-1)=s-1 by omega];simpa using this
 by_cases hm:x.m=r.m
 ·have hF:F.m=r.m:=hFx.trans hm;have hc:uO F B=wF L r.m s:=by rw [<- hm];exact hcx
  by_cases hk2:r.k=2
  ·obtain ⟨U3,g1,g2,⟨z',U5,Y',g3,g4,g5,g6⟩ | ⟨z',g3,g4⟩⟩:=zRJ hS hJ I1 o1 (.inr rfl) hne hr hk2 hF hc
   ·exact xGV ⟨ld,(by simpa [zS] using ow1),lm,g1,g2⟩ g3 g4 g5 ⟨k-1,by omega,s+1,_,_,_,_,_,_,by omega,by omega,g6,.inr (nextC hk2)⟩ (by omega) (by omega) (by omega) (by omega) (by omega) hm hk2
   ·exact xGU ⟨ld,(by simpa [zS] using ow1),lm,g1,g2⟩ g3 g4 (by omega) (by omega) (by omega) (by omega) (by omega) hm hk2
  ·obtain ⟨g1,p2,c2,U3,U4,Y',g2,g3,g4⟩:=yHJ hS hskip I1 hr hk2 (by omega);exact xGW ld (by simpa [zS] using ow1) lm g1 g2 g3 ⟨k-1,by omega,s+1,_,_,_,_,_,_,by omega,by omega,g4,.inr (nextR _ _ hk2 hF hc)⟩ (by omega) (by omega) (by omega) (by omega) (by omega) hm hk2
 ·have hc:=hnew ⟨x,.inr ⟨hx,hm⟩⟩;by_cases hk2:r.k=2
  ·obtain ⟨U3,g1,g2,⟨z',U5,Y',g3,g4,g5,g6⟩ | ⟨z',g3,g4⟩⟩:=zRJ hS hJ I2 o2 (.inr rfl) hne hr hk2 rfl hc
   ·exact xGY ⟨ld,(by simpa [zS] using ow1),lm,st2,(kd _ o2)⟩ (kr _ o2) g1 g2 g3 g4 g5 ⟨k-1,by omega,s+1,_,_,_,_,_,_,by omega,by omega,g6,.inr (nextC hk2)⟩ (by omega) (by omega) (by omega) (by omega) (by omega) hm hk2
   ·exact xGX ⟨ld,(by simpa [zS] using ow1),lm,st2,(kd _ o2)⟩ (kr _ o2) g1 g2 g3 g4 (by omega) (by omega) (by omega) (by omega) (by omega) hm hk2
  ·obtain ⟨g1,p2,c2,U3,U4,Y',g2,g3,g4⟩:=yHJ hS hskip I2 hr hk2 (by simp);exact xGZ ⟨ld,(by simpa [zS] using ow1),lm,st2,(kd _ o2)⟩ g1 (kr _ o2) g2 g3 ⟨k-1,by omega,s+1,_,_,_,_,_,_,by omega,by omega,g4,.inr (nextR _ _ hk2 rfl hc)⟩ (by omega) (by omega) (by omega) (by omega) (by omega) hm hk2
end
def Bd (x:Rec):Prop:=(0<=x.s/\x.s<=10000000)/\(0<=x.a/\x.a<=10000000)/\(0<=x.b/\x.b<=10000000)
theorem xMO {x:Rec} (h:yQ x=true):Bd x:=by
 have:=zBH h;unfold Bd;omega
theorem xXO {m:Int}:Bd (uS m):=by unfold Bd uS;simp
abbrev lkL (x:Lk):List Value:=yF x.m x.f x.t x.sales x.coins
abbrev lkV (x:Lk):Value:=.agg ⟨lkL x⟩
theorem xSZ:∀ (B:List Rec) (c:Cnt),(∀ x∈B,Bd x)->(B.foldl bS c).s=c.s/\(B.foldl bS c).a=c.a/\(B.foldl bS c).b=c.b/\c.sales<=(B.foldl bS c).sales/\(B.foldl bS c).sales<=c.sales+B.length/\c.coins<=(B.foldl bS c).coins/\(B.foldl bS c).coins<=c.coins+10000000*(B.length:Int)/\(B.foldl bS c).len=c.len+B.length
 | [],c,_=>by simp
 | r::B,c,h=>by
  have hr:=h r (by simp);unfold Bd at hr;obtain ⟨i1,i2,i3,i4,i5,i6,i7,i8⟩:=xSZ B (bS c r) fun x hx=>h x (by simp [hx])
  rw [List.foldl_cons];have hl:((r::B).length:Int)=(B.length:Int)+1:=by simp
  rw [hl];by_cases h0:r.k=0
  ·have e:bS c r={ c with sales:=c.sales+1,coins:=c.coins+r.b,len:=c.len+1 }:=if_pos h0;rw [e] at i1 i2 i3 i4 i5 i6 i7 i8 ⊢;simp only at i1 i2 i3 i4 i5 i6 i7 i8;exact ⟨i1,i2,i3,by omega,by omega,by omega,by omega,by omega⟩
  ·have e:bS c r={ c with len:=c.len+1 }:=if_neg h0;rw [e] at i1 i2 i3 i4 i5 i6 i7 i8 ⊢;simp only at i1 i2 i3 i4 i5 i6 i7 i8;exact ⟨i1,i2,i3,by omega,by omega,by omega,by omega,by omega⟩
theorem yZT {F:Rec} (B:List Rec) (h:∀ x∈B,Bd x):(uO F B).s=F.s/\(uO F B).a=F.a/\(uO F B).b=F.b/\0<=(uO F B).sales/\(uO F B).sales<=B.length/\0<=(uO F B).coins/\(uO F B).coins<=10000000*(B.length:Int)/\(uO F B).len=B.length:=by
 obtain ⟨i1,i2,i3,i4,i5,i6,i7,i8⟩:=xSZ B ⟨F.s,F.a,F.b,0,0,0⟩ h;simp only at i1 i2 i3 i4 i5 i6 i7 i8;unfold uO;exact ⟨i1,i2,i3,by omega,by omega,by omega,by omega,by omega⟩
section
variable {Z:St}
theorem xUK {F r:Rec} {B:List Rec} {p:Option Addr} {l d:Nat} (h:wB Z 64 p l B) (hl:l=B.length) (hlen:B.length<=100000) (hF:Bd F) (hr:Bd r) (hB:∀ x∈B,Bd x) :
  zJ Pg 30 [.agg ⟨vJ F r p l d⟩] Z (.tuple ⟨[lkV (zEA (uO F B) r),.bool (zSK (uO F B) r)]⟩) Z:=by
 subst hl;have h0:wB Z.re 64 p B.length B:=SlV.le h (le0 Z);obtain ⟨b1,b2,b3,b4,b5,b6,b7,b8⟩:=yZT (F:=F) B hB;unfold Bd at hF hr;let C:Nat->Cnt:=fun s=>uO F (B.take s)
 let I:Nat->St->Prop:=fun s U=>New Z.re U/\Own U Z.y (vJ F r p B.length d) 13/\Own U (Z.y+1) (yF 0 0 0 0 0) 5/\Own U (Z.y+2) (yF r.m F.s r.s (r.a-F.a-(C s).sales) (r.b-F.b-(C s).coins)) 5
 have I0:I 0 ((((Z.re.row (vJ F r p B.length d) 13).row (yF 0 0 0 0 0) 5).row (yF 0 0 0 0 0) 5).own (Z.y+2) (yF r.m F.s r.s (r.a-F.a) (r.b-F.b)) 5):=by
  refine ⟨((New.row _ _ _).row'.row').own (by show Z.y<=Z.y+2;omega), ?_, ?_, ?_⟩
  ·exact (((zI Z.re (vJ F r p B.length d) 13).row).row).own (by show Z.y≠Z.y+2;omega)
  ·exact ((zI (Z.re.row (vJ F r p B.length d) 13) (yF 0 0 0 0 0) 5).row).own (by show Z.y+1≠Z.y+2;omega)
  ·have:=(zI ((Z.re.row (vJ F r p B.length d) 13).row (yF 0 0 0 0 0) 5) (yF 0 0 0 0 0) 5).put (ds:=yF r.m F.s r.s (r.a-F.a) (r.b-F.b));have e:yF r.m F.s r.s (r.a-F.a-(C 0).sales) (r.b-F.b-(C 0).coins)=yF r.m F.s r.s (r.a-F.a) (r.b-F.b):=by
    show yF _ _ _ (r.a-F.a-0) (r.b-F.b-0)=_;rw [Int.sub_zero,Int.sub_zero]
   rw [e];exact this
 refine zL.pure (xQB (P0:=fun U=>I B.length U) (yUH (Inv:=fun k i U=>∃ s:Nat,i=s/\s+k=B.length/\I s U) ?_ B.length 0 _ ⟨0,rfl,by omega,I0⟩) ?_)
 ·rintro k i U ⟨s,rfl,hk,hN,o1,o2,o3⟩;by_cases hs:s<B.length;rotate_left
  ·have:s=B.length:=by omega
   subst this;exact xJS ⟨hN,o1,o2,o3⟩ (by omega)
  obtain ⟨a,rfl,x,hx,ld⟩:=wS (SlV.le h0 hN.le) hs;have hxB:=hB x (List.mem_of_getElem? hx);unfold Bd at hxB;obtain ⟨c1,c2,c3,c4,c5,c6,c7,c8⟩:=yZT (F:=F) (B.take s) (fun x hx=>hB x (List.mem_of_mem_take hx));have hls:(B.take s).length=s:=by simp;omega
  rw [hls] at c5 c7 c8;have c4:0<=(C s).sales:=c4;have c5:(C s).sales<=s:=c5;have c6:0<=(C s).coins:=c6;have c7:(C s).coins<=10000000*(s:Int):=c7;have eS:C (s+1)=bS (C s) x:=by
   show uO F (B.take (s+1))=_;rw [yM hx,yGE]
  obtain ⟨U1,hU1⟩:∃ U1,U1=(U.row (xG ⟨0,0,0,0,0,0⟩) 6).own U.y (xG x) 6:=⟨_,rfl⟩;have N1:New U U1:=by rw [hU1];exact (New.row _ _ _).own (Nat.le_refl _)
  have ox:Own U1 U.y (xG x) 6:=by rw [hU1];exact (zI _ _ _).put
  have hnx:Z.y+2<U.y:=o3.lt;have N2:=hN.trans N1;have p1:=o1.le N1.le;have p2:=o2.le N1.le;have p3:=o3.le N1.le;by_cases hk0:x.k=0
  ·have e1:(C (s+1)).sales=(C s).sales+1:=by rw [eS];unfold bS;rw [if_pos hk0]
   have e2:(C (s+1)).coins=(C s).coins+x.b:=by rw [eS];unfold bS;rw [if_pos hk0]
   have st1:=p3.store (P:=Pg) (k:=3) (t:=3) (v:=iV (r.a-F.a-(C s).sales-1)) (vs:=[iV (r.a-F.a-(C s).sales-1)]) (ds:=yF r.m F.s r.s (r.a-F.a-(C s).sales-1) (r.b-F.b-(C s).coins)) rfl zPA rfl (by simp) rfl;have w3:Own (U1.own (Z.y+2) (yF r.m F.s r.s (r.a-F.a-(C s).sales-1) (r.b-F.b-(C s).coins)) 5) (Z.y+2) (yF r.m F.s r.s (r.a-F.a-(C s).sales-1) (r.b-F.b-(C s).coins)) 5:=p3.put;have st2:=w3.store (P:=Pg) (k:=4) (t:=3) (v:=iV (r.b-F.b-(C s).coins-x.b)) (vs:=[iV (r.b-F.b-(C s).coins-x.b)]) (ds:=yF r.m F.s r.s (r.a-F.a-(C s).sales-1) (r.b-F.b-(C s).coins-x.b)) rfl zPA rfl (by simp) rfl;have q1:=p3.rw.load1 (P:=Pg) (t:=3) zT (k:=3) rfl;have q2:=w3.rw.load1 (P:=Pg) (t:=3) zT (k:=4) rfl;have q3:=(ox.own (ds:=yF r.m F.s r.s (r.a-F.a-(C s).sales-1) (r.b-F.b-(C s).coins)) (m:=5) (c:=Z.y+2) (by omega)).rw.load1 (P:=Pg) (t:=3) zT (k:=5) rfl;subst hU1;refine xJU ld (by simpa [zS] using q1) st1 (by simpa [zS] using q2) (by simpa [zS] using q3) st2 ⟨k-1,by omega,s+1,by omega,by omega, ?_, ?_, ?_, ?_⟩ (by omega) (by omega) hk0 (by omega) (by omega) (by omega)
   ·exact (N2.own (by show Z.y<=Z.y+2;omega)).own (by show Z.y<=Z.y+2;omega)
   ·exact (p1.own (by omega)).own (by omega)
   ·exact (p2.own (by omega)).own (by omega)
   ·rw [e1,e2,<- Int.sub_sub,<- Int.sub_sub];exact w3.put
  ·have e1:(C (s+1)).sales=(C s).sales:=by rw [eS];unfold bS;rw [if_neg hk0]
   have e2:(C (s+1)).coins=(C s).coins:=by rw [eS];unfold bS;rw [if_neg hk0]
   subst hU1;refine xJT ld ⟨k-1,by omega,s+1,by omega,by omega,N2,p1,p2, ?_⟩ (by omega) (by omega) hk0 (by omega);rw [e1,e2];exact p3
 ·rintro U ⟨hN,o1,o2,o3⟩;have eC:C B.length=uO F B:=by show uO F (B.take B.length)=_;rw [List.take_length]
  rw [eC] at o3;obtain ⟨k,hk⟩:∃ k,k=zEA (uO F B) r:=⟨_,rfl⟩;have e1:k.sales=r.a-F.a-(uO F B).sales:=by rw [hk];show r.a-(uO F B).a-_=_;rw [b2]
  have e2:k.coins=r.b-F.b-(uO F B).coins:=by rw [hk];show r.b-(uO F B).b-_=_;rw [b3]
  have e3:lkL k=yF r.m F.s r.s k.sales k.coins:=by rw [hk];show yF r.m (uO F B).s r.s _ _=_;rw [b1]
  rw [<- e1,<- e2,<- e3] at o3;have w1:=o1.rw.load1 (P:=Pg) (t:=3) zT (k:=7) rfl;have w2:=o1.rw.load1 (P:=Pg) (t:=3) zT (k:=1) rfl;have w3:=o1.rw.load1 (P:=Pg) (t:=52) zIZ (k:=12) rfl;have w4:=o3.rw.loadN (P:=Pg) (t:=60) yZZ zHP (k:=0) (ds:=lkL k) rfl rfl (by simp);have w5:=o3.rw.load1 (P:=Pg) (t:=3) zT (k:=3) rfl;have w6:=o3.rw.load1 (P:=Pg) (t:=3) zT (k:=4) rfl;have st:=o2.store (P:=Pg) (k:=0) (t:=60) (v:=.agg ⟨lkL k⟩) (vs:=lkL k) (ds:=lkL k) rfl zHP rfl (by simp) rfl;have w7:=(o2.put (ds:=lkL k)).rw.loadN (P:=Pg) (t:=60) yZZ zHP (k:=0) (ds:=lkL k) rfl rfl (by simp);have hok:zSK (uO F B) r=(inB k.sales 0 (r.s-F.s-1-(B.length:Int)) && inB k.coins 0 (10000*k.sales)):=by
   unfold zSK inB;rw [<- hk,b1,b8,Bool.and_assoc]
  rw [<- hk,hok];have hlt:=o3.lt;have hlt2:=o2.lt;have c1:=xM (Z:=U) (n:=k.sales) (lo:=0) (hi:=r.s-F.s-1-(B.length:Int));have c2:=xM (Z:=U) (n:=k.coins) (lo:=0) (hi:=10000*k.sales);have hfin:Z.y<=(U.own (Z.y+1) (lkL k) 5).low:=(hN.own (by show Z.y<=Z.y+1;omega)).lw;cases hs:inB k.sales 0 (r.s-F.s-1-(B.length:Int)) with
  | true =>
   rw [hs] at c1;exact yUG (by simpa [zS] using w1) (by simpa [zS] using w2) (by simpa [zS] using w3) (by simpa [zS] using w4) (by simpa [zS] using w5) c1 (by simpa [zS] using w6) c2 st (by simpa [zS] using w7) ⟨by rw [Bool.true_and],hfin⟩ (by omega) (by omega) (by omega) (by omega) hlt hlt2
  | false =>
   rw [hs] at c1;exact yUF (by simpa [zS] using w1) (by simpa [zS] using w2) (by simpa [zS] using w3) (by simpa [zS] using w4) (by simpa [zS] using w5) c1 st (by simpa [zS] using w7) ⟨by rw [Bool.false_and],hfin⟩ (by omega) (by omega) (by omega) hlt hlt2
end
section
variable {n0 n:Nat} {Y:Nat->Prop} {z z':St}
structure SameY (n0:Nat) (Y:Nat->Prop) (z z':St):Prop where
 y:z.y<=z'.y
 get:∀ y,y<z.y->¬ Y y->(∀ tm ps a b st pend db,yD z.heap y≠some (.loop tm ps a b st pend db))->yD z'.heap y=yD z.heap y
 old:∀ y,y<n0->yD z'.heap y=yD z.heap y
abbrev xXQ (n0:Nat) (z z':St):Prop:=SameY n0 (fun _=>False) z z'
theorem SameY.own {b:Nat} {cs:List Value} (h:SameY n0 Y z z') (k:Own z b cs n) (hb:¬ Y b):Own z' b cs n:=k.at_ (h.get b k.lt hb (fun _ _ _ _ _ _ _ e=>by rw [k.get] at e;cases e)) h.y
theorem SameY.of_le (h:Le z z') (hn:n0<=z.y):SameY n0 Y z z':=⟨h.y,fun y hy _ _=>h.get y hy,fun y hy=>h.get y (by omega)⟩
theorem SameY.of_only (h:Only Y z z') (hn:n0<=z.y) (hY:∀ y,Y y->n0<=y):SameY n0 Y z z':=⟨h.y,fun y hy hn _=>h.get y hy hn,fun y hy=>h.get y (by omega) (fun k=>by have:=hY y k;omega)⟩
theorem SameY.rw {n0:Nat} {Y:Nat->Prop} {z z':St} {a:Addr} {cs:List Value} (h:SameY n0 Y z z') (k:Row z a cs) (hb:¬ Y a.block):Row z' a cs:=by
 refine ⟨?_,Nat.lt_of_lt_of_le k.lt h.y⟩
 have:=k.rd;unfold yR at this ⊢;rw [h.get a.block k.lt hb (fun tm ps x y st pend db e=>by rw [e] at this;simp at this)];exact this
theorem SameY.slv {t len:Nat} {p:Option Addr} {vs:List Value} (h:SameY n0 Y z z') (k:SlV Tryz.prog z t n p len vs) (hb:∀ b,AtP p b->¬ Y b):SlV Tryz.prog z' t n p len vs:=by
 refine ⟨⟨k.1.1, ?_⟩,k.2⟩
 cases p with
 | none=>exact k.1.2
 | some a=>exact h.rw k.1.2 (hb _ ⟨a,rfl,rfl⟩)
theorem xAP {gx:Operand} {ps:Array Tmp} {a b:Code} {l:List (Nat × Value)} {Qn Q0:St->Prop} {U:St} {a1 c:Nat} {q:Option Addr} {L:List Rec} {J:Nat->(Nat->Prop)->St->Prop} {X:St->Prop} (hs:Srt L) (hlen:L.length<=100000)
  (hg:∀ g0,yC (Fm n (ov l g0)) gx=.func (.func 62) ⟨[]⟩ ⟨[.pointer (some ⟨a1,0,none⟩)]⟩) (hn0:n0<=U.y)
  (hT:∀ i Y z,J i Y z->Own z a1 [.slice q L.length c] 1/\wB z 64 q L.length L) (h0:J 0 (fun _=>False) U)
  (hS:∀ i Y Y' z z',J i Y z->SameY n0 Y z z'->(∀ y,Y' y->Y y\/(z.y<=y/\y<z'.y))->J i Y' z')
  (hskip:∀ i Y z r,L[i]?=some r->r.k≠2->J i Y z->J (i+1) Y z)
  (hR:∀ i Y z z1 r F B p d lo g0 db,L[i]?=some r->r.k=2->F.m=r.m->uO F B=wF L r.m i->(F∈L\/∃ m,F=uS m)->(∀ x∈B,x∈L)->B.length<=i->wB z1 64 p B.length B->yD z.heap lo=some (.loop (Fm n (ov l g0)) ps.toList a b .ready none db)->lo<z.y->z1=z.re.put lo (.loop (Fm n (ov l g0)) ps.toList a b .busy none db)->J i Y z1->U.y<=z1.y->(∀ y,Y y->y<z1.y) ->
   (∃ z4,zCT Tryz.prog lo [.agg ⟨vJ F r p B.length d⟩] z (Fm n (ov l g0)) ps.toList a b db [⟨Unit,.normal,fun _=>[],fun _=>[],fun _ z=>z=z4⟩,⟨Unit,.ret,fun _=>[],fun _=>[],fun _ _=>False⟩]/\J (i+1) Y z4/\∃ S,Only S z1 z4/\∀ y,S y->n0<=y/\¬ Y y/\(y<z1.y->∃ cs k log nx ro,yD z1.heap y=some (.cells cs k log nx ro))) \/
   ∃ z4,zCT Tryz.prog lo [.agg ⟨vJ F r p B.length d⟩] z (Fm n (ov l g0)) ps.toList a b db [⟨Unit,.normal,fun _=>[],fun _=>[],fun _ _=>False⟩,⟨Unit,.ret,fun _=>[],fun _=>[],fun _ z=>z=z4⟩]/\X z4/\∃ S,Only S z1 z4/\∀ y,S y->n0<=y/\(y<z1.y->∃ cs k log nx ro,yD z1.heap y=some (.cells cs k log nx ro)))
  (hX:∀ z z',X z->xXQ n0 z z'->X z') (hQ0:∀ z,X z->yD z.heap U.y=some .defd->U.y<z.y->(∀ m,m<=n0->m<=U.low->m<=z.low)->Q0 z)
  (hQ:∀ Y z,J L.length Y z->yD z.heap U.y=some .defd->U.y<z.y->(∀ m,m<=n0->m<=U.low->m<=z.low)->Qn z):yBP Tryz.prog (zW Tryz.prog) gx ps a b n l [(.normal,Qn),(.ret,Q0)] U:=by
 refine yEC (fs:=[.pointer (some ⟨a1,0,none⟩)]) (f:=62) hg (fun g0=>?_);obtain ⟨Ua,hUa⟩:∃ Ua,Ua=(U.add .defd).add (.loop (Fm n (ov l g0)) ps.toList a b .ready none U.y):=⟨_,rfl⟩;have hN:New U Ua:=by rw [hUa];exact (New.add _ _).trans (New.add _ _)
 have nxa:Ua.y=U.y+2:=by rw [hUa];rfl
 have Ld:yD Ua.heap U.y=some .defd:=by rw [hUa,St.add_get,if_neg (by simp),St.add_get,if_pos rfl]
 have Ll:yD Ua.heap (U.y+1)=some (.loop (Fm n (ov l g0)) ps.toList a b .ready none U.y):=by rw [hUa,St.add_get,if_pos (by simp)]
 have sm_re:∀ (z:St) (Y:Nat->Prop),SameY n0 Y z z.re:=fun z Y=>⟨Nat.le_refl _,fun _ _ _ _=>rfl,fun _ _=>rfl⟩
 let K:Nat->(Nat->Prop)->St->Prop:=fun i Y z=>J i Y z/\yD z.heap U.y=some .defd/\yD z.heap (U.y+1)=some (.loop (Fm n (ov l g0)) ps.toList a b .ready none U.y)/\Ua.y<=z.y/\n0<=z.low/\(∀ y,Y y->Ua.y<=y/\y<z.y)/\(J i (fun _=>False) Ua.re\/z.low<=U.y+1)
 let KX:St->Prop:=fun z=>X z/\yD z.heap U.y=some .defd/\yD z.heap (U.y+1)=some (.loop (Fm n (ov l g0)) ps.toList a b .done (some .ret) U.y)/\Ua.y<=z.y/\n0<=z.low/\z.low<=U.y+1
 have no:∀ (z':St) (P:Nat->Prop),∀ y,(fun _:Nat=>False) y->P y:=fun _ _ y h=>h.elim
 have J0:J 0 (fun _=>False) Ua.re:=hS _ _ _ _ _ (hS _ (fun _=>False) (fun _=>False) _ _ h0 (SameY.of_le hN.le hn0) (fun y hy=>hy.elim)) (sm_re Ua _) (fun y hy=>hy.elim);have hrun:zL Tryz.prog 62 [.func (.yield (U.y+1)) ⟨[]⟩ ⟨[]⟩,.pointer (some ⟨a1,0,none⟩)] Ua.re fun v s=>v=.tuple ⟨[]⟩/\((∃ Y,K L.length Y s)\/KX s):=by
  refine xHD (c:=c) (q:=q) hs hlen (J:=K) (X:=KX) (fun i Y z h=>hT i Y z h.1) ⟨J0,Ld,Ll,Nat.le_refl _,by show n0<=Ua.y;omega,fun y hy=>hy.elim,.inl J0⟩ ?_ ?_ ?_
  ·rintro i Y Y' z z' ⟨j1,j2,j3,j4,j5,j6,j7⟩ hz hlw hy;have hYt:∀ y,Y y->Ua.y<=y:=fun y h=>(j6 y h).1
   refine ⟨hS _ _ _ _ _ j1 (SameY.of_only hz (by omega) (fun y h=>by have:=hYt y h;omega)) hy, ?_, ?_, ?_, ?_,fun y h=>?_,j7.imp id fun h=>by omega⟩
   ·rw [hz.get _ (by omega) (fun h=>by have:=hYt _ h;omega)];exact j2
   ·rw [hz.get _ (by omega) (fun h=>by have:=hYt _ h;omega)];exact j3
   ·have:=hz.y;omega
   ·exact hz.low _ j5 (by omega) (fun y _ h=>by have:=hYt y h;omega)
   ·have hzn:=hz.y;rcases hy y h with e | e
    ·have:=j6 y e;exact ⟨this.1,by omega⟩
    ·exact ⟨by omega,e.2⟩
  ·rintro i Y z r hr hk ⟨j1,j2,j3,j4,j5,j6,j7⟩;exact ⟨hskip _ _ _ _ hr hk j1,j2,j3,j4,j5,j6,j7.imp (fun h=>hskip _ _ _ _ hr hk h) id⟩
  ·rintro i Y z r F B p l' d hr hk hF hc hFm hB hBl rfl hRec ⟨j1,j2,j3,j4,j5,j6,j7⟩;obtain ⟨z1,hz1⟩:∃ z1,z1=z.re.put (U.y+1) (.loop (Fm n (ov l g0)) ps.toList a b .busy none U.y):=⟨_,rfl⟩;have s1:∀ Y:Nat->Prop,SameY n0 Y z z1:=fun Y=>⟨by rw [hz1];exact Nat.le_refl _,fun y hy _ hne=>by
    rw [hz1,St.put_get,if_neg (fun e=>by subst e;exact hne _ _ _ _ _ _ _ j3)];rfl,fun y hy=>by rw [hz1,St.put_get,if_neg (by omega)];rfl⟩
   have nx1:z1.y=z.y:=by rw [hz1];rfl
   have L1:yD z1.heap (U.y+1)=some (.loop (Fm n (ov l g0)) ps.toList a b .busy none U.y):=by rw [hz1,St.put_get,if_pos rfl]
   have D1:yD z1.heap U.y=some .defd:=by rw [hz1,St.put_get,if_neg (by omega)];exact j2
   have hRec1:wB z1 64 p B.length B:=(s1 fun _=>False).slv hRec (fun _ _ h=>h);rcases hR i Y z z1 r F B p d (U.y+1) g0 U.y hr hk hF hc hFm hB hBl hRec1 j3 (by omega) hz1 (hS _ _ _ _ _ j1 (s1 Y) (fun y hy=>.inl hy)) (by omega) (fun y hy=>by have:=(j6 y hy).2;omega) with ⟨z4,hr,k1,S,k2,k3⟩ | ⟨z4,hr,k1,S,k2,k3⟩
   ·left;have L4:yD z4.heap (U.y+1)=some (.loop (Fm n (ov l g0)) ps.toList a b .busy none U.y):=by
     rw [k2.get _ (by omega) (fun h=>by obtain ⟨cs,k,log,nx,ro,e⟩:=(k3 _ h).2.2 (by omega);rw [L1] at e;cases e)];exact L1
    have D4:yD z4.heap U.y=some .defd:=by
     rw [k2.get _ (by omega) (fun h=>by obtain ⟨cs,k,log,nx,ro,e⟩:=(k3 _ h).2.2 (by omega);rw [D1] at e;cases e)];exact D1
    have n4:=k2.y;obtain ⟨e,z',⟨al,hal,rfl,tt,hq⟩,hc⟩:=hr;simp only [In,or_false] at hal;obtain rfl | rfl:=hal;rotate_left
    ·exact hq.elim
    have hq:z'=z4:=hq;subst hq;have hcy:=hc (.inl rfl) (by omega) L4 (by omega);have hlow:n0<=z'.low:=k2.low n0 (by rw [hz1];simp only [St.put_low,yXZ];omega) (by omega) (fun y _ hy=>(k3 y hy).1);refine ⟨_,hcy,⟨hS _ _ _ _ _ k1 ⟨Nat.le_refl _,fun y hy _ hne=>?_,fun y hy=>?_⟩ (fun y hy=>.inl hy), ?_, ?_, ?_, ?_,fun y hy=>⟨(j6 y hy).1, ?_⟩,.inr ?_⟩,fun b' cs n' hYb ho=>?_⟩
    ·show yD (z'.put _ _).heap y=_;rw [St.put_get,if_neg (fun e=>by subst e;exact hne _ _ _ _ _ _ _ L4)]
    ·show yD (z'.put _ _).heap y=_;rw [St.put_get,if_neg (by omega)]
    ·show yD (z'.put _ _).heap _=_;rw [St.put_get,if_neg (by omega)];exact D4
    ·show yD (z'.put _ _).heap _=_;rw [St.put_get,if_pos rfl];rfl
    ·show Ua.y<=z'.y;omega
    ·show n0<=min _ _;omega
    ·show y<z'.y;have:=(j6 y hy).2;omega
    ·show min _ _<=_;omega
    ·have h1:Own z1 b' cs n':=(s1 fun _=>False).own ho (fun h=>h);have h2:Own z' b' cs n':=k2.own' h1 (fun hs=>(k3 _ hs).2.1 hYb);have hne:b'≠U.y+1:=fun e=>by have:=(j6 b' hYb).1;omega
     refine ⟨?_,h2.lt⟩
     show yD (z'.put _ _).heap b'=_;rw [St.put_get,if_neg hne];exact h2.get
   ·right;have L4:yD z4.heap (U.y+1)=some (.loop (Fm n (ov l g0)) ps.toList a b .busy none U.y):=by
     rw [k2.get _ (by omega) (fun h=>by obtain ⟨cs,k,log,nx,ro,e⟩:=(k3 _ h).2 (by omega);rw [L1] at e;cases e)];exact L1
    have D4:yD z4.heap U.y=some .defd:=by
     rw [k2.get _ (by omega) (fun h=>by obtain ⟨cs,k,log,nx,ro,e⟩:=(k3 _ h).2 (by omega);rw [D1] at e;cases e)];exact D1
    have n4:=k2.y;obtain ⟨e,z',⟨al,hal,rfl,tt,hq⟩,hc⟩:=hr;simp only [In,or_false] at hal;obtain rfl | rfl:=hal
    ·exact hq.elim
    have hq:z'=z4:=hq;subst hq;have hcy:=hc (.inr (.inl rfl)) (by omega) L4 (by omega);have hlow:n0<=z'.low:=k2.low n0 (by rw [hz1];simp only [St.put_low,yXZ];omega) (by omega) (fun y _ hy=>(k3 y hy).1);refine ⟨_,hcy,hX _ _ k1 ⟨Nat.le_refl _,fun y hy _ hne=>?_,fun y hy=>?_⟩, ?_, ?_, ?_, ?_, ?_⟩
    ·show yD (z'.put _ _).heap y=_;rw [St.put_get,if_neg (fun e=>by subst e;exact hne _ _ _ _ _ _ _ L4)]
    ·show yD (z'.put _ _).heap y=_;rw [St.put_get,if_neg (by omega)]
    ·show yD (z'.put _ _).heap _=_;rw [St.put_get,if_neg (by omega)];exact D4
    ·show yD (z'.put _ _).heap _=_;rw [St.put_get,if_pos rfl];rfl
    ·show Ua.y<=z'.y;omega
    ·show n0<=min _ _;omega
    ·show min _ _<=_;omega
 obtain ⟨v,s,h1,rfl,⟨Y,j1,j2,j3,j4,j5,j6,j7⟩ | hF⟩:=hrun;rotate_left
 ·obtain ⟨j1,j2,j3,j4,j5,j6⟩:=hF;refine ⟨_,⟨s.heap,s.y,min Ua.low s.low⟩,.done,some .ret,by rw [<- hUa];exact yLW h1 j4 (by omega),j3,.inr ⟨rfl,.inl rfl⟩,.inr (.inl ⟨rfl,hQ0 _ (hX _ _ j1 ⟨Nat.le_refl _,fun y hy _ hne=>?_,fun y hy=>?_⟩) ?_ (by show U.y<s.y;omega) (fun m h1 h2=>?_)⟩)⟩
  ·show yD (St.put _ _ _).heap y=_;rw [St.put_get,if_neg (fun e=>by subst e;exact hne _ _ _ _ _ _ _ j3)]
  ·show yD (St.put _ _ _).heap y=_;rw [St.put_get,if_neg (by omega)]
  ·rw [St.put_get,if_neg (by omega)];exact j2
  ·have:=hN.low m h2 (by omega);show m<=min (min _ _) _;omega
 have fin:∀ (Y:Nat->Prop) (w z:St),J L.length Y w->yD w.heap U.y=some .defd->yD w.heap (U.y+1)=some (.loop (Fm n (ov l g0)) ps.toList a b .ready none U.y)->Ua.y<=w.y->z.heap=w.heap->z.y=w.y->(∀ m,m<=n0->m<=U.low->m<=z.low)->yRE [(.normal,Qn),(.ret,Q0)] (xLR none) (z.put (U.y+1) (.loop (Fm n (ov l g0)) ps.toList a b .exhausted none U.y)):=by
  intro Y w z i1 i2 i3 i4 e1 e2 e3;refine .inl ⟨rfl,hQ Y _ (hS _ _ _ _ _ i1 ⟨by show w.y<=z.y;omega,fun y hy _ hne=>?_,fun y hy=>?_⟩ (fun y hy=>.inl hy)) ?_ (by show U.y<z.y;omega) (fun m h1 h2=>?_)⟩
  ·rw [St.put_get,if_neg (fun e=>by subst e;exact hne _ _ _ _ _ _ _ i3),e1]
  ·rw [St.put_get,if_neg (by omega),e1]
  ·rw [St.put_get,if_neg (by omega),e1];exact i2
  ·have:=e3 m h1 h2;show m<=min _ _;omega
 by_cases hlw:s.low<=U.y+1
 ·refine ⟨_,⟨s.heap,s.y,min Ua.low s.low⟩,.ready,none,by rw [<- hUa];exact yLW h1 j4 (by omega),j3,.inl ⟨rfl,rfl⟩,fin Y s _ j1 j2 j3 j4 rfl rfl (fun m h1 h2=>?_)⟩
  have:=hN.low m h2 (by omega);show m<=min _ _;omega
 ·have j7:=j7.resolve_right hlw;refine ⟨_,Ua,.ready,none,by rw [hUa];exact hUa ▸ zNE h1 (by show Ua.y<=s.low;omega) rfl,Ll,.inl ⟨rfl,rfl⟩,fin _ Ua.re Ua j7 Ld Ll (Nat.le_refl _) rfl rfl (fun m h1 h2=>hN.low m h2 (by omega))⟩
end
section
noncomputable section
variable (BA BB BD:Nat) (f4:FuncId) (bN:lVa) (g:Nat->Value) (ms:List Nat) (st:LoopState) (Z:St) (pend:Option Code) (Q:vPa) (Qn Qr:St->Prop) (db:Nat)
def zDM:Code:=(Code.part [1,1,1,1,0,1,0,0] (dj 14))
def zDL:Code:=(Code.part [1,1,1,1,0,1,0,1] (dj 14))
def zDK:lNa:=[(2,pq BA 0),(3,pq BB 0),(5,pq BD 0),(19,.func (.func f4) ⟨[]⟩ ⟨bN⟩)]
def zAB:Blk:=.loop (Fm 36 (ov (zDK BA BB BD f4 bN) g)) [20] zDM zDL st pend db
def yRK:Prop:=yBP Pg dl (.tmp 19) ⟨[20]⟩ zDM zDL 36 (zDK BA BB BD f4 bN) [(.normal,Qn),(.ret,Qr)] Z
def yBR:Prop:=∀ g:Nat->Value,∃ an,Hid (kAt Pg dl none (dj 14) [1,1,1,1,0,1,0] (dm 14 Q) .normal ⟨Fm 36 (ov (zDK BA BB BD f4 bN) g),ms⟩ Z an)
def yWR:Prop:=∀ g:Nat->Value,∃ an,Hid (kAt Pg dl none (dj 14) [1,1,1,1,0,1,0] (dm 14 Q) .ret ⟨Fm 36 (ov (zDK BA BB BD f4 bN) g),ms⟩ Z an)
end
variable {BA BB BD ad ag lo lOB cLB lPB cMB db l_l l_c l1 c1 lG cG lK cH:Nat} {f4:FuncId} {bN:lVa} {ah ax ar az aI aH am aG ay aF aQ aP nI nJ nK nH nL n2 nS:Int} {ak qLB qMB l q1 qG qI:oA} {ZBB ZZB U Z ZAC Z3 Z5 ZJ ZM bw:St} {g:Nat->Value} {Qn Qr Pn Pr:St->Prop} {Q:vPa} {ms:List Nat}
theorem xFN:let s1:=Z.row (yF 0 0 0 0 0) 5;let s2:=s1.own Z.y (yF nI nJ nK nH nL) 5;∀ (hl:yD U.heap lo=some (zAB BA BB BD f4 bN g .ready none db)) (hl1:yD ((U.re.row (xE 0 0 0 0 0 0 0 0 0 0 0 0 none 0 0) 13).own (U.re.y) (xE ah ax ar az aI aH am aG ay aF aQ aP ak ad ag) 13).heap lo=some (zAB BA BB BD f4 bN g .ready none db)) (hZ:Z=((U.re.row (xE 0 0 0 0 0 0 0 0 0 0 0 0 none 0 0) 13).own (U.re.y) (xE ah ax ar az aI aH am aG ay aF aQ aP ak ad ag) 13).put lo (zAB BA BB BD f4 bN g .busy none db)) (h1:dg Z 95 (dc U.re.y 0) (de (xE ah ax ar az aI aH am aG ay aF aQ aP ak ad ag))) (h2:dh 30 [de (xE ah ax ar az aI aH am aG ay aF aQ aP ak ad ag)] Z (.tuple ⟨[de (yF nI nJ nK nH nL),.bool true]⟩) Z) (h3:dg s2 56 (dc BD 0) (.slice qLB lOB cLB)) (h4:yA Pg 56 56 (.slice qLB lOB cLB) (.slice (some ⟨(Z.y+1),0,none⟩) 1 1) (s2.row (yF nI nJ nK nH nL) 5)=some (.slice qMB lPB cMB,ZBB)) (h5:di (evL [pq BD 0,.slice qMB lPB cMB]) ZBB (.store 56 (.tmp 0) (.tmp 1))=some (undef,ZZB)) (nx:Qn ZZB) (u1:0<nH:=by omega),zCT Pg lo [de (xE ah ax ar az aI aH am aG ay aF aQ aP ak ad ag)] U (Fm 36 (ov (zDK BA BB BD f4 bN) g)) [20] zDM zDL db [⟨Unit,.normal,fun _=>[],fun _=>[],fun _ Z=>Qn Z⟩,⟨Unit,.ret,fun _=>[],fun _=>[],fun _ Z=>Qr Z⟩]:=
 let s1:=Z.row (yF 0 0 0 0 0) 5;let s2:=s1.own Z.y (yF nI nJ nK nH nL) 5;fun hl hl1 hZ h1 h2 h3 h4 h5 nx u1=>zRN hl rfl hl1 hZ [.g,.e undef ((U.re.row (xE 0 0 0 0 0 0 0 0 0 0 0 0 none 0 0) 13).own (U.re.y) (xE ah ax ar az aI aH am aG ay aF aQ aP ak ad ag) 13),.l (de (xE ah ax ar az aI aH am aG ay aF aQ aP ak ad ag)),.c (.tuple ⟨[de (yF nI nJ nK nH nL),.bool true]⟩) Z,.g,.g,.g,.g,.e undef s2,.g,.g,.g,.g,.l (iV nH),.b true,.l (.slice qLB lOB cLB),.l (de (yF nI nJ nK nH nL)),.g,.e (.slice qMB lPB cMB) ZBB,.e undef ZZB,.fin ⟨Unit,.normal,fun _=>[],fun _=>[],fun _ Z=>Qn Z⟩ ()] (kc (by kernel_rfl) (ai ((zI _ _ _).store (vs:=(xE ah ax ar az aI aH am aG ay aF aQ aP ak ad ag)) rfl zMY rfl (nle rfl) rfl:di (evL [pq U.re.y 0,de (xE ah ax ar az aI aH am aG ay aF aQ aP ak ad ag)]) (U.re.row (xE 0 0 0 0 0 0 0 0 0 0 0 0 none 0 0) 13) (.store 95 (.tmp 0) (.tmp 1))=some (undef,((U.re.row (xE 0 0 0 0 0 0 0 0 0 0 0 0 none 0 0) 13).own (U.re.y) (xE ah ax ar az aI aH am aG ay aF aQ aP ak ad ag) 13))) (ai (ai (rfl:Exit.normal=Exit.normal) (rfl:((U.re.row (xE 0 0 0 0 0 0 0 0 0 0 0 0 none 0 0) 13).own (U.re.y) (xE ah ax ar az aI aH am aG ay aF aQ aP ak ad ag) 13)=((U.re.row (xE 0 0 0 0 0 0 0 0 0 0 0 0 none 0 0) 13).own (U.re.y) (xE ah ax ar az aI aH am aG ay aF aQ aP ak ad ag) 13))) (ai h1 (ai h2 (ai ((zI _ _ _).store (vs:=(yF nI nJ nK nH nL)) rfl zHP rfl (nle rfl) rfl:di (evL [pq Z.y 0,de (yF nI nJ nK nH nL)]) s1 (.store 60 (.tmp 0) (.tmp 1))=some (undef,s2)) (ai ((zI _ _ _).put.rw.ld zT (k:=3) rfl:dg s2 3 (dc Z.y 3) (iV nH)) (ai (zU u1) (ai h3 (ai ((zI _ _ _).put.rw.ldN yZZ zHP (k:=0) rfl rfl (nle rfl):dg s2 60 (dc Z.y 0) (de (yF nI nJ nK nH nL))) (ai h4 (ai h5 (xCZ (alts:=[⟨Unit,.normal,fun _=>[],fun _=>[],fun _ Z=>Qn Z⟩,⟨Unit,.ret,fun _=>[],fun _=>[],fun _ Z=>Qr Z⟩]) ⟨Unit,.normal,fun _=>[],fun _=>[],fun _ Z=>Qn Z⟩ () nx in0)))))))))))))
theorem xFM:let y1:=xE ah ax ar az aI aH am aG ay aF aQ aP ak ad ag;let y0:=(U.re.row (xE 0 0 0 0 0 0 0 0 0 0 0 0 none 0 0) 13).own (U.re.y) y1 13;let y2:=yF nI nJ nK nH nL;let y3:=zAB BA BB BD f4 bN g .ready none db;∀ (hl:yD U.heap lo=some y3) (hl1:yD y0.heap lo=some y3) (hZ:Z=y0.put lo (zAB BA BB BD f4 bN g .busy none db)) (h1:dg Z 95 (dc U.re.y 0) (de y1)) (h2:dh 30 [de y1] Z (.tuple ⟨[de y2,.bool true]⟩) Z) (nx:Qn ((Z.row (yF 0 0 0 0 0) 5).own Z.y y2 5)) (u1:¬ 0<nH:=by omega),zCT Pg lo [de y1] U (Fm 36 (ov (zDK BA BB BD f4 bN) g)) [20] zDM zDL db [⟨Unit,.normal,fun _=>[],fun _=>[],fun _ Z=>Qn Z⟩,⟨Unit,.ret,fun _=>[],fun _=>[],fun _ Z=>Qr Z⟩] :=
 let s1:=Z.row (yF 0 0 0 0 0) 5;let s2:=s1.own Z.y (yF nI nJ nK nH nL) 5;let y1:=xE ah ax ar az aI aH am aG ay aF aQ aP ak ad ag;let y0:=(U.re.row (xE 0 0 0 0 0 0 0 0 0 0 0 0 none 0 0) 13).own (U.re.y) y1 13;let y2:=yF nI nJ nK nH nL;fun hl hl1 hZ h1 h2 nx u1=>zRN hl rfl hl1 hZ [.g,.e undef y0,.l (de y1),.c (.tuple ⟨[de y2,.bool true]⟩) Z,.g,.g,.g,.g,.e undef s2,.g,.g,.g,.g,.l (iV nH),.b false,.fin ⟨Unit,.normal,fun _=>[],fun _=>[],fun _ Z=>Qn Z⟩ ()] (kc (by kernel_rfl) (ai ((zI _ _ _).store (vs:=y1) rfl zMY rfl (nle rfl) rfl:di (evL [pq U.re.y 0,de y1]) (U.re.row (xE 0 0 0 0 0 0 0 0 0 0 0 0 none 0 0) 13) (.store 95 (.tmp 0) (.tmp 1))=some (undef,y0)) (ai (ai (rfl:Exit.normal=Exit.normal) (rfl:y0=y0)) (ai h1 (ai h2 (ai ((zI _ _ _).store (vs:=y2) rfl zHP rfl (nle rfl) rfl:di (evL [pq Z.y 0,de y2]) s1 (.store 60 (.tmp 0) (.tmp 1))=some (undef,s2)) (ai ((zI _ _ _).put.rw.ld zT (k:=3) rfl:dg s2 3 (dc Z.y 3) (iV nH)) (ai (zY u1) (xCZ (alts:=[⟨Unit,.normal,fun _=>[],fun _=>[],fun _ Z=>Qn Z⟩,⟨Unit,.ret,fun _=>[],fun _=>[],fun _ Z=>Qr Z⟩]) ⟨Unit,.normal,fun _=>[],fun _=>[],fun _ Z=>Qn Z⟩ () nx in0)))))))))
theorem xFL:let y1:=xE ah ax ar az aI aH am aG ay aF aQ aP ak ad ag;let y0:=(U.re.row (xE 0 0 0 0 0 0 0 0 0 0 0 0 none 0 0) 13).own (U.re.y) y1 13;let y2:=yF nI nJ nK nH nL;let y3:=zAB BA BB BD f4 bN g .ready none db;∀ (hl:yD U.heap lo=some y3) (hl1:yD y0.heap lo=some y3) (hZ:Z=y0.put lo (zAB BA BB BD f4 bN g .busy none db)) (h1:dg Z 95 (dc U.re.y 0) (de y1)) (h2:dh 30 [de y1] Z (.tuple ⟨[de y2,.bool false]⟩) Z) (h3:di (evL [pq BA 0,.slice none 0 0]) ((Z.row (yF 0 0 0 0 0) 5).own Z.y y2 5) (.store 56 (.tmp 0) (.tmp 1))=some (undef,ZAC)) (h4:di (evL [pq BB 0,iV 9]) ZAC (.store 42 (.tmp 0) (.tmp 1))=some (undef,ZBB)) (nx:Qr ZBB),zCT Pg lo [de y1] U (Fm 36 (ov (zDK BA BB BD f4 bN) g)) [20] zDM zDL db [⟨Unit,.normal,fun _=>[],fun _=>[],fun _ Z=>Qn Z⟩,⟨Unit,.ret,fun _=>[],fun _=>[],fun _ Z=>Qr Z⟩] :=
 let s1:=Z.row (yF 0 0 0 0 0) 5;let s2:=s1.own Z.y (yF nI nJ nK nH nL) 5;let y1:=xE ah ax ar az aI aH am aG ay aF aQ aP ak ad ag;let y0:=(U.re.row (xE 0 0 0 0 0 0 0 0 0 0 0 0 none 0 0) 13).own (U.re.y) y1 13;let y2:=yF nI nJ nK nH nL;fun hl hl1 hZ h1 h2 h3 h4 nx=>zRN hl rfl hl1 hZ [.g,.e undef y0,.l (de y1),.c (.tuple ⟨[de y2,.bool false]⟩) Z,.g,.g,.g,.g,.e undef s2,.g,.g,.g,.e undef ZAC,.e undef ZBB,.fin ⟨Unit,.ret,fun _=>[],fun _=>[],fun _ Z=>Qr Z⟩ ()] (kc (by kernel_rfl) (ai ((zI _ _ _).store (vs:=y1) rfl zMY rfl (nle rfl) rfl:di (evL [pq U.re.y 0,de y1]) (U.re.row (xE 0 0 0 0 0 0 0 0 0 0 0 0 none 0 0) 13) (.store 95 (.tmp 0) (.tmp 1))=some (undef,y0)) (ai (ai (rfl:Exit.normal=Exit.normal) (rfl:y0=y0)) (ai h1 (ai h2 (ai ((zI _ _ _).store (vs:=y2) rfl zHP rfl (nle rfl) rfl:di (evL [pq Z.y 0,de y2]) s1 (.store 60 (.tmp 0) (.tmp 1))=some (undef,s2)) (ai h3 (ai h4 (xCZ (alts:=[⟨Unit,.normal,fun _=>[],fun _=>[],fun _ Z=>Qn Z⟩,⟨Unit,.ret,fun _=>[],fun _=>[],fun _ Z=>Qr Z⟩]) ⟨Unit,.ret,fun _=>[],fun _=>[],fun _ Z=>Qr Z⟩ () nx (inS in0))))))))))
theorem xOC (h1:dh 28 [.slice (some ⟨(Z.y+2),0,none⟩) 1 1] (((Z.row [.slice none 0 0] 1).row [iV 0] 1).row [.slice l l_l l_c] 1) (.tuple ⟨[.slice q1 l1 c1,iV n2]⟩) Z3) (h2:dh 29 [.slice q1 l1 c1] (Z3.row [.slice none 0 0] 1) (.func (.func f4) ⟨[]⟩ ⟨bN⟩) Z5) (hL:yRK Z.y (Z.y+1) Z3.y f4 bN Z5 Pn Pr) (kn:∀ Z',Pn Z'->yBR Z.y (Z.y+1) Z3.y f4 bN [Z5.y] Z' Q) (kr:∀ Z',Pr Z'->yWR Z.y (Z.y+1) Z3.y f4 bN [Z5.y] Z' Q) (u1:n2=0:=by omega):dq 14 [.slice l l_l l_c] Z Q :=
 let s1:=zDK Z.y (Z.y+1) Z3.y f4 bN;zK [.g,.g,.g,.g,.c (.tuple ⟨[.slice q1 l1 c1,iV n2]⟩) Z3,.g,.g,.g,.g,.g,.g,.b false,.g,.g,.c (.func (.func f4) ⟨[]⟩ ⟨bN⟩) Z5,.rf 36 s1 [(.normal,Pn),(.ret,Pr)]] (kd (an3 h1 (xN u1) h2 (ai (ai tt (ai (arf s1) hL)) (ai (kz kn) (ai (kz kr) trivial)))))
theorem yRI (h1:dg Z 56 (dc BD 0) (.slice qG lG cG)) (h2:di (evL [pq BA 0,.slice qG lG cG]) Z (.store 56 (.tmp 0) (.tmp 1))=some (undef,ZJ)) (h3:di (evL [pq BB 0,iV 0]) ZJ (.store 42 (.tmp 0) (.tmp 1))=some (undef,ZM)) (h4:yGS ms ZM bw) (h5:dg bw 56 (dc BA 0) (.slice qI lK cH)) (h6:dg bw 42 (dc BB 0) (iV nS)) (nx:Q (.tuple ⟨[.slice qI lK cH,iV nS]⟩) bw):yBR BA BB BD f4 bN ms Z Q :=
 sK [.l (.slice qG lG cG),.e undef ZJ,.e undef ZM,.l (.slice qI lK cH),.l (iV nS)] (an3 h1 h2 h3 (zHL (K:=(fun bw=>dg bw 56 (dc BA 0) (.slice qI lK cH)/\dg bw 42 (dc BB 0) (iV nS)/\Q (.tuple ⟨[.slice qI lK cH,iV nS]⟩) bw)) h4 (ai h5 (ai h6 nx))))
end
section
variable {m t n len c a1 B1 B2 B3 d:Nat} {Y:Nat->Prop} {z z' Z5:St} {p q:Option Addr} {vs:List Value} {L:List Rec}
theorem xEO:AppT Pg 56 56 60 5:=zBF (by kernel_rfl)
theorem xQX (x:Lk):zGZ Pg 60 5 (lkV x):=.inr ⟨yZZ,zHP,_,rfl,rfl⟩
theorem SameY.gr {n0:Nat} (h:SameY n0 Y z z') (k:Gr Pg z m t n p len c vs) (hb:∀ b,AtP p b->¬ Y b):Gr Pg z' m t n p len c vs:=by
 refine ⟨?_,k.len_eq,k.el⟩
 have hA:=k.app;generalize hcs:wI vs=cs at hA;cases hA with
 | nil=>exact .nil
 | more g1 g2 g3 g4 g5 g6 g7=>exact .more (by rw [h.get _ g4 (hb _ ⟨_,rfl,rfl⟩) (fun _ _ _ _ _ _ _ e=>by rw [e] at g1;cases g1)];exact g1) g2 g3 (Nat.lt_of_lt_of_le g4 h.y) g5 g6 g7
theorem yMW {b:Nat} (k:Gr Pg z m t n p len c vs) (hb:AtP p b):∃ cs k log nx ro,yD z.heap b=some (.cells cs k log nx ro):=by
 have hA:=k.app;obtain ⟨a,rfl,rfl⟩:=hb;generalize hcs:wI vs=cs at hA;cases hA with
 | more g1 g2 g3 g4 g5 g6 g7=>exact ⟨_,_,_,_,_,g1⟩
section
variable {Z:St}
structure LkJ (Z Z5:St) (a1 B1 B2 B3:Nat) (q:Option Addr) (d:Nat) (L:List Rec) (i:Nat) (Y:Nat->Prop) (z:St) (o:List Lk) (po:Option Addr) (co:Nat):Prop where
 nx:Z5.y<=z.y
 ys:∀ y,Y y->Z5.y<=y
 le:Le Z z
 oa:Own z a1 [.slice q L.length d] 1
 rc:wB z 64 q L.length L
 o1:Own z B1 [.slice none 0 0] 1
 o2:Own z B2 [iV 0] 1
 lk:vH L i=some o
 o3:Own z B3 [.slice po o.length co] 1
 gr:Gr Pg z Z5.y 60 5 po o.length co (o.map lkV)
 ny:∀ b,AtP po b->¬ Y b
theorem LkJ.same {i co:Nat} {po:Option Addr} {Y':Nat->Prop} {o:List Lk} (h:LkJ Z Z5 a1 B1 B2 B3 q d L i Y z o po co) (hs:SameY Z.y Y z z') (hY:∀ y,Y' y->Y y\/(z.y<=y/\y<z'.y)) (ha:a1<Z5.y) (h1:B1<Z5.y) (h2:B2<Z5.y) (h3:B3<Z5.y) (hq:∀ b,AtP q b->b<Z5.y):LkJ Z Z5 a1 B1 B2 B3 q d L i Y' z' o po co:=by
 have hn:∀ b,b<Z5.y->¬ Y b:=fun b hb hy=>by have:=h.ys b hy;omega
 have h5:=h.nx;have hz:=hs.y;refine ⟨by omega,fun y hy=>?_,⟨by have:=h.le.y;omega,fun b hb=>(hs.old b hb).trans (h.le.get b hb)⟩,hs.own h.oa (hn _ ha),hs.slv h.rc (fun b hb=>hn b (hq b hb)),hs.own h.o1 (hn _ h1),hs.own h.o2 (hn _ h2),h.lk,hs.own h.o3 (hn _ h3),hs.gr h.gr h.ny,fun b hb hy=>?_⟩
 ·rcases hY y hy with e | e
  ·exact h.ys y e
  ·omega
 ·rcases hY b hy with e | e
  ·exact h.ny b hb e
  ·have:=(h.gr.bd hb).2;omega
theorem yRJ (hs:Srt L) (hlen:L.length<=100000) (hbd:∀ x∈L,Bd x) (hle:Le Z Z5) (hlw:Z.y<=Z5.low) (ha:a1<Z5.y) (h1:B1<Z5.y) (h2:B2<Z5.y) (h3:B3<Z5.y) (g1:Z.y<=B1) (g2:Z.y<=B2) (g3:Z.y<=B3) (d13:B1≠B3) (d23:B2≠B3) (d12:B1≠B2) (da:a1≠B3) (hq:∀ b,AtP q b->b<Z5.y) (hq3:∀ b,AtP q b->b≠B3)
  (oa:Own Z5 a1 [.slice q L.length d] 1) (hr:wB Z5 64 q L.length L) (o1:Own Z5 B1 [.slice none 0 0] 1) (o2:Own Z5 B2 [iV 0] 1) (o3:Own Z5 B3 [.slice none 0 0] 1) {Pn Pr:St->Prop}
  (hn:∀ z o po co,uR L=some o->Le Z z->Own z B1 [.slice none 0 0] 1->Own z B2 [iV 0] 1->Own z B3 [.slice po o.length co] 1->Gr Pg z Z5.y 60 5 po o.length co (o.map lkV)->yD z.heap Z5.y=some .defd->Z5.y<z.y->Z.y<=z.low->Pn z)
  (hp:∀ z,uR L=none->Le Z z->Own z B1 [.slice none 0 0] 1->Own z B2 [iV 9] 1->yD z.heap Z5.y=some .defd->Z5.y<z.y->Z.y<=z.low->Pr z) :
  yRK B1 B2 B3 62 [.pointer (some ⟨a1,0,none⟩)] Z5 Pn Pr:=by
 refine xAP (n0:=Z.y) (J:=fun i Y z=>∃ o po co,LkJ Z Z5 a1 B1 B2 B3 q d L i Y z o po co) (X:=fun z=>uR L=none/\Le Z z/\Own z B1 [.slice none 0 0] 1/\Own z B2 [iV 9] 1) (a1:=a1) (c:=d) (q:=q) hs hlen (fun g0=>by kernel_rfl) hle.y ?_ ?_ ?_ ?_ ?_ ?_ ?_ ?_
 ·rintro i Y z ⟨o,po,co,h⟩;exact ⟨h.oa,h.rc⟩
 ·exact ⟨[],none,0,Nat.le_refl _,fun y hy=>hy.elim,hle,oa,hr,o1,o2,rfl,o3,Gr.nil,fun b hb=>(AtP.none hb).elim⟩
 ·rintro i Y Y' z z' ⟨o,po,co,h⟩ hsm hY;exact ⟨o,po,co,h.same hsm hY ha h1 h2 h3 hq⟩
 ·rintro i Y z r hri hk ⟨o,po,co,h⟩;refine ⟨o,po,co,{ h with lk:=?_ }⟩
  rw [zEB h.lk hri,if_neg hk]
 ·rintro i Y z zz r F B p d' lo g0 db hri hk hF hc hFm hB hBl hRec hl hlo hzz ⟨o,po,co,h⟩ hnz hYz;have hrL:=List.mem_of_getElem? hri;have hil:i<L.length:=(List.getElem?_eq_some_iff.1 hri).1;have Nr:New z.re ((z.re.row (vJ (uS 0) (uS 0) none 0 0) 13).own z.re.y (vJ F r p B.length d') 13):=(New.row _ _ _).own (Nat.le_refl _);have hl1:yD ((z.re.row (vJ (uS 0) (uS 0) none 0 0) 13).own z.re.y (vJ F r p B.length d') 13).heap lo=some (zAB B1 B2 B3 62 [.pointer (some ⟨a1,0,none⟩)] g0 .ready none db):=(Nr.le.get lo hlo).trans hl;obtain ⟨z2,hz2⟩:∃ z2,z2=((z.re.row (vJ (uS 0) (uS 0) none 0 0) 13).own z.re.y (vJ F r p B.length d') 13).put lo (zAB B1 B2 B3 62 [.pointer (some ⟨a1,0,none⟩)] g0 .busy none db):=⟨_,rfl⟩;have zn:zz.y=z.y:=by rw [hzz];rfl
  have N2:New zz z2:=by
   refine ⟨⟨by rw [hz2,hzz];show z.y<=z.y+1;omega,fun y hy=>?_⟩,fun m m1 m2=>?_⟩
   ·rw [zn] at hy;rw [hz2,hzz,St.put_get,St.put_get];by_cases e:y=lo
    ·rw [if_pos e,if_pos e];rfl
    ·rw [if_neg e,if_neg e];exact Nr.le.get y hy
   ·rw [hzz] at m1 m2;rw [hz2];simp only [St.put_low,yXZ] at m1 ⊢;have e1:=Nr.low m (by show m<=z.y;omega) (by show m<=z.y;exact m2);omega
  have n2:z2.y=zz.y+1:=by rw [hz2,hzz];rfl
  have ho:Own z2 z.re.y (vJ F r p B.length d') 13:=by
   rw [hz2];have h1:Own ((z.re.row (vJ (uS 0) (uS 0) none 0 0) 13).own z.re.y (vJ F r p B.length d') 13) z.re.y (vJ F r p B.length d') 13:=(zI _ _ _).put;refine ⟨?_,h1.lt⟩
   rw [St.put_get,if_neg (show ¬ z.re.y=lo by show ¬ z.y=lo;omega)];exact h1.get
  have lds:zH Pg z2 95 ⟨z.re.y,0,none⟩=some (.agg ⟨vJ F r p B.length d'⟩):=by simpa [zS] using ho.rw.loadN (P:=Pg) (t:=95) xTB zMY (k:=0) rfl rfl (by simp)
  have c1:=xUK (Z:=z2) (d:=d') (F:=F) (r:=r) (SlV.le hRec N2.le) rfl (by omega) (by rcases hFm with e | ⟨m,rfl⟩;exact hbd F e;exact xXO) (hbd r hrL) (fun x hx=>hbd x (hB x hx));obtain ⟨k,hk2⟩:∃ k,k=zEA (uO F B) r:=⟨_,rfl⟩;rw [<- hk2] at c1;obtain ⟨z3,hz3⟩:∃ z3,z3=(z2.row (yF 0 0 0 0 0) 5).own z2.y (lkL k) 5:=⟨_,rfl⟩;have N3:New zz z3:=by rw [hz3];exact (N2.row').own (by omega)
  have n3:z3.y=zz.y+2:=by rw [hz3];show z2.y+1=_;omega
  have hsn:=zEB h.lk hri;rw [if_pos hk,<- hc,<- hk2] at hsn;have keep:∀ {S:Nat->Prop} {z4:St},Only S zz z4->(∀ y,S y->y=B3\/Z5.y<=y)->Z5.y<=z4.y/\(∀ y,Y y->Z5.y<=y)/\Le Z z4/\Own z4 a1 [.slice q L.length d] 1/\wB z4 64 q L.length L/\Own z4 B1 [.slice none 0 0] 1/\Own z4 B2 [iV 0] 1:=by
   intro S z4 hO hS;have hno:∀ b,b<Z5.y->b≠B3->¬ S b:=fun b hb hne hs=>(hS b hs).elim hne (by omega)
   have:=hO.y;have hZ5:=hle.y;refine ⟨by omega,h.ys,⟨by have:=h.le.y;omega,fun b hb=>(hO.get b (by omega) (hno b (by omega) (by omega))).trans (h.le.get b hb)⟩,hO.own' h.oa (hno _ ha da),hO.slv' h.rc (fun a e=>hno _ (hq _ ⟨a,e,rfl⟩) (hq3 _ ⟨a,e,rfl⟩)),hO.own' h.o1 (hno _ h1 d13),hO.own' h.o2 (hno _ h2 d23)⟩
  cases hok:zSK (uO F B) r with
  | true =>
   left;rw [hok] at c1 hsn;rw [if_pos rfl] at hsn;by_cases hpos:0<k.sales
   ·rw [if_pos hpos] at hsn;have p3:=h.o3.le N3.le;have l35:=p3.rw.load1 (P:=Pg) (t:=56) xNI (k:=0) rfl;have hol:o.length<=i:=by
     have key:∀ (j:Nat) (o:List Lk),vH L j=some o->o.length<=j:=by
      intro j;induction j with
      | zero=>intro o ho;cases ho;exact Nat.le_refl _
      | succ j ih =>
       intro o ho;cases hp:vH L j with
       | none=>rw [zPQ hp (Nat.le_succ j)] at ho;cases ho
       | some o' =>
        have:=ih o' hp;cases hx:L[j]? with
        | none =>
         have:vH L (j+1)=none:=by
          show (match vH L j,L[j]? with | some o,some r=>_ | _,_=>none)=none;rw [hp,hx]
         rw [this] at ho;cases ho
        | some x =>
         rw [zEB hp hx] at ho;split at ho
         ·split at ho
          ·split at ho
           ·cases ho;simp;omega
           ·cases ho;omega
          ·cases ho
         ·cases ho;omega
     exact key i o h.lk
    obtain ⟨p4,c4,z5,w1,w2,w3,w4⟩:=zGW (lkV k) xEO h.gr N3.le (xQX k) (by omega) (by omega) (e:=rfl) (hc:=rfl);have kk:Only (AtP po) zz z5:=(N3.only.trans' (Only.row _ _ _) (fun _ _ h=>.inl h)).trans' w3 (fun _ _ h=>.inl h);have hB3:¬ AtP po B3:=fun hb=>by have:=(h.gr.bd hb).1;omega
    have q3:=kk.own' h.o3 hB3;have st:=q3.store (P:=Pg) (k:=0) (t:=56) (v:=.slice p4 (o.length+1) c4) (vs:=[.slice p4 (o.length+1) c4]) (ds:=[.slice p4 (o.length+1) c4]) rfl ySA rfl (by simp) rfl;have kS:Only (fun y=>y=B3\/AtP po y) zz (z5.own B3 [.slice p4 (o.length+1) c4] 1):=(kk.mono (T:=fun y=>y=B3\/AtP po y) fun b _ h=>.inr h).trans' (Only.own (S:=(·=B3)) (.inr rfl)) (fun b _ e=>.inl (.inl e));have hB4:¬ AtP p4 B3:=fun hb=>by have:=(w2.bd hb).1;omega
    obtain ⟨m1,m2,m3,m4,m5,m6,m7⟩:=keep kS (fun y hy=>hy.imp id fun e=>(h.gr.bd e).1);subst hz3;refine ⟨_,xFN hl hl1 hz2 lds c1 (by simpa [zS] using l35) w1 st rfl hpos,⟨o++[k],p4,c4,m1,m2,m3,m4,m5,m6,m7,hsn, ?_, ?_,fun b hb hy=>?_⟩,_,kS,fun y hy=>?_⟩
    ·rw [List.length_append];exact q3.put
    ·rw [List.length_append,List.map_append];exact w2.only (Only.own (S:=(·=B3)) (.inr rfl)) (fun b hb e=>hB4 (e ▸ hb))
    ·rcases w4 b hb with e | e
     ·exact h.ny b e hy
     ·have e:z2.y+1<=b:=e;have:=hYz b hy;omega
    ·have hZ5:=hle.y;rcases hy with rfl | hy
     ·exact ⟨g3,fun hy=>by have:=h.ys _ hy;omega,fun _=>⟨_,_,_,_,_,h.o3.get⟩⟩
     ·exact ⟨by have:=(h.gr.bd hy).1;omega,h.ny y hy,fun _=>yMW h.gr hy⟩
   ·rw [if_neg hpos] at hsn;obtain ⟨m1,m2,m3,m4,m5,m6,m7⟩:=keep (N3.only (S:=fun _=>False)) (fun y hy=>hy.elim);have g:=h.gr.le N3.le;have p3:=h.o3.le N3.le;subst hz3;exact ⟨_,xFM hl hl1 hz2 lds c1 rfl hpos,⟨o,po,co,m1,m2,m3,m4,m5,m6,m7,hsn,p3,g,h.ny⟩,_,N3.only (S:=fun _=>False),fun y hy=>hy.elim⟩
  | false =>
   right;rw [hok] at c1 hsn;rw [if_neg (by simp)] at hsn;have hnone:uR L=none:=zPQ hsn (by omega);have p1:=h.o1.le N3.le;have st1:=p1.store (P:=Pg) (k:=0) (t:=56) (v:=.slice none 0 0) (vs:=[.slice none 0 0]) (ds:=[.slice none 0 0]) rfl ySA rfl (by simp) rfl;have p2:=(h.o2.le N3.le).own (ds:=[.slice none 0 0]) (m:=1) (c:=B1) (Ne.symm d12);have st2:=p2.store (P:=Pg) (k:=0) (t:=42) (v:=iV 9) (vs:=[iV 9]) (ds:=[iV 9]) rfl xHI rfl (by simp) rfl;have k1:Only (fun y=>y=B1\/y=B2) zz (z3.own B1 [.slice none 0 0] 1):=N3.only.trans' (Only.own (S:=(·=B1)) (.inr rfl)) (fun b _ e=>.inl (.inl e));have kS:Only (fun y=>y=B1\/y=B2) zz ((z3.own B1 [.slice none 0 0] 1).own B2 [iV 9] 1):=k1.trans' (Only.own (S:=(·=B2)) (.inr rfl)) (fun b _ e=>.inl (.inr e));have f1:=(p1.put (ds:=[.slice none 0 0])).own (ds:=[iV 9]) (m:=1) (c:=B2) d12;have f2:=p2.put (ds:=[iV 9]);have hle4:Le Z ((z3.own B1 [.slice none 0 0] 1).own B2 [iV 9] 1):=⟨by have:=h.le.y;have:=kS.y;omega,fun b hb=>(kS.get b (by have:=h.le.y;omega) (by omega)).trans (h.le.get b hb)⟩;subst hz3;refine ⟨_,xFL hl hl1 hz2 lds c1 st1 st2 rfl,⟨hnone,hle4,f1,f2⟩,_,kS,fun y hy=>?_⟩
   rcases hy with rfl | rfl
   ·exact ⟨g1,fun _=>⟨_,_,_,_,_,h.o1.get⟩⟩
   ·exact ⟨g2,fun _=>⟨_,_,_,_,_,h.o2.get⟩⟩
 ·rintro z z' ⟨x1,x2,x3,x4⟩ hsm;exact ⟨x1,⟨by have:=x2.y;have:=hsm.y;omega,fun b hb=>(hsm.old b hb).trans (x2.get b hb)⟩,hsm.own x3 (fun h=>h),hsm.own x4 (fun h=>h)⟩
 ·rintro z ⟨x1,x2,x3,x4⟩ hd hlz hlow;exact hp z x1 x2 x3 x4 hd hlz (hlow _ (Nat.le_refl _) hlw)
 ·rintro Y z ⟨o,po,co,h⟩ hd hlz hlow;exact hn z o po co h.lk h.le h.o1 h.o2 h.o3 h.gr hd hlz (hlow _ (Nat.le_refl _) hlw)
end
end
section
variable {l c:Nat} {p:Option Addr}
theorem yZG {x:Rec}:∀ {l:List Rec},(yCJ x l).length=l.length+1
 | []=>rfl
 | y::ys=>by
  unfold yCJ;split
  ·rfl
  ·rw [List.length_cons,yZG];rfl
theorem yNJ:∀ {l o:List Rec},(l.foldl step o).length<=o.length+l.length
 | [],o=>Nat.le_refl _
 | x::xs,o=>by
  rw [List.foldl_cons];have h:=yNJ (l:=xs) (o:=step o x);have h2:(step o x).length<=o.length+1:=by
   unfold step;split
   ·omega
   ·rw [yZG];exact Nat.le_refl _
  rw [List.length_cons];omega
theorem xJN {l:List Rec}:(zJW l).length<=l.length:=by
 have:=yNJ (l:=l) (o:=[]);unfold zJW;simpa using this
section
variable {Z:St}
theorem yKD:∃ a1 Z',zJ Pg 29 [.slice p l c] Z (.func (.func 62) ⟨[]⟩ ⟨[.pointer (some ⟨a1,0,none⟩)]⟩) Z'/\New Z Z'/\Own Z' a1 [.slice p l c] 1/\Z.y<=a1:=by
 have key:zL Pg 29 [.slice p l c] Z.re fun v s=>New Z.re s/\∃ a1,v=.func (.func 62) ⟨[]⟩ ⟨[.pointer (some ⟨a1,0,none⟩)]⟩/\Own s a1 [.slice p l c] 1/\Z.y<=a1 :=
  yHI ⟨New.row _ _ _,_,rfl,zI _ _ _,Nat.le_refl _⟩
 obtain ⟨v,Z',h1,h2,a1,rfl,h3,h4⟩:=zL.new (Q:=fun v s=>∃ a1,v=.func (.func 62) ⟨[]⟩ ⟨[.pointer (some ⟨a1,0,none⟩)]⟩/\Own s a1 [.slice p l c] 1/\Z.y<=a1) key (by rintro v s s' ⟨a1,rfl,g1,g2⟩ hle;exact ⟨a1,rfl,g1.le hle,g2⟩) (by
  rintro v s hr ⟨a1,rfl,g1,g2⟩;exact Bool.noConfusion (show false=true from hr))
 exact ⟨a1,Z',h1,h2,h3,h4⟩
theorem xSP {xs:List Rec} {o:List Lk} (h:wB Z 64 p l xs) (hl:l<=1073741824) (hb:∀ x∈xs,Byte x) (hz:zAT [xs]=0) (hC:zLF xs) (ho:uR (zJW xs)=some o) :
    ∃ q d Z',zJ Pg 14 [.slice p l c] Z (.tuple ⟨[.slice q o.length d,iV 0]⟩) Z'/\New Z Z'/\SlV Pg Z' 60 5 q o.length (o.map lkV):=by
  have hlen:=h.len;obtain ⟨Z1,hZ1⟩:∃ Z1,Z1=((Z.re.row [.slice none 0 0] 1).row [iV 0] 1).row [.slice p l c] 1:=⟨_,rfl⟩;have N1:New Z.re Z1:=by rw [hZ1];exact (New.row _ _ _).row'.row'
  have o1:Own Z1 Z.y [.slice none 0 0] 1:=by rw [hZ1];exact ((zI Z.re [.slice none 0 0] 1).row).row
  have o2:Own Z1 (Z.y+1) [iV 0] 1:=by rw [hZ1];exact (zI (Z.re.row [.slice none 0 0] 1) [iV 0] 1).row
  have o3:Own Z1 (Z.y+2) [.slice p l c] 1:=by rw [hZ1];exact zI ((Z.re.row [.slice none 0 0] 1).row [iV 0] 1) _ _
  have hx1:wB Z1 64 p l xs:=(SlV.le h (le0 Z)).le N1.le;have hflat:([xs]:List (List Rec)).flatten=xs:=by simp
  obtain ⟨q,d,Z3,k,N3,hr⟩:=xJK (c:=1) (zDI.single zIZ o3 hx1) (by omega) (by intro r hr;simp at hr;subst hr;exact ⟨by omega,hb⟩) hz (by rw [hflat];exact hC);rw [hflat] at hr k;obtain ⟨z1,z2,z3⟩:=yFT hz;have hxl:xs.length<=60:=z2 xs (by simp);have hLl:=xJN (l:=xs);obtain ⟨L,hL⟩:∃ L,L=zJW xs:=⟨_,rfl⟩;rw [<- hL] at hr k hLl ho;have hbd:∀ x∈L,Bd x:=fun x hx=>xMO (z3 xs (by simp) x (by rw [hL] at hx;exact yMA.1 hx))
  have hs:Srt L:=by rw [hL];exact yKG hC
  obtain ⟨Z4,hZ4⟩:∃ Z4,Z4=Z3.row [.slice none 0 0] 1:=⟨_,rfl⟩;have N4:New Z3 Z4:=by rw [hZ4];exact New.row _ _ _
  have w3:Own Z4 Z3.y [.slice none 0 0] 1:=by rw [hZ4];exact zI _ _ _
  obtain ⟨a1,Z5,k5,N5,oa,ha1⟩:=yKD (Z:=Z4) (p:=q) (l:=L.length) (c:=d);have n3:Z1.y<=Z3.y:=N3.nx;have n1:Z1.y=Z.y+3:=by rw [hZ1];rfl
  have n4:Z4.y=Z3.y+1:=by rw [hZ4];rfl
  have n5:=N5.nx;have NN:=((N1.trans N3).trans N4).trans N5;have hq3:∀ b,AtP q b->b<Z3.y:=fun b hb=>by obtain ⟨a,e,rfl⟩:=hb;exact zEP hr a e
  have key:zL Pg 14 [.slice p l c] Z.re fun v s=>New Z.re s/\∃ q d,v=.tuple ⟨[.slice q o.length d,iV 0]⟩/\SlV Pg s 60 5 q o.length (o.map lkV):=by
    have hR:=yRJ (Z:=Z) (Z5:=Z5) (a1:=a1) (B1:=Z.y) (B2:=Z.y+1) (B3:=Z3.y) (d:=d) (q:=q) (L:=L) hs (by omega) hbd ⟨NN.le.y,NN.le.get⟩ NN.lw (by have:=oa.lt;omega) (by omega) (by omega) (by omega) (by omega) (by omega) (by omega) (by omega) (by omega) (by omega) (by omega) (fun b hb=>by have:=hq3 b hb;omega) (fun b hb=>by have:=hq3 b hb;omega)
      oa ((SlV.le hr N4.le).le N5.le) (((o1.le N3.le).le N4.le).le N5.le) (((o2.le N3.le).le N4.le).le N5.le) (w3.le N5.le)
      (Pn:=fun z=>∃ po co,Le Z z/\Own z Z.y [.slice none 0 0] 1/\Own z (Z.y+1) [iV 0] 1/\Own z Z3.y [.slice po o.length co] 1/\Gr Pg z Z5.y 60 5 po o.length co (o.map lkV)/\yD z.heap Z5.y=some .defd/\Z5.y<z.y/\Z.y<=z.low)
      (Pr:=fun z=>False)
      (fun z o' po co h1 h2 h3 h4 h5 h6 h7 h8 h9=>by rw [ho] at h1;cases h1;exact ⟨po,co,h2,h3,h4,h5,h6,h7,h8,h9⟩) (fun z h1=>by rw [ho] at h1;cases h1)
    subst hZ4 hZ1;refine xOC k k5 hR ?_ (fun z h=>h.elim) rfl
    · rintro z ⟨po,co,h2,h3,h4,h5,h6,h7,h8,h9⟩;have l1:=h5.rw.load1 (P:=Pg) (t:=56) xNI (k:=0) rfl;have st1:=h3.store (P:=Pg) (k:=0) (t:=56) (v:=.slice po o.length co) (vs:=[.slice po o.length co]) (ds:=[.slice po o.length co]) rfl ySA rfl (by simp) rfl;have p2:=h4.own (ds:=[.slice po o.length co]) (m:=1) (c:=Z.y) (by omega);have st2:=p2.store (P:=Pg) (k:=0) (t:=42) (v:=iV 0) (vs:=[iV 0]) (ds:=[iV 0]) rfl xHI rfl (by simp) rfl;have kk:Only (fun y=>y=Z.y\/y=Z.y+1) z ((z.own Z.y [.slice po o.length co] 1).own (Z.y+1) [iV 0] 1):=((Only.own (S:=(·=Z.y)) (.inr rfl)).mono (T:=fun y=>y=Z.y\/y=Z.y+1) fun b _ e=>.inl e).trans' (Only.own (S:=(·=Z.y+1)) (.inr rfl)) (fun b _ e=>.inl (.inr e));have q1:=(h3.put (ds:=[.slice po o.length co])).own (ds:=[iV 0]) (m:=1) (c:=Z.y+1) (by omega);have q2:=p2.put (ds:=[iV 0]);obtain ⟨z8,hz8⟩:∃ z8,z8=(z.own Z.y [.slice po o.length co] 1).own (Z.y+1) [iV 0] 1:=⟨_,rfl⟩;rw [<- hz8] at kk q1 q2;have hd:yD z8.heap Z5.y=some .defd:=(kk.get _ h8 (by omega)).trans h7;obtain ⟨s,m1,m2,m3,m4⟩:=zWH (ms:=[Z5.y]) (Z:=z8) (by intro d hd';simp at hd';rw [hd'];exact hd) (by simp);have n8:z8.y=z.y:=by rw [hz8];rfl
      have u1:Own s Z.y [.slice po o.length co] 1:=⟨(m3 _ (by simp;omega)).trans q1.get,by rw [m2];exact q1.lt⟩;have u2:Own s (Z.y+1) [iV 0] 1:=⟨(m3 _ (by simp;omega)).trans q2.get,by rw [m2];exact q2.lt⟩;have lo8:Z.y<=z8.low:=by rw [hz8];show Z.y<=min (min _ _) _;omega
      have fin:New Z.re s:=⟨⟨by have:=h2.y;show Z.y<=s.y;omega,fun b hb=>by
        have hb:b<Z.y:=hb;have:=h2.y;exact (m3 b (by simp;omega)).trans ((kk.get b (by omega) (by omega)).trans (h2.get b hb))⟩,fun m e1 e2=>by
        have e2:m<=Z.y:=e2;have:=m4 Z.y lo8 (by intro d hd';simp at hd';omega);omega⟩
      have hg:SlV Pg s 60 5 po o.length (o.map lkV):=by
        have g8:=h6.only kk (fun b hb e=>by have:=(h6.bd hb).1;omega);have hno:¬ AtP po Z5.y:=fun hb=>by
          obtain ⟨cs,k,lg,nx,ro,e⟩:=yMW h6 hb;rw [h7] at e;cases e
        have hh:SlV Pg z8 60 5 po o.length (o.map lkV):=g8.slv
        · refine ⟨⟨hh.1.1, ?_⟩,hh.2⟩
          cases po with
          | none=>exact hh.1.2
          | some a =>
            have hrow:Row z8 a (wI (o.map lkV)):=hh.1.2;refine ⟨?_,by rw [m2];exact hrow.lt⟩
            have hrd:=hrow.rd;unfold yR at hrd ⊢;rw [m3 _ (by simp;exact fun e=>hno ⟨a,rfl,e⟩)];exact hrd
      subst hz8;exact yRI (by simpa [zS] using l1) st1 st2 m1 (by simpa [zS] using u1.rw.load1 (P:=Pg) (t:=56) xNI (k:=0) rfl) (by simpa [zS] using u2.rw.load1 (P:=Pg) (t:=42) xXB (k:=0) rfl) ⟨fin,po,co,rfl,hg⟩
  exact (zL.new (P:=Pg) (f:=14) (args:=[.slice p l c]) (Z:=Z) (Q:=fun v s=>∃ q d,v=.tuple ⟨[.slice q o.length d,iV 0]⟩/\SlV Pg s 60 5 q o.length (o.map lkV)) key (by rintro v s s' ⟨q,d,rfl,g⟩ hle;exact ⟨q,d,rfl,SlV.le g hle⟩) (by
        rintro v s hr ⟨q,d,rfl,g⟩;refine ⟨q,d,rfl, ?_⟩
        cases q with
        | none=>exact zAV g
        | some a=>exact Bool.noConfusion (show false=true from hr))).elim fun v ⟨Z',g1,g2,q',d',e,g3⟩=>⟨q',d',Z',e ▸ g1,g2,g3⟩
end
end
section
variable {t_0:Trf} {l q3 q4 p10_1 p11_1 p11_2 qA qD:Option Addr} {l_l l_c BA l3 c3 l4 c4 BB BD BC l10_1 c10_1 l11_1 c11_1 lJ cK l11_2 c11_2 lA cA lE cE BE BG:Nat} {bits n2 i15_1 nE nC nF zD nP i18_2 i30_3 i31_4:Int} {Z ZC ZE Z6:St} {Q:Value->St->Prop} {Inv:Nat->Int->St->Prop} {Q0:(Option Addr)->Nat->Nat->(Option Addr)->Nat->Nat->St->Prop} {q3_a qH_a:Addr} {xA:Tp} {Nx:Int->St->Prop} {Q2:(Option Addr)->Nat->Nat->St->Prop} {Qr Pr:Bool->St->Prop} {Q4 Q6:St->Prop}
theorem xKA (h1:zJ Pg 4 [.agg ⟨trL t_0⟩] (Z.row (trL t_0) 5) (.bool true) (Z.row (trL t_0) 5)) (nx:Q (.bool true) (Z.row (trL t_0) 5)) (u1:40<((l_l:Nat):Int):=by omega):yCY Pg 6 3 [.agg ⟨trL t_0⟩,.slice l l_l l_c,.int .u64 bits] Z Q :=
 let s1:=Z.row (trL t_0) 5;zOY [.g,.g,.l (.agg ⟨trL t_0⟩),.c (.bool true) s1,.g,.g,.g,.g,.b true,.g,.g,.g,.c (.bool true) s1,.g] (kc (by kernel_rfl) (an4 ((zI _ _ _).rw.ldN zHC zCH (k:=0) rfl rfl (nle rfl):zH Pg s1 24 ⟨Z.y,0,none⟩=some (.agg ⟨trL t_0⟩)) (zJ.top (aw:=6) h1) (zU u1) (xGQ:uJ (zDC Pg 6) (.func 6) [] s1 (.bool true) s1) nx))
theorem xJZ (h1:zJ Pg 4 [.agg ⟨trL t_0⟩] (Z.row (trL t_0) 5) (.bool true) (Z.row (trL t_0) 5)) (h2:zJ Pg 5 [.agg ⟨trL t_0⟩] (Z.row (trL t_0) 5) (iV n2) (Z.row (trL t_0) 5)) (nx:Q (.bool true) (Z.row (trL t_0) 5)) (u1:¬ 40<((l_l:Nat):Int):=by omega) (u2:¬ n2=0:=by omega):yCY Pg 6 3 [.agg ⟨trL t_0⟩,.slice l l_l l_c,.int .u64 bits] Z Q :=
 let s1:=Z.row (trL t_0) 5;zOY [.g,.g,.l (.agg ⟨trL t_0⟩),.c (.bool true) s1,.g,.g,.g,.g,.b false,.g,.g,.l (.agg ⟨trL t_0⟩),.c (iV n2) s1,.b true,.g,.c (.bool true) s1,.g] (kc (by kernel_rfl) (And.intro ((zI _ _ _).rw.ldN zHC zCH (k:=0) rfl rfl (nle rfl):zH Pg s1 24 ⟨Z.y,0,none⟩=some (.agg ⟨trL t_0⟩)) (an6 (zJ.top (aw:=6) h1) (zY u1) ((zI _ _ _).rw.ldN zHC zCH (k:=0) rfl rfl (nle rfl):zH Pg s1 24 ⟨Z.y,0,none⟩=some (.agg ⟨trL t_0⟩)) (zJ.top (aw:=6) h2) (zDZ u2) (xGQ:uJ (zDC Pg 6) (.func 6) [] s1 (.bool true) s1) nx)))
noncomputable def yMQ:Code:=(Code.part [1,1,1,1,1,1,1,0,1,0,0] (zR Pg 3))
def zPS (bits:Int) (BA:Nat) (q3:Option Addr) (l3 c3:Nat) (q4:Option Addr) (l4 c4 BB BD BC:Nat) (p10_1:Option Addr) (l10_1 c10_1:Nat) (p11_1:Option Addr) (l11_1 c11_1:Nat) (i15_1:Int):List (Nat × Value):=[(2,.int .u64 bits),(3,.pointer (some ⟨BA,0,none⟩)),(7,.slice q3 l3 c3),(8,.slice q4 l4 c4),(10,.slice p10_1 l10_1 c10_1),(11,.slice p11_1 l11_1 c11_1),(12,.pointer (some ⟨BB,0,none⟩)),(13,.pointer (some ⟨BD,0,none⟩)),(14,.pointer (some ⟨BC,0,none⟩)),(15,iV i15_1)]
def xCH (bits:Int) (BA:Nat) (q3:Option Addr) (l3 c3:Nat) (q4:Option Addr) (l4 c4 BB BD BC:Nat) (Q:(Option Addr)->Nat->Nat->(Option Addr)->Nat->Nat->Int->St->Prop):Alt:=⟨(Option Addr) × Nat × Nat × (Option Addr) × Nat × Nat × Int,.normal,fun t=>zPS bits BA q3 l3 c3 q4 l4 c4 BB BD BC t.1 t.2.1 t.2.2.1 t.2.2.2.1 t.2.2.2.2.1 t.2.2.2.2.2.1 t.2.2.2.2.2.2,fun t=>[],fun t Z=>Q t.1 t.2.1 t.2.2.1 t.2.2.2.1 t.2.2.2.2.1 t.2.2.2.2.2.1 t.2.2.2.2.2.2 Z⟩
def zXZ (bits:Int) (BA:Nat) (q3:Option Addr) (l3 c3:Nat) (q4:Option Addr) (l4 c4 BB BD BC:Nat) (p10_1:Option Addr) (l10_1 c10_1:Nat) (p11_1:Option Addr) (l11_1 c11_1:Nat):List (Nat × Value):=[(3,.pointer (some ⟨BA,0,none⟩)),(8,.slice q4 l4 c4),(10,.slice p10_1 l10_1 c10_1),(11,.slice p11_1 l11_1 c11_1),(12,.pointer (some ⟨BB,0,none⟩)),(13,.pointer (some ⟨BD,0,none⟩)),(14,.pointer (some ⟨BC,0,none⟩))]
def zNM (bits:Int) (BA:Nat) (q3:Option Addr) (l3 c3:Nat) (q4:Option Addr) (l4 c4 BB BD BC:Nat) (Q:(Option Addr)->Nat->Nat->(Option Addr)->Nat->Nat->St->Prop):Alt:=⟨(Option Addr) × Nat × Nat × (Option Addr) × Nat × Nat,(.exit 0),fun t=>zXZ bits BA q3 l3 c3 q4 l4 c4 BB BD BC t.1 t.2.1 t.2.2.1 t.2.2.2.1 t.2.2.2.2.1 t.2.2.2.2.2,fun t=>[],fun t Z=>Q t.1 t.2.1 t.2.2.1 t.2.2.2.1 t.2.2.2.2.1 t.2.2.2.2.2 Z⟩
def zPT (bits:Int) (BA:Nat) (q3:Option Addr) (l3 c3:Nat) (q4:Option Addr) (l4 c4 BB BD BC:Nat) (p10_1:Option Addr) (l10_1 c10_1:Nat) (p11_1:Option Addr) (l11_1 c11_1:Nat) (i15_1:Int) (Z:St) (Nx:(Option Addr)->Nat->Nat->(Option Addr)->Nat->Nat->Int->St->Prop) (Q0:(Option Addr)->Nat->Nat->(Option Addr)->Nat->Nat->St->Prop):Prop:=xK Pg (zDC Pg 6) none yMQ 272 (zPS bits BA q3 l3 c3 q4 l4 c4 BB BD BC p10_1 l10_1 c10_1 p11_1 l11_1 c11_1 i15_1) [] [xCH bits BA q3 l3 c3 q4 l4 c4 BB BD BC Nx,zNM bits BA q3 l3 c3 q4 l4 c4 BB BD BC Q0] Z
def zYC (bits:Int) (BA:Nat) (q3:Option Addr) (l3 c3:Nat) (q4:Option Addr) (l4 c4 BB BD BC:Nat) (p10_1:Option Addr) (l10_1 c10_1:Nat) (p11_1:Option Addr) (l11_1 c11_1:Nat) (i15_1:Int) (Z:St) (Q0:(Option Addr)->Nat->Nat->(Option Addr)->Nat->Nat->St->Prop):Prop:=xO Pg (zDC Pg 6) none yMQ 272 (zPS bits BA q3 l3 c3 q4 l4 c4 BB BD BC p10_1 l10_1 c10_1 p11_1 l11_1 c11_1 i15_1) [] [zNM bits BA q3 l3 c3 q4 l4 c4 BB BD BC Q0] Z
theorem yMM {Inv:Nat->(Option Addr)->Nat->Nat->(Option Addr)->Nat->Nat->Int->St->Prop} (hb:∀ k p10_1 l10_1 c10_1 p11_1 l11_1 c11_1 i15_1 Z,Inv k p10_1 l10_1 c10_1 p11_1 l11_1 c11_1 i15_1 Z->zPT bits BA q3 l3 c3 q4 l4 c4 BB BD BC p10_1 l10_1 c10_1 p11_1 l11_1 c11_1 i15_1 Z (NX7 Inv k) Q0):∀ k p10_1 l10_1 c10_1 p11_1 l11_1 c11_1 i15_1 Z,Inv k p10_1 l10_1 c10_1 p11_1 l11_1 c11_1 i15_1 Z->zYC bits BA q3 l3 c3 q4 l4 c4 BB BD BC p10_1 l10_1 c10_1 p11_1 l11_1 c11_1 i15_1 Z Q0 :=
 xUF (And.intro (vN 0) trivial) hb
theorem xCD {nQ:Int} {ZR:St} {Nx:(Option Addr)->Nat->Nat->(Option Addr)->Nat->Nat->Int->St->Prop} (h1:zH Pg Z 37 (zS q3_a (Int.toNat i15_1*7))=some (.agg ⟨tpL xA⟩)) (h2:zH Pg ((Z.row (yH 0 0 0 0 0 0 0) 7).own Z.y (tpL xA) 7) 22 ⟨BA,1,none⟩=some (.slice (some qH_a) lJ cK)) (h3:zH Pg ((Z.row (yH 0 0 0 0 0 0 0) 7).own Z.y (tpL xA) 7) 3 (zS qH_a (Int.toNat (xA.r.b-xA.r.a)*1))=some (iV nE)) (h4:zH Pg ((Z.row (yH 0 0 0 0 0 0 0) 7).own Z.y (tpL xA) 7) 3 ⟨BB,0+Int.toNat xA.m*1,none⟩=some (iV nC)) (h5:zN Pg (evL [.pointer (some ⟨BB,0+Int.toNat xA.m*1,none⟩),iV (nC+nE)]) ((Z.row (yH 0 0 0 0 0 0 0) 7).own Z.y (tpL xA) 7) (.store 3 (.tmp 0) (.tmp 1))=some (undef,ZC)) (h6:zH Pg ZC 3 ⟨Z.y,0,none⟩=some (iV xA.m)) (h7:zH Pg ZC 3 ⟨BD,0+Int.toNat xA.m*1,none⟩=some (iV nF)) (h8:zN Pg (evL [.pointer (some ⟨BD,0+Int.toNat xA.m*1,none⟩),iV (nF+1)]) ZC (.store 3 (.tmp 0) (.tmp 1))=some (undef,ZE)) (h9:vV .u64 (i15_1)=zD) (h10:uP Pg .shr 26 (.tmp 90) (.tmp 92) (.int .u64 bits) (.int .u64 zD)=some (.int .u64 nP)) (h11:zH Pg ZE 3 ⟨Z.y,0,none⟩=some (iV xA.m)) (h12:zH Pg ZE 3 ⟨BC,0+Int.toNat xA.m*1,none⟩=some (iV nQ)) (h13:zN Pg (evL [.pointer (some ⟨BC,0+Int.toNat xA.m*1,none⟩),iV (nQ+nE)]) ZE (.store 3 (.tmp 0) (.tmp 1))=some (undef,ZR)) (nx:Nx p10_1 l10_1 c10_1 p11_1 l11_1 c11_1 (i15_1+1) ZR) (u1:i15_1<((l3:Nat):Int):=by omega) (u2:Ix i15_1 l3:=by omega) (u3:I6 (xA.r.b-xA.r.a):=by omega) (u4:Ix (xA.r.b-xA.r.a) lJ:=by omega) (u5:Ix xA.m 4:=by omega) (u6:I6 (nC+nE):=by omega) (u7:I6 (nF+1):=by omega) (u8:(Int.tmod nP 2)=1:=by omega) (u9:I6 (nQ+nE):=by omega) (u10:I6 (i15_1+1):=by omega):zPT bits BA (some q3_a) l3 c3 q4 l4 c4 BB BD BC p10_1 l10_1 c10_1 p11_1 l11_1 c11_1 i15_1 Z Nx Q0 :=
 let s1:=Z.row (yH 0 0 0 0 0 0 0) 7;let s2:=s1.own Z.y (tpL xA) 7;kO 0 (p10_1,l10_1,c10_1,p11_1,l11_1,c11_1,i15_1+1) [.g,.g,.g,.b true,.g,.g,.i,.l (.agg ⟨tpL xA⟩),.g,.e undef s2,.g,.l (.slice (some qH_a) lJ cK),.g,.g,.l (iV xA.r.b),.g,.g,.l (iV xA.r.a),.n (xA.r.b-xA.r.a),.i,.l (iV nE),.g,.g,.l (iV xA.m),.i,.l (iV nC),.g,.n (nC+nE),.i,.e undef ZC,.g,.l (iV xA.m),.i,.l (iV nF),.n (nF+1),.i,.e undef ZE,.g,.g,.n zD,.v (.int .u64 nP),.g,.b true,.g,.l (iV xA.m),.i,.l (iV nQ),.g,.n (nQ+nE),.i,.e undef ZR,.g,.n (i15_1+1),.g] (fun _ f=>(an2 (zU u1) u2 (an6 h1 ((zI _ _ _).store (vs:=(tpL xA)) rfl zEQ rfl (nle rfl) rfl:zN Pg (evL [.pointer (some ⟨Z.y,0,none⟩),.agg ⟨tpL xA⟩]) s1 (.store 37 (.tmp 0) (.tmp 1))=some (undef,s2)) h2 ((zI _ _ _).put.rw.ld zT (k:=6) rfl:zH Pg s2 3 ⟨Z.y,6,none⟩=some (iV xA.r.b)) ((zI _ _ _).put.rw.ld zT (k:=5) rfl:zH Pg s2 3 ⟨Z.y,5,none⟩=some (iV xA.r.a)) (w64 u3) (an6 u4 h3 ((zI _ _ _).put.rw.ld zT (k:=0) rfl:zH Pg s2 3 ⟨Z.y,0,none⟩=some (iV xA.m)) u5 h4 (w64 u6) (an6 u5 h5 h6 u5 h7 (w64 u7) (an6 u5 h8 h9 h10 (vT u8) h11 (an6 u5 h12 (w64 u9) u5 h13 (w64 u10) f))))))) nx
theorem xCC {lS cS lEB cDB:Nat} {qS qDB:Option Addr} {ZF ZAB:St} {Nx:(Option Addr)->Nat->Nat->(Option Addr)->Nat->Nat->Int->St->Prop} (h1:zH Pg Z 37 (zS q3_a (Int.toNat i15_1*7))=some (.agg ⟨tpL xA⟩)) (h2:zH Pg ((Z.row (yH 0 0 0 0 0 0 0) 7).own Z.y (tpL xA) 7) 22 ⟨BA,1,none⟩=some (.slice (some qH_a) lJ cK)) (h3:zH Pg ((Z.row (yH 0 0 0 0 0 0 0) 7).own Z.y (tpL xA) 7) 3 (zS qH_a (Int.toNat (xA.r.b-xA.r.a)*1))=some (iV nE)) (h4:zH Pg ((Z.row (yH 0 0 0 0 0 0 0) 7).own Z.y (tpL xA) 7) 3 ⟨BB,0+Int.toNat xA.m*1,none⟩=some (iV nC)) (h5:zN Pg (evL [.pointer (some ⟨BB,0+Int.toNat xA.m*1,none⟩),iV (nC+nE)]) ((Z.row (yH 0 0 0 0 0 0 0) 7).own Z.y (tpL xA) 7) (.store 3 (.tmp 0) (.tmp 1))=some (undef,ZC)) (h6:zH Pg ZC 3 ⟨Z.y,0,none⟩=some (iV xA.m)) (h7:zH Pg ZC 3 ⟨BD,0+Int.toNat xA.m*1,none⟩=some (iV nF)) (h8:zN Pg (evL [.pointer (some ⟨BD,0+Int.toNat xA.m*1,none⟩),iV (nF+1)]) ZC (.store 3 (.tmp 0) (.tmp 1))=some (undef,ZE)) (h9:vV .u64 (i15_1)=zD) (h10:uP Pg .shr 26 (.tmp 90) (.tmp 92) (.int .u64 bits) (.int .u64 zD)=some (.int .u64 nP)) (h11:zH Pg ZE 37 ⟨Z.y,0,none⟩=some (.agg ⟨tpL xA⟩)) (h12:yA Pg 25 25 (.slice p10_1 l10_1 c10_1) (.slice (some ⟨ZE.y,0,none⟩) 1 1) (ZE.row (tpL xA) 7)=some (.slice qS lS cS,ZF)) (h13:zH Pg ZF 3 ⟨Z.y,0,none⟩=some (iV xA.m)) (h14:zH Pg ZF 3 ⟨Z.y,1,none⟩=some (iV xA.n)) (h15:zH Pg ZF 3 ⟨Z.y,5,none⟩=some (iV xA.r.a)) (h16:yA Pg 32 32 (.slice p11_1 l11_1 c11_1) (.slice (some ⟨ZF.y,0,none⟩) 1 1) (ZF.row (rcd xA.m (xA.n+1) (10*xA.n) 0 xA.r.a nE) 6)=some (.slice qDB lEB cDB,ZAB)) (nx:Nx qS lS cS qDB lEB cDB (i15_1+1) ZAB) (u1:i15_1<((l3:Nat):Int):=by omega) (u2:Ix i15_1 l3:=by omega) (u3:I6 (xA.r.b-xA.r.a):=by omega) (u4:Ix (xA.r.b-xA.r.a) lJ:=by omega) (u5:Ix xA.m 4:=by omega) (u6:I6 (nC+nE):=by omega) (u7:I6 (nF+1):=by omega) (u8:¬ (Int.tmod nP 2)=1:=by omega) (u9:I6 (xA.n+1):=by omega) (u10:I6 (10*xA.n):=by omega) (u11:I6 (i15_1+1):=by omega):zPT bits BA (some q3_a) l3 c3 q4 l4 c4 BB BD BC p10_1 l10_1 c10_1 p11_1 l11_1 c11_1 i15_1 Z Nx Q0 :=
 let s1:=Z.row (yH 0 0 0 0 0 0 0) 7;let s2:=s1.own Z.y (tpL xA) 7;kO 0 (qS,lS,cS,qDB,lEB,cDB,i15_1+1) [.g,.g,.g,.b true,.g,.g,.i,.l (.agg ⟨tpL xA⟩),.g,.e undef s2,.g,.l (.slice (some qH_a) lJ cK),.g,.g,.l (iV xA.r.b),.g,.g,.l (iV xA.r.a),.n (xA.r.b-xA.r.a),.i,.l (iV nE),.g,.g,.l (iV xA.m),.i,.l (iV nC),.g,.n (nC+nE),.i,.e undef ZC,.g,.l (iV xA.m),.i,.l (iV nF),.n (nF+1),.i,.e undef ZE,.g,.g,.n zD,.v (.int .u64 nP),.g,.b false,.g,.l (.agg ⟨tpL xA⟩),.g,.e (.slice qS lS cS) ZF,.g,.g,.g,.l (iV xA.m),.g,.l (iV xA.n),.n (xA.n+1),.g,.l (iV xA.n),.n (10*xA.n),.g,.g,.l (iV xA.r.a),.g,.g,.g,.e (.slice qDB lEB cDB) ZAB,.g,.g,.n (i15_1+1),.g] (fun _ f=>(an5 (zU u1) u2 h1 ((zI _ _ _).store (vs:=(tpL xA)) rfl zEQ rfl (nle rfl) rfl:zN Pg (evL [.pointer (some ⟨Z.y,0,none⟩),.agg ⟨tpL xA⟩]) s1 (.store 37 (.tmp 0) (.tmp 1))=some (undef,s2)) h2 (an6 ((zI _ _ _).put.rw.ld zT (k:=6) rfl:zH Pg s2 3 ⟨Z.y,6,none⟩=some (iV xA.r.b)) ((zI _ _ _).put.rw.ld zT (k:=5) rfl:zH Pg s2 3 ⟨Z.y,5,none⟩=some (iV xA.r.a)) (w64 u3) u4 h3 ((zI _ _ _).put.rw.ld zT (k:=0) rfl:zH Pg s2 3 ⟨Z.y,0,none⟩=some (iV xA.m)) (an6 u5 h4 (w64 u6) u5 h5 h6 (an6 u5 h7 (w64 u7) u5 h8 h9 (an6 h10 (vD u8) h11 h12 h13 h14 (an6 (w64 u9) h14 (w64 u10) h15 h16 (w64 u11) f))))))) nx
theorem xCB {Nx:(Option Addr)->Nat->Nat->(Option Addr)->Nat->Nat->Int->St->Prop} (nx:Q0 p10_1 l10_1 c10_1 p11_1 l11_1 c11_1 Z) (u1:¬ i15_1<((l3:Nat):Int):=by omega):zPT bits BA q3 l3 c3 q4 l4 c4 BB BD BC p10_1 l10_1 c10_1 p11_1 l11_1 c11_1 i15_1 Z Nx Q0 :=
 kO 1 (p10_1,l10_1,c10_1,p11_1,l11_1,c11_1) [.g,.g,.g,.b false] (fun _ f=>(And.intro (zY u1) f)) nx
def zYG (bits:Int) (BA:Nat) (q3:Option Addr) (l3 c3:Nat) (q4:Option Addr) (l4 c4 BB BD BC:Nat) (p10_1:Option Addr) (l10_1 c10_1:Nat) (p11_1:Option Addr) (l11_1 c11_1:Nat) (Z:St) (Q:Value->St->Prop):Prop:=∀ g:Nat->Value,∃ an,Hid (kAt Pg (zDC Pg 6) none (zR Pg 3) [1,1,1,1,1,1,1,0,1,0] (kFn Pg 3 Q) (.exit 0) ⟨Fm 272 (ov (zXZ bits BA q3 l3 c3 q4 l4 c4 BB BD BC p10_1 l10_1 c10_1 p11_1 l11_1 c11_1) g),[]⟩ Z an)
theorem xJY {P0:(Option Addr)->Nat->Nat->(Option Addr)->Nat->Nat->St->Prop} (h1:zJ Pg 4 [.agg ⟨trL t_0⟩] (Z.row (trL t_0) 5) (.bool true) (Z.row (trL t_0) 5)) (h2:zJ Pg 5 [.agg ⟨trL t_0⟩] (Z.row (trL t_0) 5) (iV n2) (Z.row (trL t_0) 5)) (h3:zJ Pg 7 [.agg ⟨trL t_0⟩,.slice l l_l l_c] (Z.row (trL t_0) 5) (.tuple ⟨[.slice q3 l3 c3,.slice q4 l4 c4,.bool true]⟩) Z6) (hL:zYC bits Z.y q3 l3 c3 q4 l4 c4 Z6.y (Z6.y+1) (Z6.y+2) none 0 0 none 0 0 0 (((Z6.row (xW 0 0 0 0) 1).row (xW 0 0 0 0) 1).row (xW 0 0 0 0) 1) P0) (k0:∀ p10_1' l10_1' c10_1' p11_1' l11_1' c11_1' Z',P0 p10_1' l10_1' c10_1' p11_1' l11_1' c11_1' Z'->zYG bits Z.y q3 l3 c3 q4 l4 c4 Z6.y (Z6.y+1) (Z6.y+2) p10_1' l10_1' c10_1' p11_1' l11_1' c11_1' Z' Q) (u1:¬ 40<((l_l:Nat):Int):=by omega) (u2:n2=0:=by omega):yCY Pg 6 3 [.agg ⟨trL t_0⟩,.slice l l_l l_c,.int .u64 bits] Z Q :=
 let s1:=Z.row (trL t_0) 5;let s2:=zPS bits Z.y q3 l3 c3 q4 l4 c4 Z6.y (Z6.y+1) (Z6.y+2) none 0 0 none 0 0 0;zOY [.g,.g,.l (.agg ⟨trL t_0⟩),.c (.bool true) s1,.g,.g,.g,.g,.b false,.g,.g,.l (.agg ⟨trL t_0⟩),.c (iV n2) s1,.b false,.g,.l (.agg ⟨trL t_0⟩),.g,.c (.tuple ⟨[.slice q3 l3 c3,.slice q4 l4 c4,.bool true]⟩) Z6,.g,.g,.g,.g,.g,.g,.g,.g,.g,.g,.g,.g,.g,.g,.g,.lf 272 s2 [zNM bits Z.y q3 l3 c3 q4 l4 c4 Z6.y (Z6.y+1) (Z6.y+2) P0]] (kc (by kernel_rfl) (an2 ((zI _ _ _).rw.ldN zHC zCH (k:=0) rfl rfl (nle rfl):zH Pg s1 24 ⟨Z.y,0,none⟩=some (.agg ⟨trL t_0⟩)) (zJ.top (aw:=6) h1) (an6 (zY u1) ((zI _ _ _).rw.ldN zHC zCH (k:=0) rfl rfl (nle rfl):zH Pg s1 24 ⟨Z.y,0,none⟩=some (.agg ⟨trL t_0⟩)) (zJ.top (aw:=6) h2) (xN u2) ((zI _ _ _).rw.ldN zHC zCH (k:=0) rfl rfl (nle rfl):zH Pg s1 24 ⟨Z.y,0,none⟩=some (.agg ⟨trL t_0⟩)) (zJ.top (aw:=6) h3) (And.intro (And.intro tt (And.intro (arf s2) hL)) (And.intro (fun (t:(Option Addr) × Nat × Nat × (Option Addr) × Nat × Nat) (g':Nat->Value) (Z':St) (q:P0 t.1 t.2.1 t.2.2.1 t.2.2.2.1 t.2.2.2.2.1 t.2.2.2.2.2 Z')=>k0 t.1 t.2.1 t.2.2.1 t.2.2.2.1 t.2.2.2.2.1 t.2.2.2.2.2 Z' q g') trivial)))))
theorem xJX (h1:zJ Pg 4 [.agg ⟨trL t_0⟩] (Z.row (trL t_0) 5) (.bool true) (Z.row (trL t_0) 5)) (h2:zJ Pg 5 [.agg ⟨trL t_0⟩] (Z.row (trL t_0) 5) (iV n2) (Z.row (trL t_0) 5)) (h3:zJ Pg 7 [.agg ⟨trL t_0⟩,.slice l l_l l_c] (Z.row (trL t_0) 5) (.tuple ⟨[.slice q3 l3 c3,.slice q4 l4 c4,.bool false]⟩) Z6) (nx:Q (.bool true) Z6) (u1:¬ 40<((l_l:Nat):Int):=by omega) (u2:n2=0:=by omega):yCY Pg 6 3 [.agg ⟨trL t_0⟩,.slice l l_l l_c,.int .u64 bits] Z Q :=
 let s1:=Z.row (trL t_0) 5;zOY [.g,.g,.l (.agg ⟨trL t_0⟩),.c (.bool true) s1,.g,.g,.g,.g,.b false,.g,.g,.l (.agg ⟨trL t_0⟩),.c (iV n2) s1,.b false,.g,.l (.agg ⟨trL t_0⟩),.g,.c (.tuple ⟨[.slice q3 l3 c3,.slice q4 l4 c4,.bool false]⟩) Z6,.g,.g,.g,.g,.g,.g,.g,.g,.g,.c (.bool true) Z6,.g] (kc (by kernel_rfl) (an3 ((zI _ _ _).rw.ldN zHC zCH (k:=0) rfl rfl (nle rfl):zH Pg s1 24 ⟨Z.y,0,none⟩=some (.agg ⟨trL t_0⟩)) (zJ.top (aw:=6) h1) (zY u1) (an6 ((zI _ _ _).rw.ldN zHC zCH (k:=0) rfl rfl (nle rfl):zH Pg s1 24 ⟨Z.y,0,none⟩=some (.agg ⟨trL t_0⟩)) (zJ.top (aw:=6) h2) (xN u2) ((zI _ _ _).rw.ldN zHC zCH (k:=0) rfl rfl (nle rfl):zH Pg s1 24 ⟨Z.y,0,none⟩=some (.agg ⟨trL t_0⟩)) (zJ.top (aw:=6) h3) (xGQ:uJ (zDC Pg 6) (.func 6) [] Z6 (.bool true) Z6) nx)))
theorem xJW (h1:zJ Pg 4 [.agg ⟨trL t_0⟩] (Z.row (trL t_0) 5) (.bool false) (Z.row (trL t_0) 5)) (nx:Q (.bool true) (Z.row (trL t_0) 5)):yCY Pg 6 3 [.agg ⟨trL t_0⟩,.slice l l_l l_c,.int .u64 bits] Z Q :=
 let s1:=Z.row (trL t_0) 5;zOY [.g,.g,.l (.agg ⟨trL t_0⟩),.c (.bool false) s1,.g,.g,.g,.g,.g,.c (.bool true) s1,.g] (kc (by kernel_rfl) (an3 ((zI _ _ _).rw.ldN zHC zCH (k:=0) rfl rfl (nle rfl):zH Pg s1 24 ⟨Z.y,0,none⟩=some (.agg ⟨trL t_0⟩)) (zJ.top (aw:=6) h1) (xGQ:uJ (zDC Pg 6) (.func 6) [] s1 (.bool true) s1) nx))
noncomputable def yMP:Code:=(Code.part [1,1,1,1,1,1,1,1,0,1,0,0] (zR Pg 3))
def zJY (BA:Nat) (q4:Option Addr) (l4 c4:Nat) (p10_1:Option Addr) (l10_1 c10_1 BB BD BC:Nat) (p11_2:Option Addr) (l11_2 c11_2:Nat) (i18_2:Int):List (Nat × Value):=[(3,.pointer (some ⟨BA,0,none⟩)),(8,.slice q4 l4 c4),(10,.slice p10_1 l10_1 c10_1),(11,.slice p11_2 l11_2 c11_2),(12,.pointer (some ⟨BB,0,none⟩)),(13,.pointer (some ⟨BD,0,none⟩)),(14,.pointer (some ⟨BC,0,none⟩)),(18,iV i18_2)]
def xCG (BA:Nat) (q4:Option Addr) (l4 c4:Nat) (p10_1:Option Addr) (l10_1 c10_1 BB BD BC:Nat) (Q:(Option Addr)->Nat->Nat->Int->St->Prop):Alt:=⟨(Option Addr) × Nat × Nat × Int,.normal,fun t=>zJY BA q4 l4 c4 p10_1 l10_1 c10_1 BB BD BC t.1 t.2.1 t.2.2.1 t.2.2.2,fun t=>[],fun t Z=>Q t.1 t.2.1 t.2.2.1 t.2.2.2 Z⟩
def zXY (BA:Nat) (q4:Option Addr) (l4 c4:Nat) (p10_1:Option Addr) (l10_1 c10_1 BB BD BC:Nat) (p11_2:Option Addr) (l11_2 c11_2:Nat):List (Nat × Value):=[(3,.pointer (some ⟨BA,0,none⟩)),(8,.slice q4 l4 c4),(10,.slice p10_1 l10_1 c10_1),(11,.slice p11_2 l11_2 c11_2),(14,.pointer (some ⟨BC,0,none⟩))]
def zNL (BA:Nat) (q4:Option Addr) (l4 c4:Nat) (p10_1:Option Addr) (l10_1 c10_1 BB BD BC:Nat) (Q:(Option Addr)->Nat->Nat->St->Prop):Alt:=⟨(Option Addr) × Nat × Nat,(.exit 2),fun t=>zXY BA q4 l4 c4 p10_1 l10_1 c10_1 BB BD BC t.1 t.2.1 t.2.2,fun t=>[],fun t Z=>Q t.1 t.2.1 t.2.2 Z⟩
def zYJ (BA:Nat) (q4:Option Addr) (l4 c4:Nat) (p10_1:Option Addr) (l10_1 c10_1 BB BD BC:Nat) (p11_2:Option Addr) (l11_2 c11_2:Nat) (i18_2:Int) (Z:St) (Nx:(Option Addr)->Nat->Nat->Int->St->Prop) (Q2:(Option Addr)->Nat->Nat->St->Prop):Prop:=xK Pg (zDC Pg 6) none yMP 272 (zJY BA q4 l4 c4 p10_1 l10_1 c10_1 BB BD BC p11_2 l11_2 c11_2 i18_2) [] [xCG BA q4 l4 c4 p10_1 l10_1 c10_1 BB BD BC Nx,zNL BA q4 l4 c4 p10_1 l10_1 c10_1 BB BD BC Q2] Z
def zYB (BA:Nat) (q4:Option Addr) (l4 c4:Nat) (p10_1:Option Addr) (l10_1 c10_1 BB BD BC:Nat) (p11_2:Option Addr) (l11_2 c11_2:Nat) (i18_2:Int) (Z:St) (Q2:(Option Addr)->Nat->Nat->St->Prop):Prop:=xO Pg (zDC Pg 6) none yMP 272 (zJY BA q4 l4 c4 p10_1 l10_1 c10_1 BB BD BC p11_2 l11_2 c11_2 i18_2) [] [zNL BA q4 l4 c4 p10_1 l10_1 c10_1 BB BD BC Q2] Z
theorem yML {Inv:Nat->(Option Addr)->Nat->Nat->Int->St->Prop} (hb:∀ k p11_2 l11_2 c11_2 i18_2 Z,Inv k p11_2 l11_2 c11_2 i18_2 Z->zYJ BA q4 l4 c4 p10_1 l10_1 c10_1 BB BD BC p11_2 l11_2 c11_2 i18_2 Z (NX4 Inv k) Q2):∀ k p11_2 l11_2 c11_2 i18_2 Z,Inv k p11_2 l11_2 c11_2 i18_2 Z->zYB BA q4 l4 c4 p10_1 l10_1 c10_1 BB BD BC p11_2 l11_2 c11_2 i18_2 Z Q2 :=
 zAS (And.intro (vN 2) trivial) hb
theorem xCA {lFB cEB:Nat} {qEB:Option Addr} {nR nZ:Int} {ZP:St} {Nx:(Option Addr)->Nat->Nat->Int->St->Prop} (h1:zH Pg Z 3 ⟨BD,0+Int.toNat i18_2*1,none⟩=some (iV nR)) (h2:zH Pg Z 3 ⟨BB,0+Int.toNat i18_2*1,none⟩=some (iV nZ)) (h3:yA Pg 32 32 (.slice p11_2 l11_2 c11_2) (.slice (some ⟨Z.y,0,none⟩) 1 1) (Z.row (rcd i18_2 (nR+1) (10*nR) 2 nR nZ) 6)=some (.slice qEB lFB cEB,ZP)) (nx:Nx qEB lFB cEB (i18_2+1) ZP) (u1:i18_2<4:=by omega) (u2:Ix i18_2 4:=by omega) (u3:I6 (nR+1):=by omega) (u4:I6 (10*nR):=by omega) (u5:I6 (i18_2+1):=by omega):zYJ BA q4 l4 c4 p10_1 l10_1 c10_1 BB BD BC p11_2 l11_2 c11_2 i18_2 Z Nx Q2 :=
 kO 0 (qEB,lFB,cEB,i18_2+1) [.g,.b true,.g,.g,.g,.i,.l (iV nR),.n (nR+1),.g,.i,.l (iV nR),.n (10*nR),.g,.i,.l (iV nR),.g,.i,.l (iV nZ),.g,.g,.e (.slice qEB lFB cEB) ZP,.g,.g,.n (i18_2+1),.g] (fun _ f=>(And.intro (zU u1) (an6 u2 h1 (w64 u3) u2 h1 (w64 u4) (an6 u2 h1 u2 h2 h3 (w64 u5) f)))) nx
theorem xBZ {Nx:(Option Addr)->Nat->Nat->Int->St->Prop} (nx:Q2 p11_2 l11_2 c11_2 Z) (u1:¬ i18_2<4:=by omega):zYJ BA q4 l4 c4 p10_1 l10_1 c10_1 BB BD BC p11_2 l11_2 c11_2 i18_2 Z Nx Q2 :=
 kO 1 (p11_2,l11_2,c11_2) [.g,.b false] (fun _ f=>(And.intro (zY u1) f)) nx
def zYF (BA:Nat) (q4:Option Addr) (l4 c4:Nat) (p10_1:Option Addr) (l10_1 c10_1 BB BD BC:Nat) (p11_2:Option Addr) (l11_2 c11_2:Nat) (Z:St) (Q:Value->St->Prop):Prop:=∀ g:Nat->Value,∃ an,Hid (kAt Pg (zDC Pg 6) none (zR Pg 3) [1,1,1,1,1,1,1,1,0,1,0] (kFn Pg 3 Q) (.exit 2) ⟨Fm 272 (ov (zXY BA q4 l4 c4 p10_1 l10_1 c10_1 BB BD BC p11_2 l11_2 c11_2) g),[]⟩ Z an)
theorem yMI {P2:(Option Addr)->Nat->Nat->St->Prop} (hL:zYB BA q4 l4 c4 p10_1 l10_1 c10_1 BB BD BC p11_1 l11_1 c11_1 0 Z P2) (k2:∀ p11_2' l11_2' c11_2' Z',P2 p11_2' l11_2' c11_2' Z'->zYF BA q4 l4 c4 p10_1 l10_1 c10_1 BB BD BC p11_2' l11_2' c11_2' Z' Q):zYG bits BA q3 l3 c3 q4 l4 c4 BB BD BC p10_1 l10_1 c10_1 p11_1 l11_1 c11_1 Z Q :=
 sK [.g,.lf 272 (zJY BA q4 l4 c4 p10_1 l10_1 c10_1 BB BD BC p11_1 l11_1 c11_1 0) [zNL BA q4 l4 c4 p10_1 l10_1 c10_1 BB BD BC P2]] (And.intro (And.intro tt (And.intro (arf (zJY BA q4 l4 c4 p10_1 l10_1 c10_1 BB BD BC p11_1 l11_1 c11_1 0)) hL)) (And.intro (fun (t:(Option Addr) × Nat × Nat) (g':Nat->Value) (Z':St) (q:P2 t.1 t.2.1 t.2.2 Z')=>k2 t.1 t.2.1 t.2.2 Z' q g') trivial))
noncomputable def yMO:Code:=(Code.part [1,1,1,1,1,1,1,1,1,1,1,1,1,1,1,1,0,1,0,0] (zR Pg 3))
def zPR (BC:Nat) (qA:Option Addr) (lA cA:Nat) (qD:Option Addr) (lE cE BE BG:Nat) (i30_3:Int):List (Nat × Value):=[(14,.pointer (some ⟨BC,0,none⟩)),(19,.slice qA lA cA),(26,.slice qD lE cE),(28,.pointer (some ⟨BE,0,none⟩)),(29,.pointer (some ⟨BG,0,none⟩)),(30,iV i30_3)]
def xCF (BC:Nat) (qA:Option Addr) (lA cA:Nat) (qD:Option Addr) (lE cE BE BG:Nat) (Q:Int->St->Prop):Alt:=⟨Int,.normal,fun t=>zPR BC qA lA cA qD lE cE BE BG t,fun t=>[],fun t Z=>Q t Z⟩
def zXW (BC:Nat) (qA:Option Addr) (lA cA:Nat) (qD:Option Addr) (lE cE BE BG:Nat) (t6_3:Bool):List (Nat × Value):=[(6,.bool t6_3)]
def zNJ (BC:Nat) (qA:Option Addr) (lA cA:Nat) (qD:Option Addr) (lE cE BE BG:Nat) (Q:Bool->St->Prop):Alt:=⟨Bool,.ret,fun t=>zXW BC qA lA cA qD lE cE BE BG t,fun t=>[],fun t Z=>Q t Z⟩
def zXX (BC:Nat) (qA:Option Addr) (lA cA:Nat) (qD:Option Addr) (lE cE BE BG:Nat):List (Nat × Value):=[(14,.pointer (some ⟨BC,0,none⟩)),(19,.slice qA lA cA),(28,.pointer (some ⟨BE,0,none⟩)),(29,.pointer (some ⟨BG,0,none⟩))]
def zNK (BC:Nat) (qA:Option Addr) (lA cA:Nat) (qD:Option Addr) (lE cE BE BG:Nat) (Q:St->Prop):Alt:=⟨Unit,(.exit 4),fun t=>zXX BC qA lA cA qD lE cE BE BG,fun t=>[],fun t Z=>Q Z⟩
def zYI (BC:Nat) (qA:Option Addr) (lA cA:Nat) (qD:Option Addr) (lE cE BE BG:Nat) (i30_3:Int) (Z:St) (Nx:Int->St->Prop) (Qr:Bool->St->Prop) (Q4:St->Prop):Prop:=xK Pg (zDC Pg 6) none yMO 272 (zPR BC qA lA cA qD lE cE BE BG i30_3) [] [xCF BC qA lA cA qD lE cE BE BG Nx,zNJ BC qA lA cA qD lE cE BE BG Qr,zNK BC qA lA cA qD lE cE BE BG Q4] Z
def zYA (BC:Nat) (qA:Option Addr) (lA cA:Nat) (qD:Option Addr) (lE cE BE BG:Nat) (i30_3:Int) (Z:St) (Qr:Bool->St->Prop) (Q4:St->Prop):Prop:=xO Pg (zDC Pg 6) none yMO 272 (zPR BC qA lA cA qD lE cE BE BG i30_3) [] [zNJ BC qA lA cA qD lE cE BE BG Qr,zNK BC qA lA cA qD lE cE BE BG Q4] Z
theorem yMK (hb:∀ k i30_3 Z,Inv k i30_3 Z->zYI BC qA lA cA qD lE cE BE BG i30_3 Z (NX1 Inv k) Qr Q4):∀ k i30_3 Z,Inv k i30_3 Z->zYA BC qA lA cA qD lE cE BE BG i30_3 Z Qr Q4 :=
 uH (And.intro zAW (And.intro (vN 4) trivial)) hb
theorem xBY {nBE nBT nBU nBV nBW nBX:Int} {qD_a:Addr} {ZCB ZBC:St} (h1:zH Pg Z 3 (zS qD_a ((Int.toNat i30_3*5)+0))=some (iV nBE)) (h2:zH Pg Z 3 ⟨BE,0+Int.toNat nBE*1,none⟩=some (iV nBT)) (h3:zH Pg Z 3 (zS qD_a ((Int.toNat i30_3*5)+3))=some (iV nBU)) (h4:zN Pg (evL [.pointer (some ⟨BE,0+Int.toNat nBE*1,none⟩),iV (nBT+nBU)]) Z (.store 3 (.tmp 0) (.tmp 1))=some (undef,ZCB)) (h5:zH Pg ZCB 3 (zS qD_a ((Int.toNat i30_3*5)+0))=some (iV nBV)) (h6:zH Pg ZCB 3 ⟨BG,0+Int.toNat nBV*1,none⟩=some (iV nBW)) (h7:zH Pg ZCB 3 (zS qD_a ((Int.toNat i30_3*5)+4))=some (iV nBX)) (h8:zN Pg (evL [.pointer (some ⟨BG,0+Int.toNat nBV*1,none⟩),iV (nBW+nBX)]) ZCB (.store 3 (.tmp 0) (.tmp 1))=some (undef,ZBC)) (nx:Nx (i30_3+1) ZBC) (u1:i30_3<((lE:Nat):Int):=by omega) (u2:Ix i30_3 lE:=by omega) (u3:¬ nBE<0:=by omega) (u4:¬ 3<nBE:=by omega) (u5:Ix nBE 4:=by omega) (u6:I6 (nBT+nBU):=by omega) (u7:Ix nBV 4:=by omega) (u8:I6 (nBW+nBX):=by omega) (u9:I6 (i30_3+1):=by omega):zYI BC qA lA cA (some qD_a) lE cE BE BG i30_3 Z Nx Qr Q4 :=
 kO 0 (i30_3+1) [.g,.g,.g,.b true,.g,.g,.i,.g,.l (iV nBE),.b false,.g,.g,.g,.i,.g,.l (iV nBE),.b false,.g,.g,.g,.i,.g,.l (iV nBE),.i,.l (iV nBT),.g,.g,.i,.g,.l (iV nBU),.n (nBT+nBU),.i,.e undef ZCB,.g,.g,.i,.g,.l (iV nBV),.i,.l (iV nBW),.g,.g,.i,.g,.l (iV nBX),.n (nBW+nBX),.i,.e undef ZBC,.g,.n (i30_3+1),.g] (fun _ f=>(an2 (zU u1) u2 (an6 h1 (zY u3) u2 h1 (zY u4) u2 (an6 h1 u5 h2 u2 h3 (w64 u6) (an6 u5 h4 u2 h5 u7 h6 (an6 u2 h7 (w64 u8) u7 h8 (w64 u9) f)))))) nx
theorem xBX (nx:Q4 Z) (u1:¬ i30_3<((lE:Nat):Int):=by omega):zYI BC qA lA cA qD lE cE BE BG i30_3 Z Nx Qr Q4 :=
 kO 2 () [.g,.g,.g,.b false] (fun _ f=>(And.intro (zY u1) f)) nx
def yUJ (BC:Nat) (qA:Option Addr) (lA cA:Nat) (qD:Option Addr) (lE cE BE BG:Nat) (t6_3:Bool) (Z:St) (Q:Value->St->Prop):Prop:=∀ g:Nat->Value,∃ an,Hid (kAt Pg (zDC Pg 6) none (zR Pg 3) [1,1,1,1,1,1,1,1,1,1,1,1,1,1,1,1,0,1,0] (kFn Pg 3 Q) .ret ⟨Fm 272 (ov (zXW BC qA lA cA qD lE cE BE BG t6_3) g),[]⟩ Z an)
def zYE (BC:Nat) (qA:Option Addr) (lA cA:Nat) (qD:Option Addr) (lE cE BE BG:Nat) (Z:St) (Q:Value->St->Prop):Prop:=∀ g:Nat->Value,∃ an,Hid (kAt Pg (zDC Pg 6) none (zR Pg 3) [1,1,1,1,1,1,1,1,1,1,1,1,1,1,1,1,0,1,0] (kFn Pg 3 Q) (.exit 4) ⟨Fm 272 (ov (zXX BC qA lA cA qD lE cE BE BG) g),[]⟩ Z an)
theorem yMH {lQB cNB lRB cOB lSB cPB lTB cQB lGB cRB:Nat} {qNB qOB qPB qQB qRB:Option Addr} {T2875 T2876:Trf} {ZCC ZDC ZEC ZFC ZGC ZHC ZIC ZN:St} {nBs nBt nBu nBv nBw:Int} {P4:St->Prop} (h1:zH Pg Z 24 ⟨BA,0,none⟩=some (.agg ⟨trL T2875⟩)) (h2:zJ Pg 9 [.agg ⟨trL T2875⟩] Z (.agg ⟨trL T2876⟩) ZCC) (h3:zJ Pg 10 [.slice p10_1 l10_1 c10_1] ZCC (.slice qNB lQB cNB) ZDC) (h4:yA Pg 22 22 (.slice none 0 0) (.slice q4 l4 c4) ZDC=some (.slice qOB lRB cOB,ZEC)) (h5:zJ Pg 8 [.agg ⟨trL T2876⟩,.slice qNB lQB cNB,.slice qOB lRB cOB] ZEC (.tuple ⟨[.slice qA lA cA,iV nBs]⟩) ZFC) (h6:zJ Pg 12 [.slice p11_2 l11_2 c11_2] ZFC (.slice qPB lSB cPB) ZGC) (h7:zJ Pg 11 [.slice qPB lSB cPB] ZGC (.tuple ⟨[.slice qQB lTB cQB,iV nBt]⟩) ZHC) (h8:zJ Pg 13 [.slice qQB lTB cQB] ZHC (.tuple ⟨[.slice qRB lGB cRB,iV nBu,iV nBv]⟩) ZIC) (h9:zJ Pg 14 [.slice qRB lGB cRB] ZIC (.tuple ⟨[.slice qD lE cE,iV nBw]⟩) ZN) (hL:zYA BC qA lA cA qD lE cE ZN.y (ZN.y+1) 0 ((ZN.row (xW 0 0 0 0) 1).row (xW 0 0 0 0) 1) Pr P4) (kr:∀ t6_3' Z',Pr t6_3' Z'->yUJ BC qA lA cA qD lE cE ZN.y (ZN.y+1) t6_3' Z' Q) (k4:∀ Z',P4 Z'->zYE BC qA lA cA qD lE cE ZN.y (ZN.y+1) Z' Q) (u1:nBs=0:=by omega) (u2:nBt=0:=by omega) (u3:nBv=0:=by omega) (u4:nBu=0:=by omega) (u5:((lGB:Nat):Int)=((l11_2:Nat):Int):=by omega) (u6:((lA:Nat):Int)=4:=by omega) (u7:nBw=0:=by omega):zYF BA q4 l4 c4 p10_1 l10_1 c10_1 BB BD BC p11_2 l11_2 c11_2 Z Q :=
 let s1:=zPR BC qA lA cA qD lE cE ZN.y (ZN.y+1) 0;sK [.l (.agg ⟨trL T2875⟩),.c (.agg ⟨trL T2876⟩) ZCC,.g,.c (.slice qNB lQB cNB) ZDC,.g,.e (.slice qOB lRB cOB) ZEC,.c (.tuple ⟨[.slice qA lA cA,iV nBs]⟩) ZFC,.g,.g,.g,.g,.g,.g,.c (.slice qPB lSB cPB) ZGC,.c (.tuple ⟨[.slice qQB lTB cQB,iV nBt]⟩) ZHC,.g,.g,.g,.g,.g,.g,.c (.tuple ⟨[.slice qRB lGB cRB,iV nBu,iV nBv]⟩) ZIC,.g,.g,.g,.g,.g,.g,.g,.g,.b false,.g,.g,.b false,.g,.g,.g,.b false,.g,.g,.g,.b false,.g,.g,.g,.g,.g,.g,.b false,.g,.g,.g,.g,.b false,.g,.g,.c (.tuple ⟨[.slice qD lE cE,iV nBw]⟩) ZN,.g,.g,.g,.g,.g,.g,.b false,.g,.g,.g,.lf 272 s1 [zNJ BC qA lA cA qD lE cE ZN.y (ZN.y+1) Pr,zNK BC qA lA cA qD lE cE ZN.y (ZN.y+1) P4]] (an4 h1 (zJ.top (aw:=6) h2) (zJ.top (aw:=6) h3) h4 (an6 (zJ.top (aw:=6) h5) (zJ.top (aw:=6) h6) (zJ.top (aw:=6) h7) (zJ.top (aw:=6) h8) (xN u1) (xN u2) (an6 (xN u3) (xN u4) (xN u5) (xN u6) (zJ.top (aw:=6) h9) (xN u7) (And.intro (And.intro tt (And.intro (arf s1) hL)) (And.intro (fun (t:Bool) (g':Nat->Value) (Z':St) (q:Pr t Z')=>kr t Z' q g') (And.intro (fun (t:Unit) (g':Nat->Value) (Z':St) (q:P4 Z')=>k4 Z' q g') trivial))))))
noncomputable def yMN:Code:=(Code.part [1,1,1,1,1,1,1,1,1,1,1,1,1,1,1,1,1,0,1,0,0] (zR Pg 3))
def zJX (BC:Nat) (qA:Option Addr) (lA cA BE BG:Nat) (i31_4:Int):List (Nat × Value):=[(14,.pointer (some ⟨BC,0,none⟩)),(19,.slice qA lA cA),(28,.pointer (some ⟨BE,0,none⟩)),(29,.pointer (some ⟨BG,0,none⟩)),(31,iV i31_4)]
def xCE (BC:Nat) (qA:Option Addr) (lA cA BE BG:Nat) (Q:Int->St->Prop):Alt:=⟨Int,.normal,fun t=>zJX BC qA lA cA BE BG t,fun t=>[],fun t Z=>Q t Z⟩
def zXU (BC:Nat) (qA:Option Addr) (lA cA BE BG:Nat) (t6_4:Bool):List (Nat × Value):=[(6,.bool t6_4)]
def zNH (BC:Nat) (qA:Option Addr) (lA cA BE BG:Nat) (Q:Bool->St->Prop):Alt:=⟨Bool,.ret,fun t=>zXU BC qA lA cA BE BG t,fun t=>[],fun t Z=>Q t Z⟩
def zXV (BC:Nat) (qA:Option Addr) (lA cA BE BG:Nat):List (Nat × Value):=[]
def zNI (BC:Nat) (qA:Option Addr) (lA cA BE BG:Nat) (Q:St->Prop):Alt:=⟨Unit,(.exit 6),fun t=>zXV BC qA lA cA BE BG,fun t=>[],fun t Z=>Q Z⟩
def zYH (BC:Nat) (qA:Option Addr) (lA cA BE BG:Nat) (i31_4:Int) (Z:St) (Nx:Int->St->Prop) (Qr:Bool->St->Prop) (Q6:St->Prop):Prop:=xK Pg (zDC Pg 6) none yMN 272 (zJX BC qA lA cA BE BG i31_4) [] [xCE BC qA lA cA BE BG Nx,zNH BC qA lA cA BE BG Qr,zNI BC qA lA cA BE BG Q6] Z
def yMR (BC:Nat) (qA:Option Addr) (lA cA BE BG:Nat) (i31_4:Int) (Z:St) (Qr:Bool->St->Prop) (Q6:St->Prop):Prop:=xO Pg (zDC Pg 6) none yMN 272 (zJX BC qA lA cA BE BG i31_4) [] [zNH BC qA lA cA BE BG Qr,zNI BC qA lA cA BE BG Q6] Z
theorem yMJ (hb:∀ k i31_4 Z,Inv k i31_4 Z->zYH BC qA lA cA BE BG i31_4 Z (NX1 Inv k) Qr Q6):∀ k i31_4 Z,Inv k i31_4 Z->yMR BC qA lA cA BE BG i31_4 Z Qr Q6 :=
 uH (And.intro zAW (And.intro (vN 6) trivial)) hb
theorem xBW {lUB cTB:Nat} {nAC nBG nBH:Int} {qA_a:Addr} {qTB:Option Addr} (h1:zH Pg Z 3 ⟨BE,0+Int.toNat i31_4*1,none⟩=some (iV nAC)) (h2:zH Pg Z 22 (zS qA_a (Int.toNat i31_4*1))=some (.slice qTB lUB cTB)) (h3:zH Pg Z 3 ⟨BG,0+Int.toNat i31_4*1,none⟩=some (iV nBG)) (h4:zH Pg Z 3 ⟨BC,0+Int.toNat i31_4*1,none⟩=some (iV nBH)) (nx:Nx (i31_4+1) Z) (u1:i31_4<4:=by omega) (u2:Ix i31_4 4:=by omega) (u3:Ix i31_4 lA:=by omega) (u4:nAC=((lUB:Nat):Int):=by omega) (u5:nBG=nBH:=by omega) (u6:I6 (i31_4+1):=by omega):zYH BC (some qA_a) lA cA BE BG i31_4 Z Nx Qr Q6 :=
 kO 0 (i31_4+1) [.g,.b true,.g,.i,.l (iV nAC),.g,.g,.i,.l (.slice qTB lUB cTB),.g,.b false,.g,.g,.i,.l (iV nBG),.g,.i,.l (iV nBH),.b false,.g,.g,.n (i31_4+1),.g] (fun _ f=>(an6 (zU u1) u2 h1 u3 h2 (xN u4) (an6 u2 h3 u2 h4 (xN u5) (w64 u6) f))) nx
theorem xBV (nx:Q6 Z) (u1:¬ i31_4<4:=by omega):zYH BC qA lA cA BE BG i31_4 Z Nx Qr Q6 :=
 kO 2 () [.g,.b false] (fun _ f=>(And.intro (zY u1) f)) nx
def yUI (BC:Nat) (qA:Option Addr) (lA cA BE BG:Nat) (t6_4:Bool) (Z:St) (Q:Value->St->Prop):Prop:=∀ g:Nat->Value,∃ an,Hid (kAt Pg (zDC Pg 6) none (zR Pg 3) [1,1,1,1,1,1,1,1,1,1,1,1,1,1,1,1,1,0,1,0] (kFn Pg 3 Q) .ret ⟨Fm 272 (ov (zXU BC qA lA cA BE BG t6_4) g),[]⟩ Z an)
def zYD (BC:Nat) (qA:Option Addr) (lA cA BE BG:Nat) (Z:St) (Q:Value->St->Prop):Prop:=∀ g:Nat->Value,∃ an,Hid (kAt Pg (zDC Pg 6) none (zR Pg 3) [1,1,1,1,1,1,1,1,1,1,1,1,1,1,1,1,1,0,1,0] (kFn Pg 3 Q) (.exit 6) ⟨Fm 272 (ov (zXV BC qA lA cA BE BG) g),[]⟩ Z an)
theorem yMG {P6:St->Prop} (hL:yMR BC qA lA cA BE BG 0 Z Pr P6) (kr:∀ t6_4' Z',Pr t6_4' Z'->yUI BC qA lA cA BE BG t6_4' Z' Q) (k6:∀ Z',P6 Z'->zYD BC qA lA cA BE BG Z' Q):zYE BC qA lA cA qD lE cE BE BG Z Q :=
 sK [.g,.lf 272 (zJX BC qA lA cA BE BG 0) [zNH BC qA lA cA BE BG Pr,zNI BC qA lA cA BE BG P6]] (And.intro (And.intro tt (And.intro (arf (zJX BC qA lA cA BE BG 0)) hL)) (And.intro (fun (t:Bool) (g':Nat->Value) (Z':St) (q:Pr t Z')=>kr t Z' q g') (And.intro (fun (t:Unit) (g':Nat->Value) (Z':St) (q:P6 Z')=>k6 Z' q g') trivial)))
theorem yMF (nx:Q (.bool true) Z):zYD BC qA lA cA BE BG Z Q :=
 sK [.c (.bool true) Z,.g] (And.intro (xGQ:uJ (zDC Pg 6) (.func 6) [] Z (.bool true) Z) nx)
end
theorem xXI {x z:Int} {o1 o2:Operand} (hz:0<=z):∃ y,uP Tryz.prog .shr 26 o1 o2 (.int .u64 x) (.int .u64 z)=some (.int .u64 y):=by
 refine ⟨x.fdiv (2 ^ (min z.toNat IntKind.u64.bits)), ?_⟩
 have e:Op.shift .shr .u64 x .u64 z=pure (.int .u64 (x.fdiv (2 ^ (min z.toNat IntKind.u64.bits)))):=by unfold Op.shift;rw [if_neg (by omega)]
 show ((yJ Tryz.prog (do eqGuard .shr 26 o1 o2 (.int .u64 x) (.int .u64 z);Op.shift .shr .u64 x .u64 z)).filter (zQ RD))=_;rw [e];rfl
theorem xVV {j:Nat} (hj:j<=1000):vV .u64 (j:Int)=j:=by
 have e1:(2:Int) ^ 64=18446744073709551616:=by decide
 rw [zEK];simp only [IntKind.wrap,IntKind.bits,IntKind.signed,e1,Bool.false_and,Bool.false_eq_true,if_false];omega
section
variable {Z U:St} {A B C:List Int} {all ks ls:List Tp} {T:Trf} {p p1:Option Addr} {l c c1:Nat}
theorem zWX (hok:okT T A B C=true) {x:Tp} (hg:zML T.z x):(0<=x.r.b-x.r.a/\x.r.b-x.r.a<(A.length:Int)/\A.length<=4)/\0<=prT A x/\prT A x<=10000:=by
 unfold okT prB at hok;obtain ⟨_,hr⟩:=hg;unfold zJZ at hr;simp only [Bool.and_eq_true,decide_eq_true_eq,wD] at hok hr;obtain ⟨hz,_,⟨ha,hl⟩,_⟩:=hok;have hi:(x.r.b-x.r.a).toNat<A.length:=by omega
 have e:prT A x=A[(x.r.b-x.r.a).toNat]:=by unfold prT;rw [List.getD_eq_getElem?_getD,List.getElem?_eq_getElem hi];rfl
 have:=wD.1 (List.all_eq_true.1 ha _ (List.getElem_mem hi));rw [e];omega
structure TdI (s0 U:St) (A:List Int) (ts ks ls:List Tp) (p:Option Addr) (c:Nat) (p1:Option Addr) (c1:Nat):Prop where
 spl:Split A ts ks ls
 new:New s0 U
 nx:s0.y+3<=U.y
 kn:Gr Tryz.prog U (s0.y+3) 37 7 p ks.length c (ks.map tpV)
 lg:Gr Tryz.prog U (s0.y+3) 40 6 p1 ks.length c1 ((ks.map (zGB A)).map xT)
 co:Own U s0.y (vX 4 fun m=>uK A ts m) 1
 so:Own U (s0.y+1) (vX 4 fun m=>(xF ts m:Int)) 1
 lo:Own U (s0.y+2) (vX 4 fun m=>uK A ls m) 1
 ne:∀ b,AtP p b->¬ AtP p1 b
theorem xWA {s1 s0:St} {q q4:Option Addr} {l4 c4 d:Nat} {bits:Int} (hT:TrfP s0 T A B C) (hok:okT T A B C=true) (oT:Own s0 Z.y (trL T) 5) (hx:zDV s0 37 q l all) (hl:l<=40) (hm:∀ x∈all,0<=x.m/\x.m<=3) (hg:∀ x∈all,zML T.z x) (hn:Nmd all) :
  zYC bits Z.y q l d q4 l4 c4 s0.y (s0.y+1) (s0.y+2) none 0 0 none 0 0 0 (((s0.row (xW 0 0 0 0) 1).row (xW 0 0 0 0) 1).row (xW 0 0 0 0) 1)
   (fun p l c p1 l1 c1 U=>∃ ks ls,l=ks.length/\l1=ks.length/\TdI s0 U A all ks ls p c p1 c1):=by
 have hlen:=vK hx;obtain ⟨s2,hs2⟩:∃ s2,s2=((s0.row (xW 0 0 0 0) 1).row (xW 0 0 0 0) 1).row (xW 0 0 0 0) 1:=⟨_,rfl⟩;have I0:TdI s0 s2 A (all.take 0) [] [] none 0 none 0:=by
  refine ⟨⟨.refl _,fun m=>rfl,fun m=>rfl,by simp⟩,by rw [hs2];exact ((New.row _ _ _).row').row',by rw [hs2];exact Nat.le_refl _,Gr.nil,Gr.nil, ?_, ?_, ?_,fun b hb=>(AtP.none hb).elim⟩
  ·rw [hs2];exact ((zI s0 (xW 0 0 0 0) 1).row).row
  ·rw [hs2];exact (zI (s0.row (xW 0 0 0 0) 1) (xW 0 0 0 0) 1).row
  ·rw [hs2];exact zI ((s0.row (xW 0 0 0 0) 1).row (xW 0 0 0 0) 1) (xW 0 0 0 0) 1
 rw [<- hs2];refine yMM (Inv:=fun k p l' c p1 l1 c1 i U=>∃ (s:Nat) (ks ls:List Tp),i=s/\s+k=l/\l'=ks.length/\l1=ks.length/\ks.length<=s/\TdI s0 U A (all.take s) ks ls p c p1 c1) ?_ l none 0 0 none 0 0 0 s2 ⟨0,[],[],rfl,by omega,rfl,rfl,by simp,I0⟩;rintro k p l' c p1 l1 c1 i U ⟨s,ks,ls,rfl,hk,rfl,rfl,hkl,hS,hN,hnx,gK,gL,oC,oS,oL,hne⟩;by_cases hs:s<l;rotate_left
 ·rw [List.take_of_length_le (by omega)] at hS oC oS;exact xCB ⟨ks,ls,rfl,rfl,hS,hN,hnx,gK,gL,oC,oS,oL,hne⟩ (by omega)
 obtain ⟨a,rfl,x,hxs,ld⟩:=wS (SlV.le hx hN.le) hs;have hxm:=List.mem_of_getElem? hxs;obtain ⟨m0,m3⟩:=hm x hxm;obtain ⟨⟨i0,i1,i4⟩,p0,p4⟩:=zWX hok (hg x hxm);have hts:all.take (s+1)=all.take s++[x]:=yM hxs;have hxn:=hn.lt hxs;have hcl:=zCZ (xs:=all) (m:=x.m);have hpr:∀ y∈all.take s,0<=prT A y/\prT A y<=10000:=fun y hy=>(zWX hok (hg y (List.mem_of_mem_take hy))).2
 have hsb:=zHM (m:=x.m) _ hpr;have hcs:=zCZ (xs:=all.take s) (m:=x.m);have hlb:=zHM (m:=x.m) ls hS.prl;have hcc:=hS.cnt x.m;rw [List.length_take] at hcs;obtain ⟨z1,hz1⟩:∃ z1,z1=(U.row (yH 0 0 0 0 0 0 0) 7).own U.y (tpL x) 7:=⟨_,rfl⟩;have N1:New U z1:=by rw [hz1];exact (New.row _ _ _).own (Nat.le_refl _)
 have n1:z1.y=U.y+1:=by rw [hz1];rfl
 have ox:Own z1 U.y (tpL x) 7:=by rw [hz1];exact (zI U (yH 0 0 0 0 0 0 0) 7).put
 have L1:=hN.le.trans N1.le;have lT:=(oT.le L1).ld (P:=Tryz.prog) (t:=22) (k:=1) rfl vQ rfl;obtain ⟨a2,ha2,n,hn2,lp⟩:=wS (i:=(x.r.b-x.r.a).toNat) (SlV.le hT.a L1) (by have:=vK hT.a;omega);have hn3:n=prT A x:=by unfold prT;rw [List.getD_eq_getElem?_getD,hn2];rfl
 subst hn3;rw [Int.toNat_of_nonneg i0] at lp;rw [ha2] at lT;have hTl:T.pl=A.length:=(vK hT.a).symm;have l4:=zAJ (oC.le N1.le) m0 (by omega);simp only [Int.toNat_of_nonneg m0] at l4;have up:∀ (us:List Tp),∀ k:Nat,k<4->uK A (us++[x]) k=if (k:Int)=x.m then uK A us x.m+prT A x else uK A us k:=fun us k _=>by
  rw [zCG];by_cases e:x.m=(k:Int)
  ·rw [if_pos e,if_pos e.symm,e]
  ·rw [if_neg e,if_neg (fun h=>e h.symm)];omega
 have t5:=zLS (g:=fun m=>uK A (all.take (s+1)) m) (z:=uK A (all.take s) x.m+prT A x) (oC.le N1.le) m0 (by omega) (by rw [hts];exact up _);obtain ⟨z5,hz5⟩:∃ z5,z5=z1.own s0.y (vX 4 fun m=>uK A (all.take (s+1)) m) 1:=⟨_,rfl⟩;have oC5:Own z5 s0.y (vX 4 fun m=>uK A (all.take (s+1)) m) 1:=by rw [hz5];exact (oC.le N1.le).put
 have K5:Only (·=s0.y) z1 z5:=by rw [hz5];exact Only.own (.inr rfl)
 rw [<- hz5] at t5;have oS5:=K5.own' (oS.le N1.le) (by omega);have oL5:=K5.own' (oL.le N1.le) (by omega);have x5:=K5.own' ox (by omega);have l7:=zAJ oS5 m0 (by omega);simp only [Int.toNat_of_nonneg m0] at l7;have t8:=zLS (g:=fun m=>(xF (all.take (s+1)) m:Int)) (z:=(xF (all.take s) x.m:Int)+1) oS5 m0 (by omega) (fun k _=>by
  rw [hts,zAN];by_cases e:x.m=(k:Int)
  ·rw [if_pos e,if_pos e.symm,e];omega
  ·rw [if_neg e,if_neg (fun h=>e h.symm)];omega)
 obtain ⟨z7,hz7⟩:∃ z7,z7=z5.own (s0.y+1) (vX 4 fun m=>(xF (all.take (s+1)) m:Int)) 1:=⟨_,rfl⟩;have oS7:Own z7 (s0.y+1) (vX 4 fun m=>(xF (all.take (s+1)) m:Int)) 1:=by rw [hz7];exact oS5.put
 have K7:Only (·=s0.y+1) z5 z7:=by rw [hz7];exact Only.own (.inr rfl)
 rw [<- hz7] at t8;have oC7:=K7.own' oC5 (by omega);have oL7:=K7.own' oL5 (by omega);have x7:=K7.own' x5 (by omega);have n7:z7.y=U.y+1:=by rw [hz7,hz5];exact n1
 have KK:Only (fun b=>b=s0.y\/b=s0.y+1) z1 z7:=(K5.mono (T:=fun b=>b=s0.y\/b=s0.y+1) fun b _ e=>.inl e).trans' K7 fun b _ e=>.inl (.inr e)
 have N7:New s0 z7:=(hN.trans N1).of_only KK (fun b e=>by rcases e with e | e <;> omega);have fK:∀ b,AtP p b->s0.y+3<=b:=fun b hb=>(gK.bd hb).1
 have fL:∀ b,AtP p1 b->s0.y+3<=b:=fun b hb=>(gL.bd hb).1
 have gK7:=(gK.le N1.le).only KK (fun b hb e=>by have:=fK b hb;rcases e with e | e <;> omega);have gL7:=(gL.le N1.le).only KK (fun b hb e=>by have:=fL b hb;rcases e with e | e <;> omega);have w9:vV .u64 (s:Int)=(s:Int):=xVV (by omega);obtain ⟨n9,sh⟩:=xXI (x:=bits) (z:=(s:Int)) (o1:=.tmp 90) (o2:=.tmp 92) (by omega);have xm:∀ z,Own z U.y (tpL x) 7->zH Tryz.prog z 3 ⟨U.y,0,none⟩=some (iV x.m):=fun z hz=>hz.ld rfl zT rfl
 by_cases h9:Int.tmod n9 2=1
 ·have l12:=zAJ oL7 m0 (by omega);simp only [Int.toNat_of_nonneg m0] at l12;have t13:=zLS (g:=fun m=>uK A (ls++[x]) m) (z:=uK A ls x.m+prT A x) oL7 m0 (by omega) (up _);obtain ⟨z9,hz9⟩:∃ z9,z9=z7.own (s0.y+2) (vX 4 fun m=>uK A (ls++[x]) m) 1:=⟨_,rfl⟩;have oL9:Own z9 (s0.y+2) (vX 4 fun m=>uK A (ls++[x]) m) 1:=by rw [hz9];exact oL7.put
  have K9:Only (·=s0.y+2) z7 z9:=by rw [hz9];exact Only.own (.inr rfl)
  rw [<- hz9] at t13;have hS':Split A (all.take (s+1)) ks (ls++[x]):=by
   rw [hts];refine ⟨hS.sub.trans (List.sublist_append_left _ _),fun m=>?_,fun m=>?_,fun y hy=>?_⟩
   ·rw [zAN,zAN,hS.cnt];omega
   ·rw [zCG,zCG,hS.sum];omega
   ·rcases List.mem_append.1 hy with hy | hy
    ·exact hS.prl y hy
    ·rw [List.mem_singleton.1 hy];exact ⟨p0,p4⟩
  have nx:∃ k',k' < k/\∃ (s':Nat) (ks' ls':List Tp),(s:Int)+1=s'/\s'+k'=l/\ks.length=ks'.length/\ks.length=ks'.length/\ks'.length<=s'/\TdI s0 z9 A (all.take s') ks' ls' p c p1 c1 :=
   ⟨k-1,by omega,s+1,ks,ls++[x],by omega,by omega,rfl,rfl,by omega,hS',N7.of_only K9 (fun b e=>by omega),by have:=K9.y;omega,gK7.only K9 (fun b hb e=>by have:=fK b hb;omega),gL7.only K9 (fun b hb e=>by have:=fL b hb;omega),K9.own' oC7 (by omega),K9.own' oS7 (by omega),oL9,hne⟩
  subst hz1;exact xCD ld lT lp l4 t5 (xm _ x5) l7 t8 w9 sh (xm _ x7) l12 t13 nx (by omega) ⟨by omega,by omega⟩ ⟨by omega,by omega⟩ ⟨by omega,by omega⟩ ⟨by omega,by omega⟩ ⟨by omega,by omega⟩ ⟨by omega,by omega⟩ h9 ⟨by omega,by omega⟩ ⟨by omega,by omega⟩
 ·have l11:=x7.ldN (P:=Tryz.prog) (t:=37) (k:=0) (ds:=tpL x) xAA zEQ rfl rfl (by simp);obtain ⟨q8,c8,z8,f1,f2,f3,f4⟩:=zGW (tpV x) yQA gK7 (Le.refl z7) (yNS x) (by omega) (by omega) (e:=rfl) (hc:=rfl);have R7:New z7 (z7.row (tpL x) 7):=New.row _ _ _;have hp3:∀ b,b<s0.y+3->¬ AtP p b:=fun b hb hp=>by have:=fK b hp;omega
  have hpt:¬ AtP p U.y:=fun hp=>by have:=(gK.bd hp).2;omega
  have x8:=f3.own' (x7.le R7.le) hpt;have gL8:=(gL7.le R7.le).only f3 (fun b hb hp=>hne b hp hb);have nx8:z7.y+1<=z8.y:=f3.y;obtain ⟨q9,c9,z9,e1,e2,e3,e4⟩:=zGW (xT (zGB A x)) yQB gL8 (Le.refl z8) (yNT _) (by omega) (by omega) (e:=rfl) (hc:=rfl);have R8:New z8 (z8.row (xG (zGB A x)) 6):=New.row _ _ _;have hq3:∀ b,b<s0.y+3->¬ AtP p1 b:=fun b hb hp=>by have:=fL b hp;omega
  have KN:∀ b cs,b<s0.y+3->Own z7 b cs 1->Own z9 b cs 1:=fun b cs hb ho=>e3.own' ((f3.own' (ho.le R7.le) (hp3 b hb)).le R8.le) (hq3 b hb)
  have hq8:∀ b,AtP q8 b->¬ AtP p1 b:=fun b hb hb1=>by
   rcases f4 b hb with h | h
   ·exact hne b h hb1
   ·have:=(gL7.bd hb1).2;omega
  have hS':Split A (all.take (s+1)) (ks++[x]) ls:=by
   rw [hts];refine ⟨hS.sub.append (.refl _),fun m=>?_,fun m=>?_,hS.prl⟩
   ·rw [zAN,zAN,hS.cnt];omega
   ·rw [zCG,zCG,hS.sum];omega
  have N9:New s0 z9:=(((N7.trans R7).of_only f3 (fun b hb=>by have:=fK b hb;omega)).trans R8).of_only e3 (fun b hb=>by have:=fL b hb;omega);have nx9:z8.y+1<=z9.y:=e3.y;have nx:∃ k',k' < k/\∃ (s':Nat) (ks' ls':List Tp),(s:Int)+1=s'/\s'+k'=l/\ks.length+1=ks'.length/\ks.length+1=ks'.length/\ks'.length<=s'/\TdI s0 z9 A (all.take s') ks' ls' q8 c8 q9 c9:=by
   refine ⟨k-1,by omega,s+1,ks++[x],ls,by omega,by omega,by simp,by simp,by simp;omega,hS',N9,by omega, ?_, ?_,KN _ _ (by omega) oC7,KN _ _ (by omega) oS7,KN _ _ (by omega) oL7,fun b hb hb1=>?_⟩
   ·rw [List.length_append,List.map_append];exact (f2.le R8.le).only e3 (fun b hb hb1=>hq8 b hb hb1)
   ·rw [List.length_append,List.map_append,List.map_append];exact e2
   ·rcases e4 b hb1 with h | h
    ·exact hq8 b hb h
    ·have:=(f2.bd hb).2;omega
  subst hz1;exact xCC ld lT lp l4 t5 (xm _ x5) l7 t8 w9 sh l11 f1 (xm _ x8) (x8.ld rfl zT rfl) (x8.ld rfl zT rfl) e1 nx (by omega) ⟨by omega,by omega⟩ ⟨by omega,by omega⟩ ⟨by omega,by omega⟩ ⟨by omega,by omega⟩ ⟨by omega,by omega⟩ ⟨by omega,by omega⟩ h9 ⟨by omega,by omega⟩ ⟨by omega,by omega⟩ ⟨by omega,by omega⟩
end
section
variable {Z U:St} {A B C:List Int} {all ks ls xs:List Tp} {T:Trf} {p p1:Option Addr} {l c c1:Nat}
theorem xUH {A:List Int} {all ks:List Tp} {s:Nat}:zGV A all ks (s+1)=zGV A all ks s++[zBJ A all s]:=by
 unfold zGV;rw [List.range_succ,List.map_append,List.append_assoc];rfl
theorem xVZ {s0:St} {b1:Nat} {q4:Option Addr} {l4 c4:Nat} (hI:TdI s0 U A all ks ls p c p1 c1) (hl:all.length<=40) (hp:∀ x∈all,0<=prT A x/\prT A x<=10000) :
  zYB b1 q4 l4 c4 p ks.length c s0.y (s0.y+1) (s0.y+2) p1 ks.length c1 0 U
   (fun p1 l1 c1 U'=>l1=ks.length+4/\New s0 U'/\wB U' 40 p1 (ks.length+4) (zGV A all ks 4)/\zDV U' 37 p ks.length ks/\Own U' (s0.y+2) (vX 4 fun m=>uK A ls m) 1):=by
 have hkl:ks.length<=all.length:=hI.spl.sub.length_le;have e0:zGV A all ks 0=ks.map (zGB A):=by unfold zGV;simp
 refine yML (Inv:=fun k p1 l1 c1 i U'=>∃ s:Nat,i=s/\s+k=4/\l1=ks.length+s/\New s0 U'/\Gr Tryz.prog U' (s0.y+3) 40 6 p1 (ks.length+s) c1 ((zGV A all ks s).map xT)/\zDV U' 37 p ks.length ks/\Own U' s0.y (vX 4 fun m=>uK A all m) 1/\Own U' (s0.y+1) (vX 4 fun m=>(xF all m:Int)) 1/\Own U' (s0.y+2) (vX 4 fun m=>uK A ls m) 1/\s0.y+3<=U'.y/\(∀ b,AtP p b->b<U'.y/\¬ AtP p1 b)) ?_ 4 p1 ks.length c1 0 U ⟨0,rfl,rfl,rfl,hI.new,by rw [e0];exact hI.lg,hI.kn.slv,hI.co,hI.so,hI.lo,hI.nx,fun b hb=>⟨(hI.kn.bd hb).2,hI.ne b hb⟩⟩;rintro k p1 l1 c1 i U' ⟨s,rfl,hk,rfl,hN,hg,hK,oC,oS,oL,hnx,hne⟩;by_cases hs:s<4;rotate_left
 ·have:s=4:=by omega
  subst this;exact xBZ ⟨rfl,hN,hg.slv,hK,oL⟩ (by omega)
 have hcl:=zCZ (xs:=all) (m:=(s:Int));have hsb:=zHM (m:=(s:Int)) all hp;have h1:=zAJ (m:=(s:Int)) oS (by omega) (by omega);have h2:=zAJ (m:=(s:Int)) oC (by omega) (by omega);simp only [Int.toNat_natCast] at h1 h2;obtain ⟨q,d,U2,g1,g2,g3,g4⟩:=zGW (xT (zBJ A all s)) yQB hg (Le.refl U') (yNT _) (by omega) (by omega) (e:=rfl) (hc:=rfl);have R:New U' (U'.row (xG (zBJ A all s)) 6):=New.row _ _ _;have hno:∀ b,b<s0.y+3->¬ AtP p1 b:=fun b hb h=>by have:=(hg.bd h).1;omega
 have nx2:U'.y+1<=U2.y:=g3.y;refine xCA h1 h2 g1 ⟨k-1,by omega,s+1,by omega,by omega,by omega,(hN.trans R).of_only g3 (fun b hb=>by have:=(hg.bd hb).1;omega),by rw [xUH,List.map_append];exact g2,g3.slv' (SlV.le hK R.le) (fun a e hb=>(hne _ ⟨a,e,rfl⟩).2 hb),g3.own' (oC.le R.le) (hno _ (by omega)),g3.own' (oS.le R.le) (hno _ (by omega)),g3.own' (oL.le R.le) (hno _ (by omega)),by omega,fun b hb=>⟨by have:=(hne b hb).1;omega,fun h=>?_⟩⟩ (by omega) ⟨by omega,by omega⟩ ⟨by omega,by omega⟩ ⟨by omega,by omega⟩ ⟨by omega,by omega⟩;rcases g4 b h with h | h
 ·exact (hne b hb).2 h
 ·have:=(hne b hb).1;omega
theorem xVY {s0:St} {b4 d3 c3:Nat} {q q3:Option Addr} {o:List Lk} (ho:SlV Tryz.prog s0 60 5 q3 o.length (o.map lkV)) (hl:o.length<=4) (hb:∀ x∈o,(0<=x.m/\x.m<(4:Nat))/\(0<=x.sales/\x.sales<=1000000)/\0<=x.coins/\x.coins<=1000000) :
  zYA b4 q 4 d3 q3 o.length c3 s0.y (s0.y+1) 0 ((s0.row (xW 0 0 0 0) 1).row (xW 0 0 0 0) 1) (fun _ _=>False)
   (fun U'=>New s0 U'/\Own U' s0.y (vX 4 fun m=>zDW (·.sales) o m) 1/\Own U' (s0.y+1) (vX 4 fun m=>zDW (·.coins) o m) 1):=by
 refine yMK (Inv:=fun k i U'=>∃ s:Nat,i=s/\s+k=o.length/\New s0 U'/\Own U' s0.y (vX 4 fun m=>zDW (·.sales) (o.take s) m) 1/\Own U' (s0.y+1) (vX 4 fun m=>zDW (·.coins) (o.take s) m) 1) ?_ o.length 0 _ ⟨0,rfl,by omega,(New.row _ _ _).row',(zI s0 (xW 0 0 0 0) 1).row,zI (s0.row (xW 0 0 0 0) 1) (xW 0 0 0 0) 1⟩;rintro k i U' ⟨s,rfl,hk,hN,oS,oC⟩;by_cases hs:s<o.length;rotate_left
 ·rw [List.take_of_length_le (by omega)] at oS oC;exact xBX ⟨hN,oS,oC⟩ (by omega)
 have hz:=SlV.le ho hN.le;obtain ⟨a,rfl,x,hx,_⟩:=wS hz hs;have hlt:=zEP ho a rfl;have hmx:(o.map lkV)[s]?=some (.agg ⟨lkL x⟩):=by rw [List.getElem?_map,hx];rfl
 obtain ⟨⟨m0,m4⟩,hsl,hco⟩:=hb x (List.mem_of_getElem? hx);have hts:o.take (s+1)=o.take s++[x]:=yM hx;have bd:=yXK (f:=(·.sales)) (m:=x.m) (o.take s) fun y hy=>(hb y (List.mem_of_mem_take hy)).2.1
 have bc:=yXK (f:=(·.coins)) (m:=x.m) (o.take s) fun y hy=>(hb y (List.mem_of_mem_take hy)).2.2
 rw [List.length_take] at bd bc;have up:∀ (f:Lk->Int),∀ k:Nat,k<4->zDW f (o.take (s+1)) k=if (k:Int)=x.m then zDW f (o.take s) x.m+f x else zDW f (o.take s) k:=fun f k _=>by
  rw [hts,zEE];by_cases e:x.m=(k:Int)
  ·rw [if_pos e,if_pos e.symm,e]
  ·rw [if_neg e,if_neg (fun h=>e h.symm)];omega
 have l2:=zAJ oS m0 (by omega);have st:=zLS (g:=fun m=>zDW (·.sales) (o.take (s+1)) m) (z:=zDW (·.sales) (o.take s) x.m+x.sales) oS m0 (by omega) (up _);obtain ⟨z,hz1⟩:∃ z,z=U'.own s0.y (vX 4 fun m=>zDW (·.sales) (o.take (s+1)) m) 1:=⟨_,rfl⟩;have oS1:Own z s0.y (vX 4 fun m=>zDW (·.sales) (o.take (s+1)) m) 1:=by rw [hz1];exact oS.put
 have K1:Only (·=s0.y) U' z:=by rw [hz1];exact Only.own (.inr rfl)
 rw [<- hz1] at st;have oC1:=K1.own' oC (by omega);have hz2:=K1.slv' hz (fun a' e hb=>by cases e;omega);have l6:=zAJ oC1 m0 (by omega);simp only [Int.toNat_of_nonneg m0] at l2 l6;have st2:=zLS (g:=fun m=>zDW (·.coins) (o.take (s+1)) m) (z:=zDW (·.coins) (o.take s) x.m+x.coins) oC1 m0 (by omega) (up _);have K2:Only (·=s0.y+1) z (z.own (s0.y+1) (vX 4 fun m=>zDW (·.coins) (o.take (s+1)) m) 1):=Only.own (.inr rfl);exact xBY (uF (t':=3) hz hmx (k:=0) rfl zT) l2 (uF (t':=3) hz hmx (k:=3) rfl zT) st (uF (t':=3) hz2 hmx (k:=0) rfl zT) l6 (uF (t':=3) hz2 hmx (k:=4) rfl zT) st2
  ⟨k-1,by omega,s+1,by omega,by omega,(hN.of_only K1 (fun b e=>by omega)).of_only K2 (fun b e=>by omega),K2.own' oS1 (by omega),oC1.put⟩ (by omega) ⟨by omega,by omega⟩ (by omega) (by omega) ⟨by omega,by omega⟩ ⟨by omega,by omega⟩ ⟨by omega,by omega⟩ ⟨by omega,by omega⟩ ⟨by omega,by omega⟩
theorem xBU {bits:Int} (hT:TrfP Z T A B C) (hx:zDV Z 37 p l xs):yCY Tryz.prog 6 3 [.agg ⟨trL T⟩,.slice p l c,.int .u64 bits] Z fun v _=>v=.bool true:=by
 have hlen:=vK hx;have N1:New Z (Z.row (trL T) 5):=New.row _ _ _;have k1:=xVP (Z:=Z.row (trL T) 5) (T:=T);by_cases hth:T.pl<=8/\T.ql<=8/\T.sl<=8;rotate_left
 ·rw [show (decide (T.pl<=8) && (decide (T.ql<=8) && decide (T.sl<=8)))=false by simpa using hth] at k1;exact xJW k1 rfl
 obtain ⟨h1,h2,h3⟩:=hth;rw [show (decide (T.pl<=8) && (decide (T.ql<=8) && decide (T.sl<=8)))=true by simp [h1,h2,h3]] at k1;by_cases h40:40<l
 ·exact xKA k1 rfl (by omega)
 have k2:=xOE (hT.le N1.le) h1 h2 h3;by_cases hok:okT T A B C=true;rotate_left
 ·rw [if_neg hok] at k2;exact xJZ k1 k2 rfl (by omega) (by omega)
 rw [if_pos hok] at k2;obtain ⟨b,q3,m3,d3,q4,m4,d4,Z6,k3,n3,hb⟩:=xUA (T:=T) (c:=c) (SlV.le hx N1.le) (by omega);cases b with
 | false=>exact xJX k1 k2 k3 rfl (by omega) rfl
 | true =>
 obtain ⟨rfl,rfl,rfl,cb,rfl,oN,hA,hm,hg,hfew⟩:=hb rfl;obtain ⟨all,hal⟩:∃ all,all=zAZ xs:=⟨_,rfl⟩;have hn:Nmd all:=by rw [hal];exact yLT xs
 rw [<- hal] at oN hA hm hg hfew;have hall:=vK hA;have hT6:=hT.le (N1.trans n3).le;have oT6:Own Z6 Z.y (trL T) 5:=(zI Z (trL T) 5).le n3.le;have hpr:∀ x∈all,0<=prT A x/\prT A x<=10000:=fun x hx=>(zWX hok (hg x hx)).2
 have hz4:T.z<=4:=by
  unfold okT at hok;simp only [Bool.and_eq_true,wD] at hok;omega
 refine xJY k1 k2 k3 (xWA (s1:=Z) hT6 hok oT6 hA (by omega) hm hg hn) ?_ (by omega) rfl;rintro p1 l1 c1 p2 l2 c2 U ⟨ks,ls,rfl,rfl,hI⟩;have hS:=hI.spl;have hkl:ks.length<=all.length:=hS.sub.length_le;have hks:∀ x∈ks,x∈all:=fun x hx=>hS.sub.subset hx
 refine yMI (xVZ hI (by omega) hpr) ?_
 rintro p5 l5 c5 s1 ⟨rfl,n5,hR,hK,oL⟩;obtain ⟨T2,s2,j2,m2,hT2,z2,w2,t1,t2,t3⟩:=xNM (hT6.le n5.le) h1 h2 h3;obtain ⟨q6,c6,s3,j3,m3',hK3,_⟩:=xVQ (c:=c1) (SlV.le hK m2.le) (by omega);have M3:=m2.trans m3';have hC:zCD s3 (some ⟨cb,0,none⟩) 4 ((List.range 4).map fun m:Nat=>(xF all m:Int)):=by
  have o:=(oN.le n5.le).le M3.le;refine ⟨⟨rfl, ?_⟩,rfl,fun v hv=>?_⟩
  ·have hr:Row s3 ⟨cb,0,none⟩ (vX 4 fun m=>(xF all m:Int)):=o.rw;exact hr
  ·obtain ⟨n,_,rfl⟩:=List.mem_map.1 hv;exact zQG zT _ _
 obtain ⟨q7,d7,s4,j4,m4',hC4,_⟩:=xSY (c:=4) (n0:=0) hC (by omega) (Nat.zero_le _);have M4:=M3.trans m4';have hf:∀ k,k<4->((List.range 4).map fun m:Nat=>(xF all m:Int))[k]?=some ((fun k:Nat=>(xF all k:Int)) k):=fun k hk=>by simp [hk]
 have hbb:∀ k,k<4->0<=(fun k:Nat=>(xF all k:Int)) k/\(fun k:Nat=>(xF all k:Int)) k<=50:=fun k _=>by
  have:=zCZ (xs:=all) (m:=(k:Int));simp only;omega
 have hok2:okT T2 A B C=true:=by unfold okT at hok ⊢;rw [z2,w2];exact hok
 obtain ⟨q8,d8,vs,s5,j5,m5,hV,hvs⟩:=xVT (c:=c6) (d:=d7) (hT2.le (m3'.trans m4').le) hok2 t1 t2 t3 (SlV.le hK3 m4'.le) (by omega) hC4 hf hbb (fun x hx=>by
  have hxa:=hks x hx;have h0:=hm x hxa;have:=zSD hn hxa;refine ⟨h0,by rw [z2];exact hg x hxa,this.1, ?_⟩
  simp only [Int.toNat_of_nonneg h0.1];exact this.2) (hn.inc.sublist hS.sub) (fun k hk=>by
  have h:=hfew k hk;unfold zYX at h ⊢;refine Nat.le_trans (xIV fun r hr=>?_) h;unfold xU at hr ⊢;obtain ⟨x,hx,rfl⟩:=List.mem_map.1 hr;obtain ⟨hx,e⟩:=List.mem_filter.1 hx;exact List.mem_map.2 ⟨x,List.mem_filter.2 ⟨hks x hx,e⟩,rfl⟩)
 have M5:=M4.trans m5;obtain ⟨lg,hlg⟩:∃ lg,lg=zGV A all ks 4:=⟨_,rfl⟩;have hright:lg.all yQ=true:=by rw [hlg];exact xBT hn hS (by omega) hz4 hm hpr hg
 have hcons:zLF lg:=by rw [hlg];exact yMD hn hS.sub
 have hll:lg.length=ks.length+4:=by rw [hlg];unfold zGV;simp
 have hlaw:uR (zJW lg)=some (zUZ A all ls 4):=by rw [hlg];exact xQA hn hS fun x hx=>hm x (hks x hx)
 rw [<- hlg] at hR;obtain ⟨q9,c9,s6,j6,m6,hR6,_⟩:=xFK (c:=c5) (SlV.le hR M5.le) (by omega);have M6:=M5.trans m6;have hby:=ySH hright;have hfz:=xDB (by omega) hright;obtain ⟨hz',_⟩ | ⟨_,q10,c10,s7,j7,m7,b7,_⟩:=xOF (c:=c9) hR6 (by omega) hby
 ·exact absurd hfz hz'
 have M7:=M6.trans m7;have hfl:=yZQ hright;have hd:=xDJ hright;obtain ⟨hx',_⟩ | ⟨_,_,q11,c11,s8,j8,m8,r8,_⟩:=xOG (c:=c10) b7 (xLJ lg) (by omega)
 ·rw [hd] at hx';exfalso;have:(lg,(0:Int)).1.length=lg.length:=rfl;omega
 have M8:=M7.trans m8;rw [hd] at j8 r8;have r8:wB s8 64 q11 lg.length lg:=r8;obtain ⟨q12,c12,s9,j9,m9,r9⟩:=xSP (c:=c11) r8 (by omega) hby hfz hcons hlaw;have M9:=M8.trans m9;obtain ⟨ob1,ob2⟩:=yYK hS (by omega) 4;have lT:=(oT6.le n5.le).ldN (P:=Tryz.prog) (t:=24) (k:=0) (ds:=trL T) zHC zCH rfl rfl (by simp);refine yMH lT j2 j3 j4 j5 j6 j7 j8 j9 (xVY r9 ob1 ob2) (fun _ _ h=>h.elim) ?_ rfl rfl rfl rfl (by show ((lg.length:Nat):Int)=((ks.length+4:Nat):Int);rw [hll]) rfl rfl;rintro s10 ⟨m10,oS,oC⟩;have oL10:=(oL.le M9.le).le m10.le;have hV10:=SlV.le (SlV.le hV (((m6.trans m7).trans m8).trans m9).le) m10.le;refine yMG (Pr:=fun _ _=>False) (P6:=fun _=>True) (yMJ (Inv:=fun k i U'=>∃ s:Nat,i=s/\s+k=4/\U'=s10) ?_ 4 0 s10 ⟨0,rfl,rfl,rfl⟩) (fun _ _ h=>h.elim) (fun _ _=>yMF rfl);rintro k i U' ⟨s,rfl,hk,rfl⟩;by_cases hs:s<4;rotate_left
 ·exact xBV trivial (by omega)
 obtain ⟨e1,e2⟩:=yLI hS (m:=s) 4;rw [if_pos hs] at e1 e2;have g1:=zAJ (m:=(s:Int)) oS (by omega) (by omega);have g3:=zAJ (m:=(s:Int)) oC (by omega) (by omega);have g4:=zAJ (m:=(s:Int)) oL10 (by omega) (by omega);simp only [Int.toNat_natCast,e1,e2] at g1 g3 g4;obtain ⟨q,d,hv⟩:=hvs s hs;obtain ⟨a,rfl,_⟩:=hV10.some hs;have g2:=hV10.at rfl hv;rw [Int.toNat_natCast (xF all s),xBP hn hS] at g2;exact xBW g1 g2 g3 g4 ⟨k-1,by omega,s+1,by omega,by omega,rfl⟩ (by omega) ⟨by omega,by omega⟩ ⟨by omega,by omega⟩ rfl rfl ⟨by omega,by omega⟩
end
section
variable {n:Nat} {cs:List Value} {t e:TypeId} {k:IntKind} {v:Value} {W:World}
section
variable {Z:St}
theorem zFX (h:WT Pg Z (n+1) 3 cs):∃ i,cs=[zBA i]:=by
 unfold WT at h;simp only [Tryz.underlying3] at h;obtain ⟨i,h,_⟩:=h;exact ⟨i,h⟩
theorem yJV {k:Nat} (hu:Pg.underlying t=some (.slice e)) (hk:Pg.cellsOf e=k) (h:WT Pg Z (n+1) t cs) :
  ∃ p len cap rs,cs=[.slice p len cap]/\len<=maxLen/\SlP Z k p len rs/\rs.length=len*k/\∀ i,i<len->WT Pg Z n e ((rs.drop (i*k)).take k):=by
 unfold WT at h;simp only [hu,hk] at h;rcases h with rfl | ⟨b,len,cap,rs,rfl,h1,h2,h3,h4,h5,h6⟩
 ·exact ⟨none,0,0,[],rfl,by decide,SlP.nil _ _,by simp,fun i hi=>by omega⟩
 ·refine ⟨_,len,cap,rs,rfl,h1,⟨h3, ?_,h5⟩,h3,h6⟩
  simp only [yR,h4,zZ,wR,Nat.zero_add,List.drop_zero,List.take_length];show (bif Nat.ble rs.length rs.length then some rs else none)=some rs;rw [show Nat.ble rs.length rs.length=true from by simp];rfl
theorem yTD {α:Type} {k:Nat} {Q:List Value->Prop} {f:α->List Value} (hq:∀ cs,Q cs->∃ x,cs=f x):∀ (len:Nat) (rs:List Value),rs.length=len*k->(∀ i,i<len->Q ((rs.drop (i*k)).take k))->∃ xs:List α,xs.length=len/\rs=xs.flatMap f
 | 0,rs,hl,_=>⟨[],rfl,by simpa using hl⟩
 | len+1,rs,hl,h=>by
  obtain ⟨x,hx⟩:=hq _ (h 0 (by omega));obtain ⟨xs,h1,h2⟩:=yTD (k:=k) hq len (rs.drop k) (by simp [hl,Nat.add_mul]) (fun i hi=>by
   have:=h (i+1) (by omega);rwa [Nat.add_mul,Nat.one_mul,Nat.add_comm (i*k),<- List.drop_drop] at this)
  refine ⟨x::xs,by simp [h1], ?_⟩
  simp only [List.flatMap_cons,<- h2,<- hx];simp
theorem xCY {α:Type} (f:α->List Value) (xs:List α):wI (xs.map fun x=>.agg ⟨f x⟩)=xs.flatMap f:=by
 induction xs with
 | nil=>rfl
 | cons x xs ih=>rw [List.map_cons,List.flatMap_cons,<- ih];simp [wI,Value.cells]
theorem xLI (xs:List Int):wI (xs.map zBA)=xs.flatMap fun x=>[zBA x]:=by
 induction xs with
 | nil=>rfl
 | cons x xs ih=>rw [List.map_cons,List.flatMap_cons,<- ih];rfl
theorem yHF (h:WT Pg Z (n+2) 22 cs):∃ p l c xs,cs=[.slice p l c]/\zCD Z p l xs:=by
 obtain ⟨p,l,c,rs,e1,_,s1,l1,w1⟩:=yJV Tryz.underlying22 (k:=1) (by kernel_rfl) h;obtain ⟨xs,n1,rfl⟩:=yTD (f:=fun x:Int=>[zBA x]) (fun cs h=>zFX h) l rs l1 w1;refine ⟨p,l,c,xs,e1,⟨by rw [xLI];exact s1,by simpa using n1,fun v hv=>?_⟩⟩
 obtain ⟨x,_,rfl⟩:=List.mem_map.1 hv;exact zQG zT _ _
theorem xTF (h:WT Pg Z (n+3) 37 cs):∃ x:Tp,cs=tpL x:=by
 unfold WT at h;simp only [Tryz.underlying37] at h;obtain ⟨hl,h⟩:=h;have hl:cs.length=7:=hl.trans (by kernel_rfl);obtain ⟨c1,c2,c3,c4,c5,c6,c7,rfl⟩:∃ c1 c2 c3 c4 c5 c6 c7,cs=[c1,c2,c3,c4,c5,c6,c7]:=by
  match cs,hl with
  | [c1,c2,c3,c4,c5,c6,c7],_=>exact ⟨_,_,_,_,_,_,_,rfl⟩
 have k3:Pg.cellsOf 3=1:=by kernel_rfl
 have k35:Pg.cellsOf 35=4:=by kernel_rfl
 simp only [List.mem_cons,List.not_mem_nil,or_false,forall_eq_or_imp,forall_eq,k3,k35] at h;obtain ⟨⟨_,h1⟩,⟨_,h2⟩,⟨_,h3⟩,⟨_,h4⟩⟩:=h;obtain ⟨x1,h1⟩:=zFX h1;obtain ⟨x2,h2⟩:=zFX h2;obtain ⟨x3,h3⟩:=zFX h3;unfold WT at h4;simp only [Tryz.underlying35] at h4;obtain ⟨_,h4⟩:=h4;simp only [List.mem_cons,List.not_mem_nil,or_false,forall_eq_or_imp,forall_eq,k3] at h4;obtain ⟨⟨_,h4⟩,⟨_,h5⟩,⟨_,h6⟩,⟨_,h7⟩⟩:=h4;obtain ⟨x4,h4⟩:=zFX h4;obtain ⟨x5,h5⟩:=zFX h5;obtain ⟨x6,h6⟩:=zFX h6;obtain ⟨x7,h7⟩:=zFX h7;obtain rfl:c1=zBA x1:=by simpa using h1
 obtain rfl:c2=zBA x2:=by simpa using h2
 obtain rfl:c3=zBA x3:=by simpa using h3
 obtain rfl:c4=zBA x4:=by simpa using h4
 obtain rfl:c5=zBA x5:=by simpa using h5
 obtain rfl:c6=zBA x6:=by simpa using h6
 obtain rfl:c7=zBA x7:=by simpa using h7
 exact ⟨⟨x1,x2,x3,⟨x4,x5,x6,x7⟩⟩,rfl⟩
theorem xOL (h:WT Pg Z (n+4) 25 cs):∃ p l c xs,cs=[.slice p l c]/\zDV Z 37 p l xs:=by
 obtain ⟨p,l,c,rs,e1,_,s1,l1,w1⟩:=yJV Tryz.underlying25 (k:=7) (by kernel_rfl) h;obtain ⟨xs,n1,rfl⟩:=yTD (f:=tpL) (fun cs h=>xTF h) l rs l1 w1;refine ⟨p,l,c,xs,e1,⟨by rw [xCY tpL];exact s1,by simpa using n1,fun v hv=>?_⟩⟩
 obtain ⟨x,_,rfl⟩:=List.mem_map.1 hv;exact .inr ⟨xAA,zEQ,_,rfl,rfl⟩
theorem xTE (h:WT Pg Z (n+3) 24 cs):∃ T A B C,cs=trL T/\TrfP Z T A B C:=by
 unfold WT at h;simp only [Tryz.underlying24] at h;obtain ⟨hl,h⟩:=h;have hl:cs.length=5:=hl.trans (by kernel_rfl);obtain ⟨c1,c2,c3,c4,c5,rfl⟩:∃ c1 c2 c3 c4 c5,cs=[c1,c2,c3,c4,c5]:=by
  match cs,hl with
  | [c1,c2,c3,c4,c5],_=>exact ⟨_,_,_,_,_,rfl⟩
 have k3:Pg.cellsOf 3=1:=by kernel_rfl
 have k22:Pg.cellsOf 22=1:=by kernel_rfl
 simp only [List.mem_cons,List.not_mem_nil,or_false,forall_eq_or_imp,forall_eq,k3,k22] at h;obtain ⟨⟨_,h1⟩,⟨_,h2⟩,⟨_,h3⟩,⟨_,h4⟩,⟨_,h5⟩⟩:=h;obtain ⟨x1,h1⟩:=zFX h1;obtain ⟨p,l,c,A,h2,hA⟩:=yHF h2;obtain ⟨q,m,d,B,h3,hB⟩:=yHF h3;obtain ⟨s,k,e,C,h4,hC⟩:=yHF h4;obtain ⟨x5,h5⟩:=zFX h5;obtain rfl:c1=zBA x1:=by simpa using h1
 obtain rfl:c2=.slice p l c:=by simpa using h2
 obtain rfl:c3=.slice q m d:=by simpa using h3
 obtain rfl:c4=.slice s k e:=by simpa using h4
 obtain rfl:c5=zBA x5:=by simpa using h5
 exact ⟨⟨x1,p,l,c,q,m,d,s,k,e,x5⟩,A,B,C,rfl,⟨hA,hB,hC⟩⟩
theorem xTD (h:WT Pg Z (n+1) 26 cs):∃ i:Int,cs=[.int .u64 i]:=by
 unfold WT at h;simp only [Tryz.underlying26] at h;obtain ⟨i,h,_⟩:=h;exact ⟨i,h⟩
theorem xEJ {T:Trf} (h:v.cells.toList=trL T):v=.agg ⟨trL T⟩:=by
 cases v with
 | agg cs=>cases cs;simp [Value.cells] at h;rw [h]
 | _=>simp [Value.cells] at h
theorem yYS {V:Inj} {av:Value} (h:VR V av v) (hv:∀ cs,v≠.agg cs):∀ cs,av≠.agg cs:=by
 rintro cs rfl;cases h with
 | atom h=>simp [uL] at h
 | agg _ _=>exact hv _ rfl
theorem xTJ (hu:Pg.underlying t=some (.slice e)) (h:Value.okWide Pg W .any 0 t v):∀ cs,v≠.agg cs:=by
 rintro cs rfl;unfold Value.okWide at h;rw [hu] at h;simp [Cell.okWide,Cell.ok,hu] at h
theorem xQE (hu:Pg.underlying t=some (.int k)) (h:Value.okWide Pg W .any 0 t v):∀ cs,v≠.agg cs:=by
 rintro cs rfl;unfold Value.okWide at h;rw [hu] at h;simp [Cell.okWide,Cell.ok,hu] at h
theorem yPN {p:Option Addr} {l c:Nat} (h:v.cells.toList=[.slice p l c]) (hn:∀ cs,v≠.agg cs):v=.slice p l c:=by
 cases v with
 | agg cs=>exact absurd rfl (hn cs)
 | _=>first | (simp [Value.cells] at h;done) | simpa [Value.cells] using h
theorem xEK {x:Int} (h:v.cells.toList=[.int k x]) (hn:∀ cs,v≠.agg cs):v=.int k x:=by
 cases v with
 | agg cs=>exact absurd rfl (hn cs)
 | _=>first | (simp [Value.cells] at h;done) | simpa [Value.cells] using h
end
end
end Go.Proofs.YtflfajphjmajpaaGreatDoor
