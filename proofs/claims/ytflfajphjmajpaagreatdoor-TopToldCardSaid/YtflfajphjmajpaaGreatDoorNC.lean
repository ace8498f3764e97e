import Derived.Test.YtflfajphjmajpaaGreatDoorXA
import Derived.Test.YtflfajphjmajpaaGreatDoorSD
import Derived.Test.YtflfajphjmajpaaGreatDoorNA
set_option linter.unusedVariables false
set_option maxRecDepth 20000
set_option linter.unusedSimpArgs false
namespace Go.Proofs.YtflfajphjmajpaaGreatDoor
open Go Go.Lay
open Tryz renaming prog -> Pg
section
variable {n low high many i5_1 nA ao i6_2 card i6_1 i7_1 i8_2 i10_3 i11_4 nAC nBF i12_5:Int} {Z ZY:St} {Q:Value->St->Prop} {l aD taps a7 counts qY:Option Addr} {l_l l_c aA aC taps_l taps_c a8 ba counts_l counts_c BA lU cY:Nat} {Inv:Nat->Int->St->Prop} {Qr Nx Pr:Int->St->Prop} {Q0:(Option Addr)->Nat->Nat->St->Prop} {l_a p3_1_a taps_a counts_a:Addr} {P0 Q4 Q6 Q8:St->Prop} {t_0 T2504:Trf} {r rA rB:Rd} {Q2:Bool->St->Prop} {xB:Tp}
theorem xUT (nx:Q (.bool true) Z) (u1:low<=n:=by omega) (u2:n<=high:=by omega):zL Pg 15 [iV n,iV low,iV high] Z Q :=
 zK [.g,.g,.g,.b true,.g,.g,.g,.b true,.g,.g] (kd (an2 (uW u1) (uW u2) nx))
theorem xUS (nx:Q (.bool false) Z) (u1:low<=n:=by omega) (u2:¬ n<=high:=by omega):zL Pg 15 [iV n,iV low,iV high] Z Q :=
 zK [.g,.g,.g,.b true,.g,.g,.g,.b false,.g,.g] (kd (an2 (uW u1) (zDP u2) nx))
theorem xLO (nx:Q (.bool false) Z) (u1:¬ low<=n:=by omega):zL Pg 15 [iV n,iV low,iV high] Z Q :=
 zK [.g,.g,.g,.b false,.g,.g,.g] (kd (And.intro (zDP u1) nx))
noncomputable def zWU:Code:=(Code.part [1,0,1,0,0] (zR Pg 16))
def zEV (l:Option Addr) (l_l l_c:Nat) (many i5_1:Int):List (Nat × Value):=[(0,.slice l l_l l_c),(1,iV many),(5,iV i5_1)]
def yKY (l:Option Addr) (l_l l_c:Nat) (many:Int) (Q:Int->St->Prop):Alt:=⟨Int,.normal,fun t=>zEV l l_l l_c many t,fun t=>[],fun t Z=>Q t Z⟩
def zPI (l:Option Addr) (l_l l_c:Nat) (many:Int) (t4_1:Bool):List (Nat × Value):=[(4,.bool t4_1)]
def zHS (l:Option Addr) (l_l l_c:Nat) (many:Int) (Q:Bool->St->Prop):Alt:=⟨Bool,.ret,fun t=>zPI l l_l l_c many t,fun t=>[],fun t Z=>Q t Z⟩
def zPJ (l:Option Addr) (l_l l_c:Nat) (many:Int):List (Nat × Value):=[(0,.slice l l_l l_c),(1,iV many)]
def zHT (l:Option Addr) (l_l l_c:Nat) (many:Int) (Q:St->Prop):Alt:=⟨Unit,(.exit 0),fun t=>zPJ l l_l l_c many,fun t=>[],fun t Z=>Q Z⟩
def zHV (l:Option Addr) (l_l l_c:Nat) (many i5_1:Int) (Z:St) (Nx:Int->St->Prop) (Qr:Bool->St->Prop) (Q0:St->Prop):Prop:=xK Pg (zW Pg) none zWU 22 (zEV l l_l l_c many i5_1) [] [yKY l l_l l_c many Nx,zHS l l_l l_c many Qr,zHT l l_l l_c many Q0] Z
def zWV (l:Option Addr) (l_l l_c:Nat) (many i5_1:Int) (Z:St) (Qr:Bool->St->Prop) (Q0:St->Prop):Prop:=xO Pg (zW Pg) none zWU 22 (zEV l l_l l_c many i5_1) [] [zHS l l_l l_c many Qr,zHT l l_l l_c many Q0] Z
theorem yCD {Qr:Bool->St->Prop} {Q0:St->Prop} (hb:∀ k i5_1 Z,Inv k i5_1 Z->zHV l l_l l_c many i5_1 Z (NX1 Inv k) Qr Q0):∀ k i5_1 Z,Inv k i5_1 Z->zWV l l_l l_c many i5_1 Z Qr Q0 :=
 uH (And.intro zAW (And.intro (vN 0) trivial)) hb
theorem yKX {Qr:Bool->St->Prop} {Q0:St->Prop} (h1:zH Pg Z 3 (zS l_a (Int.toNat i5_1*1))=some (iV nA)) (h2:zJ Pg 15 [iV nA,iV 0,iV 10000] Z (.bool true) Z) (nx:Nx (i5_1+1) Z) (u1:i5_1<((l_l:Nat):Int):=by omega) (u2:Ix i5_1 l_l:=by omega) (u3:I6 (i5_1+1):=by omega):zHV (some l_a) l_l l_c many i5_1 Z Nx Qr Q0 :=
 kO 0 (i5_1+1) [.g,.g,.g,.b true,.g,.g,.i,.l (iV nA),.c (.bool true) Z,.g,.g,.n (i5_1+1),.g] (fun _ f=>(an5 (zU u1) u2 h1 h2 (w64 u3) f)) nx
theorem yKW {Qr:Bool->St->Prop} {Q0:St->Prop} (h1:zH Pg Z 3 (zS l_a (Int.toNat i5_1*1))=some (iV nA)) (h2:zJ Pg 15 [iV nA,iV 0,iV 10000] Z (.bool false) Z) (nx:Qr false Z) (u1:i5_1<((l_l:Nat):Int):=by omega) (u2:Ix i5_1 l_l:=by omega):zHV (some l_a) l_l l_c many i5_1 Z Nx Qr Q0 :=
 kO 1 false [.g,.g,.g,.b true,.g,.g,.i,.l (iV nA),.c (.bool false) Z,.g,.g] (fun _ f=>(an4 (zU u1) u2 h1 h2 f)) nx
theorem yKV {Qr:Bool->St->Prop} {Q0:St->Prop} (nx:Q0 Z) (u1:¬ i5_1<((l_l:Nat):Int):=by omega):zHV l l_l l_c many i5_1 Z Nx Qr Q0 :=
 kO 2 () [.g,.g,.g,.b false] (fun _ f=>(And.intro (zY u1) f)) nx
def zPK (l:Option Addr) (l_l l_c:Nat) (many:Int) (t4_1:Bool) (Z:St) (Q:Value->St->Prop):Prop:=∀ g:Nat->Value,∃ an,Hid (kAt Pg (zW Pg) none (zR Pg 16) [1,0,1,0] (kFn Pg 16 Q) .ret ⟨Fm 22 (ov (zPI l l_l l_c many t4_1) g),[]⟩ Z an)
def zHU (l:Option Addr) (l_l l_c:Nat) (many:Int) (Z:St) (Q:Value->St->Prop):Prop:=∀ g:Nat->Value,∃ an,Hid (kAt Pg (zW Pg) none (zR Pg 16) [1,0,1,0] (kFn Pg 16 Q) (.exit 0) ⟨Fm 22 (ov (zPJ l l_l l_c many) g),[]⟩ Z an)
theorem yTA {Pr:Bool->St->Prop} (hL:zWV l l_l l_c many 0 Z Pr P0) (kr:∀ t4_1' Z',Pr t4_1' Z'->zPK l l_l l_c many t4_1' Z' Q) (k0:∀ Z',P0 Z'->zHU l l_l l_c many Z' Q):zL Pg 16 [.slice l l_l l_c,iV many] Z Q :=
 zK [.g,.g,.lf 22 (zEV l l_l l_c many 0) [zHS l l_l l_c many Pr,zHT l l_l l_c many P0]] (kd (And.intro (And.intro tt (And.intro (arf (zEV l l_l l_c many 0)) hL)) (And.intro (kz1 kr) (And.intro (kz0 k0) trivial))))
theorem yCA {t4_1:Bool} (nx:Q (.bool t4_1) Z):zPK l l_l l_c many t4_1 Z Q :=
 sK [] nx
theorem yCC (nx:Q (.bool true) Z) (u1:((l_l:Nat):Int)=many:=by omega):zHU l l_l l_c many Z Q :=
 sK [.g,.g,.g,.b true,.g] (And.intro (vT u1) nx)
theorem yCB (nx:Q (.bool false) Z) (u1:¬ ((l_l:Nat):Int)=many:=by omega):zHU l l_l l_c many Z Q :=
 sK [.g,.g,.g,.b false,.g] (And.intro (vD u1) nx)
theorem xSJ (nx:Q (.bool true) (Z.row (trL t_0) 5)) (u1:((t_0.pl:Nat):Int)<=8:=by omega) (u2:((t_0.ql:Nat):Int)<=8:=by omega) (u3:((t_0.sl:Nat):Int)<=8:=by omega):zL Pg 4 [.agg ⟨trL t_0⟩] Z Q :=
 let s1:=Z.row (trL t_0) 5;zK [.g,.g,.g,.l (.slice t_0.p t_0.pl t_0.pc),.g,.b true,.g,.g,.l (.slice t_0.q t_0.ql t_0.qc),.g,.b true,.g,.g,.g,.l (.slice t_0.s t_0.sl t_0.sc),.g,.b true,.g,.g] (kd (an6 ((zI _ _ _).rw.ld vQ (k:=1) rfl:zH Pg s1 22 ⟨Z.y,1,none⟩=some (.slice t_0.p t_0.pl t_0.pc)) (uW u1) ((zI _ _ _).rw.ld vQ (k:=2) rfl:zH Pg s1 22 ⟨Z.y,2,none⟩=some (.slice t_0.q t_0.ql t_0.qc)) (uW u2) ((zI _ _ _).rw.ld vQ (k:=3) rfl:zH Pg s1 22 ⟨Z.y,3,none⟩=some (.slice t_0.s t_0.sl t_0.sc)) (uW u3) nx))
theorem xSI (nx:Q (.bool false) (Z.row (trL t_0) 5)) (u1:((t_0.pl:Nat):Int)<=8:=by omega) (u2:((t_0.ql:Nat):Int)<=8:=by omega) (u3:¬ ((t_0.sl:Nat):Int)<=8:=by omega):zL Pg 4 [.agg ⟨trL t_0⟩] Z Q :=
 let s1:=Z.row (trL t_0) 5;zK [.g,.g,.g,.l (.slice t_0.p t_0.pl t_0.pc),.g,.b true,.g,.g,.l (.slice t_0.q t_0.ql t_0.qc),.g,.b true,.g,.g,.g,.l (.slice t_0.s t_0.sl t_0.sc),.g,.b false,.g,.g] (kd (an6 ((zI _ _ _).rw.ld vQ (k:=1) rfl:zH Pg s1 22 ⟨Z.y,1,none⟩=some (.slice t_0.p t_0.pl t_0.pc)) (uW u1) ((zI _ _ _).rw.ld vQ (k:=2) rfl:zH Pg s1 22 ⟨Z.y,2,none⟩=some (.slice t_0.q t_0.ql t_0.qc)) (uW u2) ((zI _ _ _).rw.ld vQ (k:=3) rfl:zH Pg s1 22 ⟨Z.y,3,none⟩=some (.slice t_0.s t_0.sl t_0.sc)) (zDP u3) nx))
theorem xSH (nx:Q (.bool false) (Z.row (trL t_0) 5)) (u1:((t_0.pl:Nat):Int)<=8:=by omega) (u2:¬ ((t_0.ql:Nat):Int)<=8:=by omega):zL Pg 4 [.agg ⟨trL t_0⟩] Z Q :=
 let s1:=Z.row (trL t_0) 5;zK [.g,.g,.g,.l (.slice t_0.p t_0.pl t_0.pc),.g,.b true,.g,.g,.l (.slice t_0.q t_0.ql t_0.qc),.g,.b false,.g,.g,.g,.g] (kd (an4 ((zI _ _ _).rw.ld vQ (k:=1) rfl:zH Pg s1 22 ⟨Z.y,1,none⟩=some (.slice t_0.p t_0.pl t_0.pc)) (uW u1) ((zI _ _ _).rw.ld vQ (k:=2) rfl:zH Pg s1 22 ⟨Z.y,2,none⟩=some (.slice t_0.q t_0.ql t_0.qc)) (zDP u2) nx))
theorem xSG (nx:Q (.bool false) (Z.row (trL t_0) 5)) (u1:¬ ((t_0.pl:Nat):Int)<=8:=by omega):zL Pg 4 [.agg ⟨trL t_0⟩] Z Q :=
 zK [.g,.g,.g,.l (.slice t_0.p t_0.pl t_0.pc),.g,.b false,.g,.g,.g,.g,.g] (kd (an2 ((zI _ _ _).rw.ld vQ (k:=1) rfl:zH Pg (Z.row (trL t_0) 5) 22 ⟨Z.y,1,none⟩=some (.slice t_0.p t_0.pl t_0.pc)) (zDP u1) nx))
theorem xFY (h1:zJ Pg 15 [iV t_0.z,iV 1,iV 4] (Z.row (trL t_0) 5) (.bool true) (Z.row (trL t_0) 5)) (h2:zJ Pg 15 [iV t_0.w,iV 0,iV 1440] (Z.row (trL t_0) 5) (.bool true) (Z.row (trL t_0) 5)) (h3:zJ Pg 16 [.slice t_0.p t_0.pl t_0.pc,iV t_0.z] (Z.row (trL t_0) 5) (.bool true) (Z.row (trL t_0) 5)) (h4:zJ Pg 16 [.slice t_0.q t_0.ql t_0.qc,iV t_0.z] (Z.row (trL t_0) 5) (.bool true) (Z.row (trL t_0) 5)) (h5:zJ Pg 16 [.slice t_0.s t_0.sl t_0.sc,iV t_0.z] (Z.row (trL t_0) 5) (.bool true) (Z.row (trL t_0) 5)) (nx:Q (iV 0) (Z.row (trL t_0) 5)):zL Pg 5 [.agg ⟨trL t_0⟩] Z Q :=
 let s1:=Z.row (trL t_0) 5;zK [.g,.g,.g,.l (iV t_0.z),.c (.bool true) s1,.g,.g,.g,.l (iV t_0.w),.c (.bool true) s1,.g,.g,.g,.g,.l (.slice t_0.p t_0.pl t_0.pc),.g,.l (iV t_0.z),.c (.bool true) s1,.g,.g,.g,.g,.l (.slice t_0.q t_0.ql t_0.qc),.g,.l (iV t_0.z),.c (.bool true) s1,.g,.g,.g,.g,.l (.slice t_0.s t_0.sl t_0.sc),.g,.l (iV t_0.z),.c (.bool true) s1,.g,.g,.g] (kd (And.intro ((zI _ _ _).rw.ld zT (k:=0) rfl:zH Pg s1 3 ⟨Z.y,0,none⟩=some (iV t_0.z)) (an6 h1 ((zI _ _ _).rw.ld zT (k:=4) rfl:zH Pg s1 3 ⟨Z.y,4,none⟩=some (iV t_0.w)) h2 ((zI _ _ _).rw.ld vQ (k:=1) rfl:zH Pg s1 22 ⟨Z.y,1,none⟩=some (.slice t_0.p t_0.pl t_0.pc)) ((zI _ _ _).rw.ld zT (k:=0) rfl:zH Pg s1 3 ⟨Z.y,0,none⟩=some (iV t_0.z)) h3 (an6 ((zI _ _ _).rw.ld vQ (k:=2) rfl:zH Pg s1 22 ⟨Z.y,2,none⟩=some (.slice t_0.q t_0.ql t_0.qc)) ((zI _ _ _).rw.ld zT (k:=0) rfl:zH Pg s1 3 ⟨Z.y,0,none⟩=some (iV t_0.z)) h4 ((zI _ _ _).rw.ld vQ (k:=3) rfl:zH Pg s1 22 ⟨Z.y,3,none⟩=some (.slice t_0.s t_0.sl t_0.sc)) ((zI _ _ _).rw.ld zT (k:=0) rfl:zH Pg s1 3 ⟨Z.y,0,none⟩=some (iV t_0.z)) h5 nx))))
theorem xFX (h1:zJ Pg 15 [iV t_0.z,iV 1,iV 4] (Z.row (trL t_0) 5) (.bool true) (Z.row (trL t_0) 5)) (h2:zJ Pg 15 [iV t_0.w,iV 0,iV 1440] (Z.row (trL t_0) 5) (.bool true) (Z.row (trL t_0) 5)) (h3:zJ Pg 16 [.slice t_0.p t_0.pl t_0.pc,iV t_0.z] (Z.row (trL t_0) 5) (.bool true) (Z.row (trL t_0) 5)) (h4:zJ Pg 16 [.slice t_0.q t_0.ql t_0.qc,iV t_0.z] (Z.row (trL t_0) 5) (.bool true) (Z.row (trL t_0) 5)) (h5:zJ Pg 16 [.slice t_0.s t_0.sl t_0.sc,iV t_0.z] (Z.row (trL t_0) 5) (.bool false) (Z.row (trL t_0) 5)) (nx:Q (iV 1) (Z.row (trL t_0) 5)):zL Pg 5 [.agg ⟨trL t_0⟩] Z Q :=
 let s1:=Z.row (trL t_0) 5;zK [.g,.g,.g,.l (iV t_0.z),.c (.bool true) s1,.g,.g,.g,.l (iV t_0.w),.c (.bool true) s1,.g,.g,.g,.g,.l (.slice t_0.p t_0.pl t_0.pc),.g,.l (iV t_0.z),.c (.bool true) s1,.g,.g,.g,.g,.l (.slice t_0.q t_0.ql t_0.qc),.g,.l (iV t_0.z),.c (.bool true) s1,.g,.g,.g,.g,.l (.slice t_0.s t_0.sl t_0.sc),.g,.l (iV t_0.z),.c (.bool false) s1,.g,.g,.g] (kd (And.intro ((zI _ _ _).rw.ld zT (k:=0) rfl:zH Pg s1 3 ⟨Z.y,0,none⟩=some (iV t_0.z)) (an6 h1 ((zI _ _ _).rw.ld zT (k:=4) rfl:zH Pg s1 3 ⟨Z.y,4,none⟩=some (iV t_0.w)) h2 ((zI _ _ _).rw.ld vQ (k:=1) rfl:zH Pg s1 22 ⟨Z.y,1,none⟩=some (.slice t_0.p t_0.pl t_0.pc)) ((zI _ _ _).rw.ld zT (k:=0) rfl:zH Pg s1 3 ⟨Z.y,0,none⟩=some (iV t_0.z)) h3 (an6 ((zI _ _ _).rw.ld vQ (k:=2) rfl:zH Pg s1 22 ⟨Z.y,2,none⟩=some (.slice t_0.q t_0.ql t_0.qc)) ((zI _ _ _).rw.ld zT (k:=0) rfl:zH Pg s1 3 ⟨Z.y,0,none⟩=some (iV t_0.z)) h4 ((zI _ _ _).rw.ld vQ (k:=3) rfl:zH Pg s1 22 ⟨Z.y,3,none⟩=some (.slice t_0.s t_0.sl t_0.sc)) ((zI _ _ _).rw.ld zT (k:=0) rfl:zH Pg s1 3 ⟨Z.y,0,none⟩=some (iV t_0.z)) h5 nx))))
theorem xFW (h1:zJ Pg 15 [iV t_0.z,iV 1,iV 4] (Z.row (trL t_0) 5) (.bool true) (Z.row (trL t_0) 5)) (h2:zJ Pg 15 [iV t_0.w,iV 0,iV 1440] (Z.row (trL t_0) 5) (.bool true) (Z.row (trL t_0) 5)) (h3:zJ Pg 16 [.slice t_0.p t_0.pl t_0.pc,iV t_0.z] (Z.row (trL t_0) 5) (.bool true) (Z.row (trL t_0) 5)) (h4:zJ Pg 16 [.slice t_0.q t_0.ql t_0.qc,iV t_0.z] (Z.row (trL t_0) 5) (.bool false) (Z.row (trL t_0) 5)) (nx:Q (iV 1) (Z.row (trL t_0) 5)):zL Pg 5 [.agg ⟨trL t_0⟩] Z Q :=
 let s1:=Z.row (trL t_0) 5;zK [.g,.g,.g,.l (iV t_0.z),.c (.bool true) s1,.g,.g,.g,.l (iV t_0.w),.c (.bool true) s1,.g,.g,.g,.g,.l (.slice t_0.p t_0.pl t_0.pc),.g,.l (iV t_0.z),.c (.bool true) s1,.g,.g,.g,.g,.l (.slice t_0.q t_0.ql t_0.qc),.g,.l (iV t_0.z),.c (.bool false) s1,.g,.g,.g,.g,.g] (kd (an4 ((zI _ _ _).rw.ld zT (k:=0) rfl:zH Pg s1 3 ⟨Z.y,0,none⟩=some (iV t_0.z)) h1 ((zI _ _ _).rw.ld zT (k:=4) rfl:zH Pg s1 3 ⟨Z.y,4,none⟩=some (iV t_0.w)) h2 (an6 ((zI _ _ _).rw.ld vQ (k:=1) rfl:zH Pg s1 22 ⟨Z.y,1,none⟩=some (.slice t_0.p t_0.pl t_0.pc)) ((zI _ _ _).rw.ld zT (k:=0) rfl:zH Pg s1 3 ⟨Z.y,0,none⟩=some (iV t_0.z)) h3 ((zI _ _ _).rw.ld vQ (k:=2) rfl:zH Pg s1 22 ⟨Z.y,2,none⟩=some (.slice t_0.q t_0.ql t_0.qc)) ((zI _ _ _).rw.ld zT (k:=0) rfl:zH Pg s1 3 ⟨Z.y,0,none⟩=some (iV t_0.z)) h4 nx)))
theorem xFV (h1:zJ Pg 15 [iV t_0.z,iV 1,iV 4] (Z.row (trL t_0) 5) (.bool true) (Z.row (trL t_0) 5)) (h2:zJ Pg 15 [iV t_0.w,iV 0,iV 1440] (Z.row (trL t_0) 5) (.bool true) (Z.row (trL t_0) 5)) (h3:zJ Pg 16 [.slice t_0.p t_0.pl t_0.pc,iV t_0.z] (Z.row (trL t_0) 5) (.bool false) (Z.row (trL t_0) 5)) (nx:Q (iV 1) (Z.row (trL t_0) 5)):zL Pg 5 [.agg ⟨trL t_0⟩] Z Q :=
 let s1:=Z.row (trL t_0) 5;zK [.g,.g,.g,.l (iV t_0.z),.c (.bool true) s1,.g,.g,.g,.l (iV t_0.w),.c (.bool true) s1,.g,.g,.g,.g,.l (.slice t_0.p t_0.pl t_0.pc),.g,.l (iV t_0.z),.c (.bool false) s1,.g,.g,.g,.g,.g,.g,.g] (kd (And.intro ((zI _ _ _).rw.ld zT (k:=0) rfl:zH Pg s1 3 ⟨Z.y,0,none⟩=some (iV t_0.z)) (an6 h1 ((zI _ _ _).rw.ld zT (k:=4) rfl:zH Pg s1 3 ⟨Z.y,4,none⟩=some (iV t_0.w)) h2 ((zI _ _ _).rw.ld vQ (k:=1) rfl:zH Pg s1 22 ⟨Z.y,1,none⟩=some (.slice t_0.p t_0.pl t_0.pc)) ((zI _ _ _).rw.ld zT (k:=0) rfl:zH Pg s1 3 ⟨Z.y,0,none⟩=some (iV t_0.z)) h3 nx)))
theorem xFU (h1:zJ Pg 15 [iV t_0.z,iV 1,iV 4] (Z.row (trL t_0) 5) (.bool true) (Z.row (trL t_0) 5)) (h2:zJ Pg 15 [iV t_0.w,iV 0,iV 1440] (Z.row (trL t_0) 5) (.bool false) (Z.row (trL t_0) 5)) (nx:Q (iV 1) (Z.row (trL t_0) 5)):zL Pg 5 [.agg ⟨trL t_0⟩] Z Q :=
 let s1:=Z.row (trL t_0) 5;zK [.g,.g,.g,.l (iV t_0.z),.c (.bool true) s1,.g,.g,.g,.l (iV t_0.w),.c (.bool false) s1,.g,.g,.g,.g,.g,.g,.g,.g,.g] (kd (an4 ((zI _ _ _).rw.ld zT (k:=0) rfl:zH Pg s1 3 ⟨Z.y,0,none⟩=some (iV t_0.z)) h1 ((zI _ _ _).rw.ld zT (k:=4) rfl:zH Pg s1 3 ⟨Z.y,4,none⟩=some (iV t_0.w)) h2 nx))
theorem xFT (h1:zJ Pg 15 [iV t_0.z,iV 1,iV 4] (Z.row (trL t_0) 5) (.bool false) (Z.row (trL t_0) 5)) (nx:Q (iV 1) (Z.row (trL t_0) 5)):zL Pg 5 [.agg ⟨trL t_0⟩] Z Q :=
 let s1:=Z.row (trL t_0) 5;zK [.g,.g,.g,.l (iV t_0.z),.c (.bool false) s1,.g,.g,.g,.g,.g,.g,.g,.g,.g,.g] (kd (an2 ((zI _ _ _).rw.ld zT (k:=0) rfl:zH Pg s1 3 ⟨Z.y,0,none⟩=some (iV t_0.z)) h1 nx))
theorem xFS (h1:zJ Pg 15 [iV r.d,iV 0,iV 6] ((Z.row (trL t_0) 5).row (rdL r) 4) (.bool true) ((Z.row (trL t_0) 5).row (rdL r) 4)) (h2:zJ Pg 15 [iV r.t,iV 0,iV 1439] ((Z.row (trL t_0) 5).row (rdL r) 4) (.bool true) ((Z.row (trL t_0) 5).row (rdL r) 4)) (h3:zJ Pg 15 [iV r.a,iV 0,iV r.b] ((Z.row (trL t_0) 5).row (rdL r) 4) (.bool true) ((Z.row (trL t_0) 5).row (rdL r) 4)) (nx:Q (.bool true) ((Z.row (trL t_0) 5).row (rdL r) 4)) (u1:r.b<t_0.z:=by omega):zL Pg 31 [.agg ⟨trL t_0⟩,.agg ⟨rdL r⟩] Z Q :=
 let s1:=Z.row (trL t_0) 5;let s2:=s1.row (rdL r) 4;let s3:=Z.y+1;zK [.g,.g,.g,.g,.l (iV r.d),.c (.bool true) s2,.g,.g,.l (iV r.t),.c (.bool true) s2,.g,.g,.g,.l (iV r.a),.g,.l (iV r.b),.c (.bool true) s2,.g,.g,.g,.l (iV r.b),.g,.l (iV t_0.z),.b true,.g,.g] (kd (an4 ((zI _ _ _).rw.ld zT (k:=0) rfl:zH Pg s2 3 ⟨s3,0,none⟩=some (iV r.d)) h1 ((zI _ _ _).rw.ld zT (k:=1) rfl:zH Pg s2 3 ⟨s3,1,none⟩=some (iV r.t)) h2 (an6 ((zI _ _ _).rw.ld zT (k:=2) rfl:zH Pg s2 3 ⟨s3,2,none⟩=some (iV r.a)) ((zI _ _ _).rw.ld zT (k:=3) rfl:zH Pg s2 3 ⟨s3,3,none⟩=some (iV r.b)) h3 ((zI _ _ _).rw.ld zT (k:=3) rfl:zH Pg s2 3 ⟨s3,3,none⟩=some (iV r.b)) ((zI _ _ _).row.rw.ld zT (k:=0) rfl:zH Pg s2 3 ⟨Z.y,0,none⟩=some (iV t_0.z)) (zU u1) nx)))
theorem xFR (h1:zJ Pg 15 [iV r.d,iV 0,iV 6] ((Z.row (trL t_0) 5).row (rdL r) 4) (.bool true) ((Z.row (trL t_0) 5).row (rdL r) 4)) (h2:zJ Pg 15 [iV r.t,iV 0,iV 1439] ((Z.row (trL t_0) 5).row (rdL r) 4) (.bool true) ((Z.row (trL t_0) 5).row (rdL r) 4)) (h3:zJ Pg 15 [iV r.a,iV 0,iV r.b] ((Z.row (trL t_0) 5).row (rdL r) 4) (.bool true) ((Z.row (trL t_0) 5).row (rdL r) 4)) (nx:Q (.bool false) ((Z.row (trL t_0) 5).row (rdL r) 4)) (u1:¬ r.b<t_0.z:=by omega):zL Pg 31 [.agg ⟨trL t_0⟩,.agg ⟨rdL r⟩] Z Q :=
 let s1:=Z.row (trL t_0) 5;let s2:=s1.row (rdL r) 4;let s3:=Z.y+1;zK [.g,.g,.g,.g,.l (iV r.d),.c (.bool true) s2,.g,.g,.l (iV r.t),.c (.bool true) s2,.g,.g,.g,.l (iV r.a),.g,.l (iV r.b),.c (.bool true) s2,.g,.g,.g,.l (iV r.b),.g,.l (iV t_0.z),.b false,.g,.g] (kd (an4 ((zI _ _ _).rw.ld zT (k:=0) rfl:zH Pg s2 3 ⟨s3,0,none⟩=some (iV r.d)) h1 ((zI _ _ _).rw.ld zT (k:=1) rfl:zH Pg s2 3 ⟨s3,1,none⟩=some (iV r.t)) h2 (an6 ((zI _ _ _).rw.ld zT (k:=2) rfl:zH Pg s2 3 ⟨s3,2,none⟩=some (iV r.a)) ((zI _ _ _).rw.ld zT (k:=3) rfl:zH Pg s2 3 ⟨s3,3,none⟩=some (iV r.b)) h3 ((zI _ _ _).rw.ld zT (k:=3) rfl:zH Pg s2 3 ⟨s3,3,none⟩=some (iV r.b)) ((zI _ _ _).row.rw.ld zT (k:=0) rfl:zH Pg s2 3 ⟨Z.y,0,none⟩=some (iV t_0.z)) (zY u1) nx)))
theorem xFQ (h1:zJ Pg 15 [iV r.d,iV 0,iV 6] ((Z.row (trL t_0) 5).row (rdL r) 4) (.bool true) ((Z.row (trL t_0) 5).row (rdL r) 4)) (h2:zJ Pg 15 [iV r.t,iV 0,iV 1439] ((Z.row (trL t_0) 5).row (rdL r) 4) (.bool true) ((Z.row (trL t_0) 5).row (rdL r) 4)) (h3:zJ Pg 15 [iV r.a,iV 0,iV r.b] ((Z.row (trL t_0) 5).row (rdL r) 4) (.bool false) ((Z.row (trL t_0) 5).row (rdL r) 4)) (nx:Q (.bool false) ((Z.row (trL t_0) 5).row (rdL r) 4)):zL Pg 31 [.agg ⟨trL t_0⟩,.agg ⟨rdL r⟩] Z Q :=
 let s1:=Z.row (trL t_0) 5;let s2:=s1.row (rdL r) 4;let s3:=Z.y+1;zK [.g,.g,.g,.g,.l (iV r.d),.c (.bool true) s2,.g,.g,.l (iV r.t),.c (.bool true) s2,.g,.g,.g,.l (iV r.a),.g,.l (iV r.b),.c (.bool false) s2,.g,.g,.g,.g] (kd (And.intro ((zI _ _ _).rw.ld zT (k:=0) rfl:zH Pg s2 3 ⟨s3,0,none⟩=some (iV r.d)) (an6 h1 ((zI _ _ _).rw.ld zT (k:=1) rfl:zH Pg s2 3 ⟨s3,1,none⟩=some (iV r.t)) h2 ((zI _ _ _).rw.ld zT (k:=2) rfl:zH Pg s2 3 ⟨s3,2,none⟩=some (iV r.a)) ((zI _ _ _).rw.ld zT (k:=3) rfl:zH Pg s2 3 ⟨s3,3,none⟩=some (iV r.b)) h3 nx)))
theorem xFP (h1:zJ Pg 15 [iV r.d,iV 0,iV 6] ((Z.row (trL t_0) 5).row (rdL r) 4) (.bool true) ((Z.row (trL t_0) 5).row (rdL r) 4)) (h2:zJ Pg 15 [iV r.t,iV 0,iV 1439] ((Z.row (trL t_0) 5).row (rdL r) 4) (.bool false) ((Z.row (trL t_0) 5).row (rdL r) 4)) (nx:Q (.bool false) ((Z.row (trL t_0) 5).row (rdL r) 4)):zL Pg 31 [.agg ⟨trL t_0⟩,.agg ⟨rdL r⟩] Z Q :=
 let s1:=Z.row (trL t_0) 5;let s2:=s1.row (rdL r) 4;zK [.g,.g,.g,.g,.l (iV r.d),.c (.bool true) s2,.g,.g,.l (iV r.t),.c (.bool false) s2,.g,.g,.g,.g,.g,.g] (kd (an4 ((zI _ _ _).rw.ld zT (k:=0) rfl:zH Pg s2 3 ⟨(Z.y+1),0,none⟩=some (iV r.d)) h1 ((zI _ _ _).rw.ld zT (k:=1) rfl:zH Pg s2 3 ⟨(Z.y+1),1,none⟩=some (iV r.t)) h2 nx))
theorem xFO (h1:zJ Pg 15 [iV r.d,iV 0,iV 6] ((Z.row (trL t_0) 5).row (rdL r) 4) (.bool false) ((Z.row (trL t_0) 5).row (rdL r) 4)) (nx:Q (.bool false) ((Z.row (trL t_0) 5).row (rdL r) 4)):zL Pg 31 [.agg ⟨trL t_0⟩,.agg ⟨rdL r⟩] Z Q :=
 let s1:=Z.row (trL t_0) 5;let s2:=s1.row (rdL r) 4;zK [.g,.g,.g,.g,.l (iV r.d),.c (.bool false) s2,.g,.g,.g,.g,.g,.g,.g] (kd (an2 ((zI _ _ _).rw.ld zT (k:=0) rfl:zH Pg s2 3 ⟨(Z.y+1),0,none⟩=some (iV r.d)) h1 nx))
noncomputable def yJN:Code:=(Code.part [1,1,0,1,0,0] (zR Pg 63))
def zRB (l:Option Addr) (l_l l_c:Nat) (aD:Option Addr) (aA aC:Nat) (ao:Int):List (Nat × Value):=[(0,.slice l l_l l_c),(3,.slice aD aA aC),(4,iV ao)]
def yRF (l:Option Addr) (l_l l_c:Nat) (Q:(Option Addr)->Nat->Nat->Int->St->Prop):Alt:=⟨(Option Addr) × Nat × Nat × Int,.normal,fun t=>zRB l l_l l_c t.1 t.2.1 t.2.2.1 t.2.2.2,fun t=>[],fun t Z=>Q t.1 t.2.1 t.2.2.1 t.2.2.2 Z⟩
def yGX (l:Option Addr) (l_l l_c:Nat) (aD:Option Addr) (aA aC:Nat):List (Nat × Value):=[(3,.slice aD aA aC)]
def zMC (l:Option Addr) (l_l l_c:Nat) (Q:(Option Addr)->Nat->Nat->St->Prop):Alt:=⟨(Option Addr) × Nat × Nat,(.exit 0),fun t=>yGX l l_l l_c t.1 t.2.1 t.2.2,fun t=>[],fun t Z=>Q t.1 t.2.1 t.2.2 Z⟩
def yJO (l:Option Addr) (l_l l_c:Nat) (aD:Option Addr) (aA aC:Nat) (ao:Int) (Z:St) (Nx:(Option Addr)->Nat->Nat->Int->St->Prop) (Q0:(Option Addr)->Nat->Nat->St->Prop):Prop:=xK Pg (zW Pg) none yJN 41 (zRB l l_l l_c aD aA aC ao) [] [yRF l l_l l_c Nx,zMC l l_l l_c Q0] Z
def xAG (l:Option Addr) (l_l l_c:Nat) (aD:Option Addr) (aA aC:Nat) (ao:Int) (Z:St) (Q0:(Option Addr)->Nat->Nat->St->Prop):Prop:=xO Pg (zW Pg) none yJN 41 (zRB l l_l l_c aD aA aC ao) [] [zMC l l_l l_c Q0] Z
theorem yWO {Inv:Nat->(Option Addr)->Nat->Nat->Int->St->Prop} (hb:∀ k aD aA aC ao Z,Inv k aD aA aC ao Z->yJO l l_l l_c aD aA aC ao Z (NX4 Inv k) Q0):∀ k aD aA aC ao Z,Inv k aD aA aC ao Z->xAG l l_l l_c aD aA aC ao Z Q0 :=
 zAS (And.intro (vN 0) trivial) hb
noncomputable def xAE:Code:=(Code.part [1,1,0,1,0,0,1,0,0,1,0,1,0,0] (zR Pg 63))
def zRA (l:Option Addr) (l_l l_c:Nat) (aD:Option Addr) (aA aC:Nat) (ao:Int) (t5_2:Bool) (i6_2:Int):List (Nat × Value):=[(0,.slice l l_l l_c),(3,.slice aD aA aC),(4,iV ao),(5,.bool t5_2),(6,iV i6_2)]
def xNY (l:Option Addr) (l_l l_c:Nat) (aD:Option Addr) (aA aC:Nat) (ao:Int) (Q:Bool->Int->St->Prop):Alt:=⟨Bool × Int,.normal,fun t=>zRA l l_l l_c aD aA aC ao t.1 t.2,fun t=>[],fun t Z=>Q t.1 t.2 Z⟩
def yGW (l:Option Addr) (l_l l_c:Nat) (aD:Option Addr) (aA aC:Nat) (ao:Int) (t5_2:Bool):List (Nat × Value):=[(0,.slice l l_l l_c),(3,.slice aD aA aC),(4,iV ao),(5,.bool t5_2)]
def zTK (l:Option Addr) (l_l l_c:Nat) (aD:Option Addr) (aA aC:Nat) (ao:Int) (Q:Bool->St->Prop):Alt:=⟨Bool,(.exit 2),fun t=>yGW l l_l l_c aD aA aC ao t,fun t=>[],fun t Z=>Q t Z⟩
def zRC (l:Option Addr) (l_l l_c:Nat) (aD:Option Addr) (aA aC:Nat) (ao:Int) (t5_2:Bool) (i6_2:Int) (Z:St) (Nx:Bool->Int->St->Prop) (Q2:Bool->St->Prop):Prop:=xK Pg (zW Pg) none xAE 41 (zRA l l_l l_c aD aA aC ao t5_2 i6_2) [] [xNY l l_l l_c aD aA aC ao Nx,zTK l l_l l_c aD aA aC ao Q2] Z
def xAF (l:Option Addr) (l_l l_c:Nat) (aD:Option Addr) (aA aC:Nat) (ao:Int) (t5_2:Bool) (i6_2:Int) (Z:St) (Q2:Bool->St->Prop):Prop:=xO Pg (zW Pg) none xAE 41 (zRA l l_l l_c aD aA aC ao t5_2 i6_2) [] [zTK l l_l l_c aD aA aC ao Q2] Z
theorem yWN {Inv:Nat->Bool->Int->St->Prop} (hb:∀ k t5_2 i6_2 Z,Inv k t5_2 i6_2 Z->zRC l l_l l_c aD aA aC ao t5_2 i6_2 Z (NX2 Inv k) Q2):∀ k t5_2 i6_2 Z,Inv k t5_2 i6_2 Z->xAF l l_l l_c aD aA aC ao t5_2 i6_2 Z Q2 :=
 zXS (And.intro (vN 2) trivial) hb
theorem xNV {Nx:Bool->Int->St->Prop} (nx:Nx true (i6_2+1) Z) (u1:i6_2<((aA:Nat):Int):=by omega) (u2:I6 (i6_2+1):=by omega):zRC l l_l l_c aD aA aC ao true i6_2 Z Nx Q2 :=
 kO 0 (true,i6_2+1) [.g,.g,.g,.b true,.g,.g,.g,.g,.g,.n (i6_2+1),.g] (fun _ f=>(an2 (zU u1) (w64 u2) f)) nx
theorem xNU {Nx:Bool->Int->St->Prop} (h1:zH Pg Z 35 (zS p3_1_a (Int.toNat i6_2*4))=some (.agg ⟨rdL rA⟩)) (h2:zH Pg Z 35 (zS l_a (Int.toNat ao*4))=some (.agg ⟨rdL rB⟩)) (h3:uP Pg .eql 35 (.tmp 24) (.tmp 28) (.agg ⟨rdL rA⟩) (.agg ⟨rdL rB⟩)=some (.bool true)) (nx:Nx true (i6_2+1) Z) (u1:i6_2<((aA:Nat):Int):=by omega) (u2:Ix i6_2 aA:=by omega) (u3:Ix ao l_l:=by omega) (u4:I6 (i6_2+1):=by omega):zRC (some l_a) l_l l_c (some p3_1_a) aA aC ao false i6_2 Z Nx Q2 :=
 kO 0 (true,i6_2+1) [.g,.g,.g,.b true,.g,.g,.g,.g,.i,.l (.agg ⟨rdL rA⟩),.g,.g,.i,.l (.agg ⟨rdL rB⟩),.v (.bool true),.g,.g,.g,.n (i6_2+1),.g] (fun _ f=>(And.intro (zU u1) (an6 u2 h1 u3 h2 h3 (w64 u4) f))) nx
theorem xNT {Nx:Bool->Int->St->Prop} (h1:zH Pg Z 35 (zS p3_1_a (Int.toNat i6_2*4))=some (.agg ⟨rdL rA⟩)) (h2:zH Pg Z 35 (zS l_a (Int.toNat ao*4))=some (.agg ⟨rdL rB⟩)) (h3:uP Pg .eql 35 (.tmp 24) (.tmp 28) (.agg ⟨rdL rA⟩) (.agg ⟨rdL rB⟩)=some (.bool false)) (nx:Nx false (i6_2+1) Z) (u1:i6_2<((aA:Nat):Int):=by omega) (u2:Ix i6_2 aA:=by omega) (u3:Ix ao l_l:=by omega) (u4:I6 (i6_2+1):=by omega):zRC (some l_a) l_l l_c (some p3_1_a) aA aC ao false i6_2 Z Nx Q2 :=
 kO 0 (false,i6_2+1) [.g,.g,.g,.b true,.g,.g,.g,.g,.i,.l (.agg ⟨rdL rA⟩),.g,.g,.i,.l (.agg ⟨rdL rB⟩),.v (.bool false),.g,.g,.g,.n (i6_2+1),.g] (fun _ f=>(And.intro (zU u1) (an6 u2 h1 u3 h2 h3 (w64 u4) f))) nx
theorem xNS {t5_2:Bool} {Nx:Bool->Int->St->Prop} (nx:Q2 t5_2 Z) (u1:¬ i6_2<((aA:Nat):Int):=by omega):zRC l l_l l_c aD aA aC ao t5_2 i6_2 Z Nx Q2 :=
 kO 1 t5_2 [.g,.g,.g,.b false] (fun _ f=>(And.intro (zY u1) f)) nx
def zTL (l:Option Addr) (l_l l_c:Nat) (aD:Option Addr) (aA aC:Nat) (ao:Int) (t5_2:Bool) (Z:St) (Nx:(Option Addr)->Nat->Nat->Int->St->Prop) (Q0:(Option Addr)->Nat->Nat->St->Prop):Prop:=∀ g:Nat->Value,∃ an,Hid (kAt Pg (zW Pg) none yJN [1,0,0,1,0,1,0] (yBS 41 [yRF l l_l l_c Nx,zMC l l_l l_c Q0]) (.exit 2) ⟨Fm 41 (ov (yGW l l_l l_c aD aA aC ao t5_2) g),[]⟩ Z an)
theorem xNX {Nx:(Option Addr)->Nat->Nat->Int->St->Prop} {P2:Bool->St->Prop} (hL:xAF l l_l l_c aD aA aC ao false 0 Z P2) (k2:∀ t5_2' Z',P2 t5_2' Z'->zTL l l_l l_c aD aA aC ao t5_2' Z' Nx Q0) (u1:ao<((l_l:Nat):Int):=by omega):yJO l l_l l_c aD aA aC ao Z Nx Q0 :=
 zVQ [.g,.g,.g,.b true,.g,.g,.lf 41 (zRA l l_l l_c aD aA aC ao false 0) [zTK l l_l l_c aD aA aC ao P2]] (fun g=>kd (And.intro (zU u1) (And.intro (And.intro tt (And.intro (arf (zRA l l_l l_c aD aA aC ao false 0)) hL)) (And.intro (kz1 k2) trivial))))
theorem xNW {Nx:(Option Addr)->Nat->Nat->Int->St->Prop} (nx:Q0 aD aA aC Z) (u1:¬ ao<((l_l:Nat):Int):=by omega):yJO l l_l l_c aD aA aC ao Z Nx Q0 :=
 kO 1 (aD,aA,aC) [.g,.g,.g,.b false] (fun _ f=>(And.intro (zY u1) f)) nx
theorem yWL {Nx:(Option Addr)->Nat->Nat->Int->St->Prop} (nx:Nx aD aA aC (ao+1) Z) (u1:I6 (ao+1):=by omega):zTL l l_l l_c aD aA aC ao true Z Nx Q0 :=
 sF 0 (aD,aA,aC,ao+1) [.g,.g,.g,.n (ao+1),.g] (fun _ f=>(And.intro (w64 u1) f)) nx
theorem yWK {lP cO:Nat} {qO:Option Addr} {rG:Rd} {ZS:St} {Nx:(Option Addr)->Nat->Nat->Int->St->Prop} (h1:zH Pg Z 35 (zS l_a (Int.toNat ao*4))=some (.agg ⟨rdL rG⟩)) (h2:yA Pg 99 99 (.slice aD aA aC) (.slice (some ⟨Z.y,0,none⟩) 1 1) (Z.row (rdL rG) 4)=some (.slice qO lP cO,ZS)) (nx:Nx qO lP cO (ao+1) ZS) (u1:Ix ao l_l:=by omega) (u2:I6 (ao+1):=by omega):zTL (some l_a) l_l l_c aD aA aC ao false Z Nx Q0 :=
 sF 0 (qO,lP,cO,ao+1) [.g,.g,.g,.g,.g,.i,.l (.agg ⟨rdL rG⟩),.g,.e (.slice qO lP cO) ZS,.g,.g,.n (ao+1),.g] (fun _ f=>(an4 u1 h1 h2 (w64 u2) f)) nx
def yGY (l:Option Addr) (l_l l_c:Nat) (aD:Option Addr) (aA aC:Nat) (Z:St) (Q:Value->St->Prop):Prop:=∀ g:Nat->Value,∃ an,Hid (kAt Pg (zW Pg) none (zR Pg 63) [1,1,0,1,0] (kFn Pg 63 Q) (.exit 0) ⟨Fm 41 (ov (yGX l l_l l_c aD aA aC) g),[]⟩ Z an)
theorem xSN {P0:(Option Addr)->Nat->Nat->St->Prop} (hL:xAG l l_l l_c none 0 0 0 Z P0) (k0:∀ p3_1' l3_1' c3_1' Z',P0 p3_1' l3_1' c3_1' Z'->yGY l l_l l_c p3_1' l3_1' c3_1' Z' Q):zL Pg 63 [.slice l l_l l_c] Z Q :=
 zK [.g,.g,.g,.lf 41 (zRB l l_l l_c none 0 0 0) [zMC l l_l l_c P0]] (kd (And.intro (And.intro tt (And.intro (arf (zRB l l_l l_c none 0 0 0)) hL)) (And.intro (kz3 k0) trivial)))
theorem yWM (nx:Q (.slice aD aA aC) Z):yGY l l_l l_c aD aA aC Z Q :=
 sK [.g,.g] nx
noncomputable def yED:Code:=(Code.part [1,1,0,1,0,0] (zR Pg 32))
def zGK (taps:Option Addr) (taps_l taps_c:Nat) (card:Int) (a7:Option Addr) (a8 ba:Nat) (i6_1:Int):List (Nat × Value):=[(0,.slice taps taps_l taps_c),(1,iV card),(5,.slice a7 a8 ba),(6,iV i6_1)]
def ySZ (taps:Option Addr) (taps_l taps_c:Nat) (card:Int) (Q:(Option Addr)->Nat->Nat->Int->St->Prop):Alt:=⟨(Option Addr) × Nat × Nat × Int,.normal,fun t=>zGK taps taps_l taps_c card t.1 t.2.1 t.2.2.1 t.2.2.2,fun t=>[],fun t Z=>Q t.1 t.2.1 t.2.2.1 t.2.2.2 Z⟩
def zTW (taps:Option Addr) (taps_l taps_c:Nat) (card:Int) (a7:Option Addr) (a8 ba:Nat):List (Nat × Value):=[(5,.slice a7 a8 ba)]
def zJP (taps:Option Addr) (taps_l taps_c:Nat) (card:Int) (Q:(Option Addr)->Nat->Nat->St->Prop):Alt:=⟨(Option Addr) × Nat × Nat,(.exit 0),fun t=>zTW taps taps_l taps_c card t.1 t.2.1 t.2.2,fun t=>[],fun t Z=>Q t.1 t.2.1 t.2.2 Z⟩
def zLQ (taps:Option Addr) (taps_l taps_c:Nat) (card:Int) (a7:Option Addr) (a8 ba:Nat) (i6_1:Int) (Z:St) (Nx:(Option Addr)->Nat->Nat->Int->St->Prop) (Q0:(Option Addr)->Nat->Nat->St->Prop):Prop:=xK Pg (zW Pg) none yED 30 (zGK taps taps_l taps_c card a7 a8 ba i6_1) [] [ySZ taps taps_l taps_c card Nx,zJP taps taps_l taps_c card Q0] Z
def yEE (taps:Option Addr) (taps_l taps_c:Nat) (card:Int) (a7:Option Addr) (a8 ba:Nat) (i6_1:Int) (Z:St) (Q0:(Option Addr)->Nat->Nat->St->Prop):Prop:=xO Pg (zW Pg) none yED 30 (zGK taps taps_l taps_c card a7 a8 ba i6_1) [] [zJP taps taps_l taps_c card Q0] Z
theorem yHW {Inv:Nat->(Option Addr)->Nat->Nat->Int->St->Prop} (hb:∀ k a7 a8 ba i6_1 Z,Inv k a7 a8 ba i6_1 Z->zLQ taps taps_l taps_c card a7 a8 ba i6_1 Z (NX4 Inv k) Q0):∀ k a7 a8 ba i6_1 Z,Inv k a7 a8 ba i6_1 Z->yEE taps taps_l taps_c card a7 a8 ba i6_1 Z Q0 :=
 zAS (And.intro (vN 0) trivial) hb
theorem ySY {lH cF:Nat} {qF:Option Addr} {rD:Rd} {ZB:St} {Nx:(Option Addr)->Nat->Nat->Int->St->Prop} (h1:zH Pg Z 3 (zS taps_a ((Int.toNat i6_1*7)+2))=some (iV nA)) (h2:zH Pg Z 35 (zS taps_a ((Int.toNat i6_1*7)+3))=some (.agg ⟨rdL rD⟩)) (h3:yA Pg 99 99 (.slice a7 a8 ba) (.slice (some ⟨Z.y,0,none⟩) 1 1) (Z.row (rdL rD) 4)=some (.slice qF lH cF,ZB)) (nx:Nx qF lH cF (i6_1+1) ZB) (u1:i6_1<((taps_l:Nat):Int):=by omega) (u2:Ix i6_1 taps_l:=by omega) (u3:nA=card:=by omega) (u4:I6 (i6_1+1):=by omega):zLQ (some taps_a) taps_l taps_c card a7 a8 ba i6_1 Z Nx Q0 :=
 kO 0 (qF,lH,cF,i6_1+1) [.g,.g,.g,.b true,.g,.g,.i,.g,.l (iV nA),.g,.b true,.g,.g,.g,.i,.g,.l (.agg ⟨rdL rD⟩),.g,.e (.slice qF lH cF) ZB,.g,.g,.n (i6_1+1),.g] (fun _ f=>(an2 (zU u1) u2 (an6 h1 (vT u3) u2 h2 h3 (w64 u4) f))) nx
theorem ySX {Nx:(Option Addr)->Nat->Nat->Int->St->Prop} (h1:zH Pg Z 3 (zS taps_a ((Int.toNat i6_1*7)+2))=some (iV nA)) (nx:Nx a7 a8 ba (i6_1+1) Z) (u1:i6_1<((taps_l:Nat):Int):=by omega) (u2:Ix i6_1 taps_l:=by omega) (u3:¬ nA=card:=by omega) (u4:I6 (i6_1+1):=by omega):zLQ (some taps_a) taps_l taps_c card a7 a8 ba i6_1 Z Nx Q0 :=
 kO 0 (a7,a8,ba,i6_1+1) [.g,.g,.g,.b true,.g,.g,.i,.g,.l (iV nA),.g,.b false,.g,.n (i6_1+1),.g] (fun _ f=>(an5 (zU u1) u2 h1 (vD u3) (w64 u4) f)) nx
theorem ySW {Nx:(Option Addr)->Nat->Nat->Int->St->Prop} (nx:Q0 a7 a8 ba Z) (u1:¬ i6_1<((taps_l:Nat):Int):=by omega):zLQ taps taps_l taps_c card a7 a8 ba i6_1 Z Nx Q0 :=
 kO 1 (a7,a8,ba) [.g,.g,.g,.b false] (fun _ f=>(And.intro (zY u1) f)) nx
def zTX (taps:Option Addr) (taps_l taps_c:Nat) (card:Int) (a7:Option Addr) (a8 ba:Nat) (Z:St) (Q:Value->St->Prop):Prop:=∀ g:Nat->Value,∃ an,Hid (kAt Pg (zW Pg) none (zR Pg 32) [1,1,0,1,0] (kFn Pg 32 Q) (.exit 0) ⟨Fm 30 (ov (zTW taps taps_l taps_c card a7 a8 ba) g),[]⟩ Z an)
theorem xAZ {P0:(Option Addr)->Nat->Nat->St->Prop} (hL:yEE taps taps_l taps_c card none 0 0 0 Z P0) (k0:∀ p5_1' l5_1' c5_1' Z',P0 p5_1' l5_1' c5_1' Z'->zTX taps taps_l taps_c card p5_1' l5_1' c5_1' Z' Q):zL Pg 32 [.slice taps taps_l taps_c,iV card] Z Q :=
 zK [.g,.g,.g,.lf 30 (zGK taps taps_l taps_c card none 0 0 0) [zJP taps taps_l taps_c card P0]] (kd (And.intro (And.intro tt (And.intro (arf (zGK taps taps_l taps_c card none 0 0 0)) hL)) (And.intro (kz3 k0) trivial)))
theorem yHV {qG:Option Addr} {lG cG:Nat} {ZJ:St} (h1:zJ Pg 63 [.slice a7 a8 ba] Z (.slice qG lG cG) ZJ) (nx:Q (.slice qG lG cG) ZJ):zTX taps taps_l taps_c card a7 a8 ba Z Q :=
 sK [.g,.c (.slice qG lG cG) ZJ,.g] (And.intro h1 nx)
noncomputable def yQV:Code:=(Code.part [1,1,1,0,1,0,0] (zR Pg 17))
def zKZ (taps:Option Addr) (taps_l taps_c:Nat) (counts:Option Addr) (counts_l counts_c BA:Nat) (i7_1:Int):List (Nat × Value):=[(1,.slice taps taps_l taps_c),(2,.slice counts counts_l counts_c),(3,.pointer (some ⟨BA,0,none⟩)),(7,iV i7_1)]
def xFJ (taps:Option Addr) (taps_l taps_c:Nat) (counts:Option Addr) (counts_l counts_c BA:Nat) (Q:Int->St->Prop):Alt:=⟨Int,.normal,fun t=>zKZ taps taps_l taps_c counts counts_l counts_c BA t,fun t=>[],fun t Z=>Q t Z⟩
def yBC (taps:Option Addr) (taps_l taps_c:Nat) (counts:Option Addr) (counts_l counts_c BA:Nat) (i6_1:Int):List (Nat × Value):=[(6,iV i6_1)]
def zOO (taps:Option Addr) (taps_l taps_c:Nat) (counts:Option Addr) (counts_l counts_c BA:Nat) (Q:Int->St->Prop):Alt:=⟨Int,.ret,fun t=>yBC taps taps_l taps_c counts counts_l counts_c BA t,fun t=>[],fun t Z=>Q t Z⟩
def yBD (taps:Option Addr) (taps_l taps_c:Nat) (counts:Option Addr) (counts_l counts_c BA:Nat):List (Nat × Value):=[(1,.slice taps taps_l taps_c),(2,.slice counts counts_l counts_c),(3,.pointer (some ⟨BA,0,none⟩))]
def zOP (taps:Option Addr) (taps_l taps_c:Nat) (counts:Option Addr) (counts_l counts_c BA:Nat) (Q:St->Prop):Alt:=⟨Unit,(.exit 0),fun t=>yBD taps taps_l taps_c counts counts_l counts_c BA,fun t=>[],fun t Z=>Q Z⟩
def yBM (taps:Option Addr) (taps_l taps_c:Nat) (counts:Option Addr) (counts_l counts_c BA:Nat) (i7_1:Int) (Z:St) (Nx:Int->St->Prop) (Qr:Int->St->Prop) (Q0:St->Prop):Prop:=xK Pg (zW Pg) none yQV 121 (zKZ taps taps_l taps_c counts counts_l counts_c BA i7_1) [] [xFJ taps taps_l taps_c counts counts_l counts_c BA Nx,zOO taps taps_l taps_c counts counts_l counts_c BA Qr,zOP taps taps_l taps_c counts counts_l counts_c BA Q0] Z
def yRA (taps:Option Addr) (taps_l taps_c:Nat) (counts:Option Addr) (counts_l counts_c BA:Nat) (i7_1:Int) (Z:St) (Qr:Int->St->Prop) (Q0:St->Prop):Prop:=xO Pg (zW Pg) none yQV 121 (zKZ taps taps_l taps_c counts counts_l counts_c BA i7_1) [] [zOO taps taps_l taps_c counts counts_l counts_c BA Qr,zOP taps taps_l taps_c counts counts_l counts_c BA Q0] Z
theorem yQR {Q0:St->Prop} (hb:∀ k i7_1 Z,Inv k i7_1 Z->yBM taps taps_l taps_c counts counts_l counts_c BA i7_1 Z (NX1 Inv k) Qr Q0):∀ k i7_1 Z,Inv k i7_1 Z->yRA taps taps_l taps_c counts counts_l counts_c BA i7_1 Z Qr Q0 :=
 uH (And.intro zAW (And.intro (vN 0) trivial)) hb
theorem xFF {Q0:St->Prop} (h1:zH Pg Z 3 (zS counts_a (Int.toNat i7_1*1))=some (iV nA)) (h2:zJ Pg 15 [iV nA,iV 0,iV 50] Z (.bool true) Z) (nx:Nx (i7_1+1) Z) (u1:i7_1<4:=by omega) (u2:Ix i7_1 counts_l:=by omega) (u3:I6 (i7_1+1):=by omega):yBM taps taps_l taps_c (some counts_a) counts_l counts_c BA i7_1 Z Nx Qr Q0 :=
 kO 0 (i7_1+1) [.g,.b true,.g,.g,.i,.l (iV nA),.c (.bool true) Z,.g,.g,.n (i7_1+1),.g] (fun _ f=>(an5 (zU u1) u2 h1 h2 (w64 u3) f)) nx
theorem xFE {Q0:St->Prop} (nx:Q0 Z) (u1:¬ i7_1<4:=by omega):yBM taps taps_l taps_c counts counts_l counts_c BA i7_1 Z Nx Qr Q0 :=
 kO 2 () [.g,.b false] (fun _ f=>(And.intro (zY u1) f)) nx
def yWI (taps:Option Addr) (taps_l taps_c:Nat) (counts:Option Addr) (counts_l counts_c BA:Nat) (i6_1:Int) (Z:St) (Q:Value->St->Prop):Prop:=∀ g:Nat->Value,∃ an,Hid (kAt Pg (zW Pg) none (zR Pg 17) [1,1,1,0,1,0] (kFn Pg 17 Q) .ret ⟨Fm 121 (ov (yBC taps taps_l taps_c counts counts_l counts_c BA i6_1) g),[]⟩ Z an)
def yBK (taps:Option Addr) (taps_l taps_c:Nat) (counts:Option Addr) (counts_l counts_c BA:Nat) (Z:St) (Q:Value->St->Prop):Prop:=∀ g:Nat->Value,∃ an,Hid (kAt Pg (zW Pg) none (zR Pg 17) [1,1,1,0,1,0] (kFn Pg 17 Q) (.exit 0) ⟨Fm 121 (ov (yBD taps taps_l taps_c counts counts_l counts_c BA) g),[]⟩ Z an)
theorem xNQ (hL:yRA taps taps_l taps_c counts counts_l counts_c Z.y 0 (Z.row (trL t_0) 5) Pr P0) (kr:∀ i6_1' Z',Pr i6_1' Z'->yWI taps taps_l taps_c counts counts_l counts_c Z.y i6_1' Z' Q) (k0:∀ Z',P0 Z'->yBK taps taps_l taps_c counts counts_l counts_c Z.y Z' Q) (u1:¬ 40<((taps_l:Nat):Int):=by omega) (u2:((counts_l:Nat):Int)=4:=by omega):zL Pg 17 [.agg ⟨trL t_0⟩,.slice taps taps_l taps_c,.slice counts counts_l counts_c] Z Q :=
 zK [.g,.g,.g,.g,.b false,.g,.g,.b false,.g,.lf 121 (zKZ taps taps_l taps_c counts counts_l counts_c Z.y 0) [zOO taps taps_l taps_c counts counts_l counts_c Z.y Pr,zOP taps taps_l taps_c counts counts_l counts_c Z.y P0]] (kd (an2 (zY u1) (xN u2) (And.intro (And.intro tt (And.intro (arf (zKZ taps taps_l taps_c counts counts_l counts_c Z.y 0)) hL)) (And.intro (kz1 kr) (And.intro (kz0 k0) trivial)))))
noncomputable def yQU:Code:=(Code.part [1,1,1,1,0,1,0,0] (zR Pg 17))
def zKY (taps:Option Addr) (taps_l taps_c:Nat) (counts:Option Addr) (counts_l counts_c BA:Nat) (i8_2:Int):List (Nat × Value):=[(1,.slice taps taps_l taps_c),(2,.slice counts counts_l counts_c),(3,.pointer (some ⟨BA,0,none⟩)),(8,iV i8_2)]
def xFI (taps:Option Addr) (taps_l taps_c:Nat) (counts:Option Addr) (counts_l counts_c BA:Nat) (Q:Int->St->Prop):Alt:=⟨Int,.normal,fun t=>zKY taps taps_l taps_c counts counts_l counts_c BA t,fun t=>[],fun t Z=>Q t Z⟩
def yBA (taps:Option Addr) (taps_l taps_c:Nat) (counts:Option Addr) (counts_l counts_c BA:Nat) (i6_2:Int):List (Nat × Value):=[(6,iV i6_2)]
def zOM (taps:Option Addr) (taps_l taps_c:Nat) (counts:Option Addr) (counts_l counts_c BA:Nat) (Q:Int->St->Prop):Alt:=⟨Int,.ret,fun t=>yBA taps taps_l taps_c counts counts_l counts_c BA t,fun t=>[],fun t Z=>Q t Z⟩
def yBB (taps:Option Addr) (taps_l taps_c:Nat) (counts:Option Addr) (counts_l counts_c BA:Nat):List (Nat × Value):=[(1,.slice taps taps_l taps_c)]
def zON (taps:Option Addr) (taps_l taps_c:Nat) (counts:Option Addr) (counts_l counts_c BA:Nat) (Q:St->Prop):Alt:=⟨Unit,(.exit 2),fun t=>yBB taps taps_l taps_c counts counts_l counts_c BA,fun t=>[],fun t Z=>Q Z⟩
def zLA (taps:Option Addr) (taps_l taps_c:Nat) (counts:Option Addr) (counts_l counts_c BA:Nat) (i8_2:Int) (Z:St) (Nx:Int->St->Prop) (Qr:Int->St->Prop) (Q2:St->Prop):Prop:=xK Pg (zW Pg) none yQU 121 (zKY taps taps_l taps_c counts counts_l counts_c BA i8_2) [] [xFI taps taps_l taps_c counts counts_l counts_c BA Nx,zOM taps taps_l taps_c counts counts_l counts_c BA Qr,zON taps taps_l taps_c counts counts_l counts_c BA Q2] Z
def yQZ (taps:Option Addr) (taps_l taps_c:Nat) (counts:Option Addr) (counts_l counts_c BA:Nat) (i8_2:Int) (Z:St) (Qr:Int->St->Prop) (Q2:St->Prop):Prop:=xO Pg (zW Pg) none yQU 121 (zKY taps taps_l taps_c counts counts_l counts_c BA i8_2) [] [zOM taps taps_l taps_c counts counts_l counts_c BA Qr,zON taps taps_l taps_c counts counts_l counts_c BA Q2] Z
theorem yQQ {Q2:St->Prop} (hb:∀ k i8_2 Z,Inv k i8_2 Z->zLA taps taps_l taps_c counts counts_l counts_c BA i8_2 Z (NX1 Inv k) Qr Q2):∀ k i8_2 Z,Inv k i8_2 Z->yQZ taps taps_l taps_c counts counts_l counts_c BA i8_2 Z Qr Q2 :=
 uH (And.intro zAW (And.intro (vN 2) trivial)) hb
theorem xFD {nV:Int} {Q2:St->Prop} (h1:zH Pg Z 37 (zS taps_a (Int.toNat i8_2*7))=some (.agg ⟨tpL xB⟩)) (h2:zJ Pg 15 [iV xB.m,iV 0,iV 3] ((Z.row (yH 0 0 0 0 0 0 0) 7).own Z.y (tpL xB) 7) (.bool true) ((Z.row (yH 0 0 0 0 0 0 0) 7).own Z.y (tpL xB) 7)) (h3:zJ Pg 15 [iV xB.c,iV 0,iV 9] ((Z.row (yH 0 0 0 0 0 0 0) 7).own Z.y (tpL xB) 7) (.bool true) ((Z.row (yH 0 0 0 0 0 0 0) 7).own Z.y (tpL xB) 7)) (h4:zH Pg ((Z.row (yH 0 0 0 0 0 0 0) 7).own Z.y (tpL xB) 7) 24 ⟨BA,0,none⟩=some (.agg ⟨trL T2504⟩)) (h5:zJ Pg 31 [.agg ⟨trL T2504⟩,.agg ⟨rdL xB.r⟩] ((Z.row (yH 0 0 0 0 0 0 0) 7).own Z.y (tpL xB) 7) (.bool true) ((Z.row (yH 0 0 0 0 0 0 0) 7).own Z.y (tpL xB) 7)) (h6:zH Pg ((Z.row (yH 0 0 0 0 0 0 0) 7).own Z.y (tpL xB) 7) 3 (zS counts_a (Int.toNat xB.m*1))=some (iV nV)) (h7:zJ Pg 15 [iV xB.n,iV 0,iV (nV-1)] ((Z.row (yH 0 0 0 0 0 0 0) 7).own Z.y (tpL xB) 7) (.bool true) ((Z.row (yH 0 0 0 0 0 0 0) 7).own Z.y (tpL xB) 7)) (nx:Nx (i8_2+1) ((Z.row (yH 0 0 0 0 0 0 0) 7).own Z.y (tpL xB) 7)) (u1:i8_2<((taps_l:Nat):Int):=by omega) (u2:Ix i8_2 taps_l:=by omega) (u3:Ix xB.m counts_l:=by omega) (u4:I6 (nV-1):=by omega) (u5:I6 (i8_2+1):=by omega):zLA (some taps_a) taps_l taps_c (some counts_a) counts_l counts_c BA i8_2 Z Nx Qr Q2 :=
 let s1:=Z.row (yH 0 0 0 0 0 0 0) 7;let s2:=s1.own Z.y (tpL xB) 7;kO 0 (i8_2+1) [.g,.g,.g,.b true,.g,.g,.i,.l (.agg ⟨tpL xB⟩),.g,.e undef s2,.g,.l (iV xB.m),.c (.bool true) s2,.g,.g,.g,.l (iV xB.c),.c (.bool true) s2,.g,.g,.g,.l (.agg ⟨trL T2504⟩),.g,.l (.agg ⟨rdL xB.r⟩),.c (.bool true) s2,.g,.g,.g,.l (iV xB.n),.g,.g,.l (iV xB.m),.i,.l (iV nV),.n (nV-1),.c (.bool true) s2,.g,.g,.n (i8_2+1),.g] (fun _ f=>(an6 (zU u1) u2 h1 ((zI _ _ _).store (vs:=(tpL xB)) rfl zEQ rfl (nle rfl) rfl:zN Pg (evL [.pointer (some ⟨Z.y,0,none⟩),.agg ⟨tpL xB⟩]) s1 (.store 37 (.tmp 0) (.tmp 1))=some (undef,s2)) ((zI _ _ _).put.rw.ld zT (k:=0) rfl:zH Pg s2 3 ⟨Z.y,0,none⟩=some (iV xB.m)) h2 (an6 ((zI _ _ _).put.rw.ld zT (k:=2) rfl:zH Pg s2 3 ⟨Z.y,2,none⟩=some (iV xB.c)) h3 h4 ((zI _ _ _).put.rw.ldN yQF zWG (k:=3) rfl rfl (nle rfl):zH Pg s2 35 ⟨Z.y,3,none⟩=some (.agg ⟨rdL xB.r⟩)) h5 ((zI _ _ _).put.rw.ld zT (k:=1) rfl:zH Pg s2 3 ⟨Z.y,1,none⟩=some (iV xB.n)) (an6 ((zI _ _ _).put.rw.ld zT (k:=0) rfl:zH Pg s2 3 ⟨Z.y,0,none⟩=some (iV xB.m)) u3 h6 (w64 u4) h7 (w64 u5) f)))) nx
theorem xFC {Q2:St->Prop} (h1:zH Pg Z 37 (zS taps_a (Int.toNat i8_2*7))=some (.agg ⟨tpL xB⟩)) (h2:zJ Pg 15 [iV xB.m,iV 0,iV 3] ((Z.row (yH 0 0 0 0 0 0 0) 7).own Z.y (tpL xB) 7) (.bool true) ((Z.row (yH 0 0 0 0 0 0 0) 7).own Z.y (tpL xB) 7)) (h3:zJ Pg 15 [iV xB.c,iV 0,iV 9] ((Z.row (yH 0 0 0 0 0 0 0) 7).own Z.y (tpL xB) 7) (.bool true) ((Z.row (yH 0 0 0 0 0 0 0) 7).own Z.y (tpL xB) 7)) (h4:zH Pg ((Z.row (yH 0 0 0 0 0 0 0) 7).own Z.y (tpL xB) 7) 24 ⟨BA,0,none⟩=some (.agg ⟨trL T2504⟩)) (h5:zJ Pg 31 [.agg ⟨trL T2504⟩,.agg ⟨rdL xB.r⟩] ((Z.row (yH 0 0 0 0 0 0 0) 7).own Z.y (tpL xB) 7) (.bool false) ((Z.row (yH 0 0 0 0 0 0 0) 7).own Z.y (tpL xB) 7)) (nx:Qr (2:Int) ((Z.row (yH 0 0 0 0 0 0 0) 7).own Z.y (tpL xB) 7)) (u1:i8_2<((taps_l:Nat):Int):=by omega) (u2:Ix i8_2 taps_l:=by omega):zLA (some taps_a) taps_l taps_c counts counts_l counts_c BA i8_2 Z Nx Qr Q2 :=
 let s1:=Z.row (yH 0 0 0 0 0 0 0) 7;let s2:=s1.own Z.y (tpL xB) 7;kO 1 (2:Int) [.g,.g,.g,.b true,.g,.g,.i,.l (.agg ⟨tpL xB⟩),.g,.e undef s2,.g,.l (iV xB.m),.c (.bool true) s2,.g,.g,.g,.l (iV xB.c),.c (.bool true) s2,.g,.g,.g,.l (.agg ⟨trL T2504⟩),.g,.l (.agg ⟨rdL xB.r⟩),.c (.bool false) s2,.g,.g,.g] (fun _ f=>(an5 (zU u1) u2 h1 ((zI _ _ _).store (vs:=(tpL xB)) rfl zEQ rfl (nle rfl) rfl:zN Pg (evL [.pointer (some ⟨Z.y,0,none⟩),.agg ⟨tpL xB⟩]) s1 (.store 37 (.tmp 0) (.tmp 1))=some (undef,s2)) ((zI _ _ _).put.rw.ld zT (k:=0) rfl:zH Pg s2 3 ⟨Z.y,0,none⟩=some (iV xB.m)) (an6 h2 ((zI _ _ _).put.rw.ld zT (k:=2) rfl:zH Pg s2 3 ⟨Z.y,2,none⟩=some (iV xB.c)) h3 h4 ((zI _ _ _).put.rw.ldN yQF zWG (k:=3) rfl rfl (nle rfl):zH Pg s2 35 ⟨Z.y,3,none⟩=some (.agg ⟨rdL xB.r⟩)) h5 f))) nx
theorem xFB {Q2:St->Prop} (h1:zH Pg Z 37 (zS taps_a (Int.toNat i8_2*7))=some (.agg ⟨tpL xB⟩)) (h2:zJ Pg 15 [iV xB.m,iV 0,iV 3] ((Z.row (yH 0 0 0 0 0 0 0) 7).own Z.y (tpL xB) 7) (.bool true) ((Z.row (yH 0 0 0 0 0 0 0) 7).own Z.y (tpL xB) 7)) (h3:zJ Pg 15 [iV xB.c,iV 0,iV 9] ((Z.row (yH 0 0 0 0 0 0 0) 7).own Z.y (tpL xB) 7) (.bool false) ((Z.row (yH 0 0 0 0 0 0 0) 7).own Z.y (tpL xB) 7)) (nx:Qr (2:Int) ((Z.row (yH 0 0 0 0 0 0 0) 7).own Z.y (tpL xB) 7)) (u1:i8_2<((taps_l:Nat):Int):=by omega) (u2:Ix i8_2 taps_l:=by omega):zLA (some taps_a) taps_l taps_c counts counts_l counts_c BA i8_2 Z Nx Qr Q2 :=
 let s1:=Z.row (yH 0 0 0 0 0 0 0) 7;let s2:=s1.own Z.y (tpL xB) 7;kO 1 (2:Int) [.g,.g,.g,.b true,.g,.g,.i,.l (.agg ⟨tpL xB⟩),.g,.e undef s2,.g,.l (iV xB.m),.c (.bool true) s2,.g,.g,.g,.l (iV xB.c),.c (.bool false) s2,.g,.g,.g,.g,.g] (fun _ f=>(an2 (zU u1) u2 (an6 h1 ((zI _ _ _).store (vs:=(tpL xB)) rfl zEQ rfl (nle rfl) rfl:zN Pg (evL [.pointer (some ⟨Z.y,0,none⟩),.agg ⟨tpL xB⟩]) s1 (.store 37 (.tmp 0) (.tmp 1))=some (undef,s2)) ((zI _ _ _).put.rw.ld zT (k:=0) rfl:zH Pg s2 3 ⟨Z.y,0,none⟩=some (iV xB.m)) h2 ((zI _ _ _).put.rw.ld zT (k:=2) rfl:zH Pg s2 3 ⟨Z.y,2,none⟩=some (iV xB.c)) h3 f))) nx
theorem xFA {Q2:St->Prop} (nx:Q2 Z) (u1:¬ i8_2<((taps_l:Nat):Int):=by omega):zLA taps taps_l taps_c counts counts_l counts_c BA i8_2 Z Nx Qr Q2 :=
 kO 2 () [.g,.g,.g,.b false] (fun _ f=>(And.intro (zY u1) f)) nx
def yBI (taps:Option Addr) (taps_l taps_c:Nat) (counts:Option Addr) (counts_l counts_c BA:Nat) (i6_2:Int) (Z:St) (Q:Value->St->Prop):Prop:=∀ g:Nat->Value,∃ an,Hid (kAt Pg (zW Pg) none (zR Pg 17) [1,1,1,1,0,1,0] (kFn Pg 17 Q) .ret ⟨Fm 121 (ov (yBA taps taps_l taps_c counts counts_l counts_c BA i6_2) g),[]⟩ Z an)
def yBJ (taps:Option Addr) (taps_l taps_c:Nat) (counts:Option Addr) (counts_l counts_c BA:Nat) (Z:St) (Q:Value->St->Prop):Prop:=∀ g:Nat->Value,∃ an,Hid (kAt Pg (zW Pg) none (zR Pg 17) [1,1,1,1,0,1,0] (kFn Pg 17 Q) (.exit 2) ⟨Fm 121 (ov (yBB taps taps_l taps_c counts counts_l counts_c BA) g),[]⟩ Z an)
theorem yQM {P2:St->Prop} (hL:yQZ taps taps_l taps_c counts counts_l counts_c BA 0 Z Pr P2) (kr:∀ i6_2' Z',Pr i6_2' Z'->yBI taps taps_l taps_c counts counts_l counts_c BA i6_2' Z' Q) (k2:∀ Z',P2 Z'->yBJ taps taps_l taps_c counts counts_l counts_c BA Z' Q):yBK taps taps_l taps_c counts counts_l counts_c BA Z Q :=
 sK [.g,.lf 121 (zKY taps taps_l taps_c counts counts_l counts_c BA 0) [zOM taps taps_l taps_c counts counts_l counts_c BA Pr,zON taps taps_l taps_c counts counts_l counts_c BA P2]] (And.intro (And.intro tt (And.intro (arf (zKY taps taps_l taps_c counts counts_l counts_c BA 0)) hL)) (And.intro (kz1 kr) (And.intro (kz0 k2) trivial)))
theorem yQK (nx:Q (iV i6_2) Z):yBI taps taps_l taps_c counts counts_l counts_c BA i6_2 Z Q :=
 sK [] nx
noncomputable def zQU:Code:=(Code.part [1,1,1,1,1,0,1,0,0] (zR Pg 17))
def zKX (taps:Option Addr) (taps_l taps_c:Nat) (i10_3:Int):List (Nat × Value):=[(1,.slice taps taps_l taps_c),(10,iV i10_3)]
def zTI (taps:Option Addr) (taps_l taps_c:Nat) (Q:Int->St->Prop):Alt:=⟨Int,.normal,fun t=>zKX taps taps_l taps_c t,fun t=>[],fun t Z=>Q t Z⟩
def yAZ (taps:Option Addr) (taps_l taps_c:Nat):List (Nat × Value):=[(1,.slice taps taps_l taps_c)]
def zFK (taps:Option Addr) (taps_l taps_c:Nat) (Q:St->Prop):Alt:=⟨Unit,(.exit 4),fun t=>yAZ taps taps_l taps_c,fun t=>[],fun t Z=>Q Z⟩
def yAY (taps:Option Addr) (taps_l taps_c:Nat) (i6_3:Int):List (Nat × Value):=[(6,iV i6_3)]
def zFJ (taps:Option Addr) (taps_l taps_c:Nat) (Q:Int->St->Prop):Alt:=⟨Int,.ret,fun t=>yAY taps taps_l taps_c t,fun t=>[],fun t Z=>Q t Z⟩
def yBL (taps:Option Addr) (taps_l taps_c:Nat) (i10_3:Int) (Z:St) (Nx:Int->St->Prop) (Q4:St->Prop) (Qr:Int->St->Prop):Prop:=xK Pg (zW Pg) none zQU 121 (zKX taps taps_l taps_c i10_3) [] [zTI taps taps_l taps_c Nx,zFK taps taps_l taps_c Q4,zFJ taps taps_l taps_c Qr] Z
def yQY (taps:Option Addr) (taps_l taps_c:Nat) (i10_3:Int) (Z:St) (Q4:St->Prop) (Qr:Int->St->Prop):Prop:=xO Pg (zW Pg) none zQU 121 (zKX taps taps_l taps_c i10_3) [] [zFK taps taps_l taps_c Q4,zFJ taps taps_l taps_c Qr] Z
theorem yQP (hb:∀ k i10_3 Z,Inv k i10_3 Z->yBL taps taps_l taps_c i10_3 Z (NX1 Inv k) Q4 Qr):∀ k i10_3 Z,Inv k i10_3 Z->yQY taps taps_l taps_c i10_3 Z Q4 Qr :=
 uH (And.intro (vN 4) (And.intro zAW trivial)) hb
noncomputable def yQT:Code:=(Code.part [1,1,1,1,1,0,1,0,0,1,0,0,1,0,0] (zR Pg 17))
def zKW (taps:Option Addr) (taps_l taps_c:Nat) (i10_3 i11_4:Int):List (Nat × Value):=[(1,.slice taps taps_l taps_c),(10,iV i10_3),(11,iV i11_4)]
def xFH (taps:Option Addr) (taps_l taps_c:Nat) (i10_3:Int) (Q:Int->St->Prop):Alt:=⟨Int,.normal,fun t=>zKW taps taps_l taps_c i10_3 t,fun t=>[],fun t Z=>Q t Z⟩
def yAW (taps:Option Addr) (taps_l taps_c:Nat) (i10_3 i6_4:Int):List (Nat × Value):=[(6,iV i6_4)]
def zOK (taps:Option Addr) (taps_l taps_c:Nat) (i10_3:Int) (Q:Int->St->Prop):Alt:=⟨Int,.ret,fun t=>yAW taps taps_l taps_c i10_3 t,fun t=>[],fun t Z=>Q t Z⟩
def yAX (taps:Option Addr) (taps_l taps_c:Nat) (i10_3:Int):List (Nat × Value):=[(1,.slice taps taps_l taps_c),(10,iV i10_3)]
def zOL (taps:Option Addr) (taps_l taps_c:Nat) (i10_3:Int) (Q:St->Prop):Alt:=⟨Unit,(.exit 6),fun t=>yAX taps taps_l taps_c i10_3,fun t=>[],fun t Z=>Q Z⟩
def zQW (taps:Option Addr) (taps_l taps_c:Nat) (i10_3 i11_4:Int) (Z:St) (Nx:Int->St->Prop) (Qr:Int->St->Prop) (Q6:St->Prop):Prop:=xK Pg (zW Pg) none yQT 121 (zKW taps taps_l taps_c i10_3 i11_4) [] [xFH taps taps_l taps_c i10_3 Nx,zOK taps taps_l taps_c i10_3 Qr,zOL taps taps_l taps_c i10_3 Q6] Z
def yQX (taps:Option Addr) (taps_l taps_c:Nat) (i10_3 i11_4:Int) (Z:St) (Qr:Int->St->Prop) (Q6:St->Prop):Prop:=xO Pg (zW Pg) none yQT 121 (zKW taps taps_l taps_c i10_3 i11_4) [] [zOK taps taps_l taps_c i10_3 Qr,zOL taps taps_l taps_c i10_3 Q6] Z
theorem yQO (hb:∀ k i11_4 Z,Inv k i11_4 Z->zQW taps taps_l taps_c i10_3 i11_4 Z (NX1 Inv k) Qr Q6):∀ k i11_4 Z,Inv k i11_4 Z->yQX taps taps_l taps_c i10_3 i11_4 Z Qr Q6 :=
 uH (And.intro zAW (And.intro (vN 6) trivial)) hb
theorem xEX {nBG nBH:Int} (h1:zH Pg Z 3 (zS taps_a ((Int.toNat i10_3*7)+0))=some (iV nAC)) (h2:zH Pg Z 3 (zS taps_a ((Int.toNat i11_4*7)+0))=some (iV nBF)) (h3:zH Pg Z 3 (zS taps_a ((Int.toNat i10_3*7)+1))=some (iV nBG)) (h4:zH Pg Z 3 (zS taps_a ((Int.toNat i11_4*7)+1))=some (iV nBH)) (nx:Nx (i11_4+1) Z) (u1:i11_4<i10_3:=by omega) (u2:Ix i10_3 taps_l:=by omega) (u3:Ix i11_4 taps_l:=by omega) (u4:nAC=nBF:=by omega) (u5:¬ nBG=nBH:=by omega) (u6:I6 (i11_4+1):=by omega):zQW (some taps_a) taps_l taps_c i10_3 i11_4 Z Nx Qr Q6 :=
 kO 0 (i11_4+1) [.g,.g,.b true,.g,.g,.i,.g,.l (iV nAC),.g,.g,.i,.g,.l (iV nBF),.b true,.g,.g,.g,.i,.g,.l (iV nBG),.g,.g,.i,.g,.l (iV nBH),.b false,.g,.g,.g,.g,.n (i11_4+1),.g] (fun _ f=>(an6 (zU u1) u2 h1 u3 h2 (vT u4) (an6 u2 h3 u3 h4 (vD u5) (w64 u6) f))) nx
theorem xEW (h1:zH Pg Z 3 (zS taps_a ((Int.toNat i10_3*7)+0))=some (iV nAC)) (h2:zH Pg Z 3 (zS taps_a ((Int.toNat i11_4*7)+0))=some (iV nBF)) (nx:Nx (i11_4+1) Z) (u1:i11_4<i10_3:=by omega) (u2:Ix i10_3 taps_l:=by omega) (u3:Ix i11_4 taps_l:=by omega) (u4:¬ nAC=nBF:=by omega) (u5:I6 (i11_4+1):=by omega):zQW (some taps_a) taps_l taps_c i10_3 i11_4 Z Nx Qr Q6 :=
 kO 0 (i11_4+1) [.g,.g,.b true,.g,.g,.i,.g,.l (iV nAC),.g,.g,.i,.g,.l (iV nBF),.b false,.g,.g,.g,.g,.g,.n (i11_4+1),.g] (fun _ f=>(And.intro (zU u1) (an6 u2 h1 u3 h2 (vD u4) (w64 u5) f))) nx
theorem xEV (nx:Q6 Z) (u1:¬ i11_4<i10_3:=by omega):zQW taps taps_l taps_c i10_3 i11_4 Z Nx Qr Q6 :=
 kO 2 () [.g,.g,.b false] (fun _ f=>(And.intro (zY u1) f)) nx
def yWG (taps:Option Addr) (taps_l taps_c:Nat) (i10_3 i6_4:Int) (Z:St) (Nx:Int->St->Prop) (Q4:St->Prop) (Qr:Int->St->Prop):Prop:=∀ g:Nat->Value,∃ an,Hid (kAt Pg (zW Pg) none zQU [1,0,0,1,0] (yBS 121 [zTI taps taps_l taps_c Nx,zFK taps taps_l taps_c Q4,zFJ taps taps_l taps_c Qr]) .ret ⟨Fm 121 (ov (yAW taps taps_l taps_c i10_3 i6_4) g),[]⟩ Z an)
def yBG (taps:Option Addr) (taps_l taps_c:Nat) (i10_3:Int) (Z:St) (Nx:Int->St->Prop) (Q4:St->Prop) (Qr:Int->St->Prop):Prop:=∀ g:Nat->Value,∃ an,Hid (kAt Pg (zW Pg) none zQU [1,0,0,1,0] (yBS 121 [zTI taps taps_l taps_c Nx,zFK taps taps_l taps_c Q4,zFJ taps taps_l taps_c Qr]) (.exit 6) ⟨Fm 121 (ov (yAX taps taps_l taps_c i10_3) g),[]⟩ Z an)
theorem xEZ {P6:St->Prop} (hL:yQX taps taps_l taps_c i10_3 0 Z Pr P6) (kr:∀ i6_4' Z',Pr i6_4' Z'->yWG taps taps_l taps_c i10_3 i6_4' Z' Nx Q4 Qr) (k6:∀ Z',P6 Z'->yBG taps taps_l taps_c i10_3 Z' Nx Q4 Qr) (u1:i10_3<((taps_l:Nat):Int):=by omega):yBL taps taps_l taps_c i10_3 Z Nx Q4 Qr :=
 zVQ [.g,.g,.g,.b true,.g,.lf 121 (zKW taps taps_l taps_c i10_3 0) [zOK taps taps_l taps_c i10_3 Pr,zOL taps taps_l taps_c i10_3 P6]] (fun g=>kd (And.intro (zU u1) (And.intro (And.intro tt (And.intro (arf (zKW taps taps_l taps_c i10_3 0)) hL)) (And.intro (kz1 kr) (And.intro (kz0 k6) trivial)))))
theorem xEY (nx:Q4 Z) (u1:¬ i10_3<((taps_l:Nat):Int):=by omega):yBL taps taps_l taps_c i10_3 Z Nx Q4 Qr :=
 kO 1 () [.g,.g,.g,.b false] (fun _ f=>(And.intro (zY u1) f)) nx
theorem yQI (nx:Nx (i10_3+1) Z) (u1:I6 (i10_3+1):=by omega):yBG taps taps_l taps_c i10_3 Z Nx Q4 Qr :=
 sF 0 (i10_3+1) [.g,.n (i10_3+1),.g] (fun _ f=>(And.intro (w64 u1) f)) nx
def yBH (taps:Option Addr) (taps_l taps_c:Nat) (Z:St) (Q:Value->St->Prop):Prop:=∀ g:Nat->Value,∃ an,Hid (kAt Pg (zW Pg) none (zR Pg 17) [1,1,1,1,1,0,1,0] (kFn Pg 17 Q) (.exit 4) ⟨Fm 121 (ov (yAZ taps taps_l taps_c) g),[]⟩ Z an)
def yWH (taps:Option Addr) (taps_l taps_c:Nat) (i6_3:Int) (Z:St) (Q:Value->St->Prop):Prop:=∀ g:Nat->Value,∃ an,Hid (kAt Pg (zW Pg) none (zR Pg 17) [1,1,1,1,1,0,1,0] (kFn Pg 17 Q) .ret ⟨Fm 121 (ov (yAY taps taps_l taps_c i6_3) g),[]⟩ Z an)
theorem yQL {P4:St->Prop} (hL:yQY taps taps_l taps_c 0 Z P4 Pr) (k4:∀ Z',P4 Z'->yBH taps taps_l taps_c Z' Q) (kr:∀ i6_3' Z',Pr i6_3' Z'->yWH taps taps_l taps_c i6_3' Z' Q):yBJ taps taps_l taps_c counts counts_l counts_c BA Z Q :=
 sK [.g,.lf 121 (zKX taps taps_l taps_c 0) [zFK taps taps_l taps_c P4,zFJ taps taps_l taps_c Pr]] (And.intro (And.intro tt (And.intro (arf (zKX taps taps_l taps_c 0)) hL)) (And.intro (kz0 k4) (And.intro (kz1 kr) trivial)))
noncomputable def yQS:Code:=(Code.part [1,1,1,1,1,1,0,1,0,0] (zR Pg 17))
def zKV (taps:Option Addr) (taps_l taps_c:Nat) (i12_5:Int):List (Nat × Value):=[(1,.slice taps taps_l taps_c),(12,iV i12_5)]
def xFG (taps:Option Addr) (taps_l taps_c:Nat) (Q:Int->St->Prop):Alt:=⟨Int,.normal,fun t=>zKV taps taps_l taps_c t,fun t=>[],fun t Z=>Q t Z⟩
def yAU (taps:Option Addr) (taps_l taps_c:Nat) (i6_5:Int):List (Nat × Value):=[(6,iV i6_5)]
def zOI (taps:Option Addr) (taps_l taps_c:Nat) (Q:Int->St->Prop):Alt:=⟨Int,.ret,fun t=>yAU taps taps_l taps_c t,fun t=>[],fun t Z=>Q t Z⟩
def yAV (taps:Option Addr) (taps_l taps_c:Nat):List (Nat × Value):=[]
def zOJ (taps:Option Addr) (taps_l taps_c:Nat) (Q:St->Prop):Alt:=⟨Unit,(.exit 8),fun t=>yAV taps taps_l taps_c,fun t=>[],fun t Z=>Q Z⟩
def zQV (taps:Option Addr) (taps_l taps_c:Nat) (i12_5:Int) (Z:St) (Nx:Int->St->Prop) (Qr:Int->St->Prop) (Q8:St->Prop):Prop:=xK Pg (zW Pg) none yQS 121 (zKV taps taps_l taps_c i12_5) [] [xFG taps taps_l taps_c Nx,zOI taps taps_l taps_c Qr,zOJ taps taps_l taps_c Q8] Z
def yQW (taps:Option Addr) (taps_l taps_c:Nat) (i12_5:Int) (Z:St) (Qr:Int->St->Prop) (Q8:St->Prop):Prop:=xO Pg (zW Pg) none yQS 121 (zKV taps taps_l taps_c i12_5) [] [zOI taps taps_l taps_c Qr,zOJ taps taps_l taps_c Q8] Z
theorem yQN (hb:∀ k i12_5 Z,Inv k i12_5 Z->zQV taps taps_l taps_c i12_5 Z (NX1 Inv k) Qr Q8):∀ k i12_5 Z,Inv k i12_5 Z->yQW taps taps_l taps_c i12_5 Z Qr Q8 :=
 uH (And.intro zAW (And.intro (vN 8) trivial)) hb
theorem xEU (h1:zJ Pg 32 [.slice taps taps_l taps_c,iV i12_5] Z (.slice qY lU cY) ZY) (nx:Qr (3:Int) ZY) (u1:i12_5<10:=by omega) (u2:12<((lU:Nat):Int):=by omega):zQV taps taps_l taps_c i12_5 Z Nx Qr Q8 :=
 kO 1 (3:Int) [.g,.b true,.g,.g,.c (.slice qY lU cY) ZY,.g,.b true,.g] (fun _ f=>(an3 (zU u1) h1 (zU u2) f)) nx
theorem xET (h1:zJ Pg 32 [.slice taps taps_l taps_c,iV i12_5] Z (.slice qY lU cY) ZY) (nx:Nx (i12_5+1) ZY) (u1:i12_5<10:=by omega) (u2:¬ 12<((lU:Nat):Int):=by omega) (u3:I6 (i12_5+1):=by omega):zQV taps taps_l taps_c i12_5 Z Nx Qr Q8 :=
 kO 0 (i12_5+1) [.g,.b true,.g,.g,.c (.slice qY lU cY) ZY,.g,.b false,.g,.n (i12_5+1),.g] (fun _ f=>(an4 (zU u1) h1 (zY u2) (w64 u3) f)) nx
theorem xES (nx:Q8 Z) (u1:¬ i12_5<10:=by omega):zQV taps taps_l taps_c i12_5 Z Nx Qr Q8 :=
 kO 2 () [.g,.b false] (fun _ f=>(And.intro (zY u1) f)) nx
def yBE (taps:Option Addr) (taps_l taps_c:Nat) (i6_5:Int) (Z:St) (Q:Value->St->Prop):Prop:=∀ g:Nat->Value,∃ an,Hid (kAt Pg (zW Pg) none (zR Pg 17) [1,1,1,1,1,1,0,1,0] (kFn Pg 17 Q) .ret ⟨Fm 121 (ov (yAU taps taps_l taps_c i6_5) g),[]⟩ Z an)
def yBF (taps:Option Addr) (taps_l taps_c:Nat) (Z:St) (Q:Value->St->Prop):Prop:=∀ g:Nat->Value,∃ an,Hid (kAt Pg (zW Pg) none (zR Pg 17) [1,1,1,1,1,1,0,1,0] (kFn Pg 17 Q) (.exit 8) ⟨Fm 121 (ov (yAV taps taps_l taps_c) g),[]⟩ Z an)
theorem yQJ {P8:St->Prop} (hL:yQW taps taps_l taps_c 0 Z Pr P8) (kr:∀ i6_5' Z',Pr i6_5' Z'->yBE taps taps_l taps_c i6_5' Z' Q) (k8:∀ Z',P8 Z'->yBF taps taps_l taps_c Z' Q):yBH taps taps_l taps_c Z Q :=
 sK [.g,.lf 121 (zKV taps taps_l taps_c 0) [zOI taps taps_l taps_c Pr,zOJ taps taps_l taps_c P8]] (And.intro (And.intro tt (And.intro (arf (zKV taps taps_l taps_c 0)) hL)) (And.intro (kz1 kr) (And.intro (kz0 k8) trivial)))
theorem yQG {i6_5:Int} (nx:Q (iV i6_5) Z):yBE taps taps_l taps_c i6_5 Z Q :=
 sK [] nx
theorem yQH (nx:Q (iV 0) Z):yBF taps taps_l taps_c Z Q :=
 sK [.g] nx
end
section
variable {n lo hi z:Int} {p:Option Addr} {xs:List Int} {b:Bool} {l c:Nat} {T:Trf}
abbrev tpV (x:Tp):Value:=.agg ⟨tpL x⟩
abbrev rdV (r:Rd):Value:=.agg ⟨rdL r⟩
abbrev zCD (Z:St) (p:Option Addr) (l:Nat) (xs:List Int):Prop:=SlV Pg Z 3 1 p l (xs.map zBA)
abbrev zDV (Z:St) (t:Nat) (p:Option Addr) (l:Nat) (xs:List Tp):Prop:=SlV Pg Z t 7 p l (xs.map tpV)
abbrev xSM (Z:St) (t:Nat) (p:Option Addr) (l:Nat) (rs:List Rd):Prop:=SlV Pg Z t 4 p l (rs.map rdV)
structure TrfP (Z:St) (T:Trf) (A B C:List Int):Prop where
 a:zCD Z T.p T.pl A
 b:zCD Z T.q T.ql B
 c:zCD Z T.s T.sl C
def prB (xs:List Int) (z:Int):Bool:=xs.all (fun n=>inB n 0 10000) && decide ((xs.length:Int)=z)
def okT (T:Trf) (A B C:List Int):Bool:=inB T.z 1 4 && (inB T.w 0 1440 && (prB A T.z && (prB B T.z && prB C T.z)))
def zJZ (z:Int) (r:Rd):Bool:=inB r.d 0 6 && (inB r.t 0 1439 && (inB r.a 0 r.b && decide (r.b<z)))
section
variable {Z:St}
theorem vK {α:Type} {t n len:Nat} {xs:List α} {f:α->Value} (h:SlV Pg Z t n p len (xs.map f)):xs.length=len:=by have:=h.2.1;simpa using this
theorem TrfP.le {Z':St} {T:Trf} {A B C:List Int} (h:TrfP Z T A B C) (k:Le Z Z'):TrfP Z' T A B C:=⟨SlV.le h.a k,SlV.le h.b k,SlV.le h.c k⟩
theorem xWQ:zJ Pg 15 [iV n,iV lo,iV hi] Z (.bool (inB n lo hi)) Z:=by
 by_cases h1:lo<=n <;> by_cases h2:n<=hi
 ·exact (xUT ⟨by simp [inB,h1,h2],Nat.le_refl _⟩).pure
 ·exact (xUS ⟨by simp [inB,h1,h2],Nat.le_refl _⟩).pure
 ·exact (xLO ⟨by simp [inB,h1],Nat.le_refl _⟩).pure
 ·exact (xLO ⟨by simp [inB,h1],Nat.le_refl _⟩).pure
theorem wO (h:inB n lo hi=b):zJ Pg 15 [iV n,iV lo,iV hi] Z (.bool b) Z:=by rw [<- h];exact xWQ
theorem xBA (h:zCD Z p l xs) (hl:l<=1000000):zJ Pg 16 [.slice p l c,iV z] Z (.bool (prB xs z)) Z:=by
 have hlen:=vK h;have h0:=SlV.le h (le0 Z);refine zL.pure (yTA (Pr:=fun b U=>U=Z.re/\b=false/\xs.all (fun n=>inB n 0 10000)=false) (P0:=fun U=>U=Z.re/\xs.all (fun n=>inB n 0 10000)=true)
  (yCD (Inv:=fun k i U=>U=Z.re/\∃ j:Nat,i=j/\j+k=l/\(xs.take j).all (fun n=>inB n 0 10000)=true) ?_ l 0 Z.re ⟨rfl,0,rfl,by omega,by simp⟩) ?_ ?_)
 ·rintro k i U ⟨rfl,j,rfl,hk,ha⟩;by_cases hj:j<l;rotate_left
  ·have:j=l:=by omega
   subst this;rw [List.take_of_length_le (by omega)] at ha;exact yKV ⟨rfl,ha⟩ (by omega)
  obtain ⟨a,rfl,x,hx,ld⟩:=wS h0 hj;cases hb:inB x 0 10000 with
  | true=>exact yKX ld (wO hb) ⟨k-1,by omega,rfl,j+1,by omega,by omega,xMV hx ha hb⟩ (by omega) ⟨by omega,by omega⟩ ⟨by omega,by omega⟩
  | false=>exact yKW ld (wO hb) ⟨rfl,rfl,xVI (List.mem_of_getElem? hx) hb⟩ (by omega) ⟨by omega,by omega⟩
 ·rintro b U ⟨rfl,rfl,ha⟩;exact yCA ⟨by unfold prB;rw [ha];rfl,Nat.le_refl _⟩
 ·rintro U ⟨rfl,ha⟩;by_cases hz:(l:Int)=z
  ·exact yCC ⟨by unfold prB;rw [ha,hlen];simp [hz],Nat.le_refl _⟩ hz
  ·exact yCB ⟨by unfold prB;rw [ha,hlen];simp [hz],Nat.le_refl _⟩ hz
theorem zAI (h:zCD Z p l xs) (hl:l<=1000000) (e:prB xs z=b):zJ Pg 16 [.slice p l c,iV z] Z (.bool b) Z:=by rw [<- e];exact xBA h hl
theorem xVP:zJ Pg 4 [.agg ⟨trL T⟩] Z (.bool (decide (T.pl<=8) && (decide (T.ql<=8) && decide (T.sl<=8)))) Z:=by
 have hn:Z.y<=(Z.re.row (trL T) 5).low:=(New.row _ _ _:New Z.re _).lw;by_cases h1:T.pl<=8
 ·by_cases h2:T.ql<=8
  ·by_cases h3:T.sl<=8
   ·exact (xSJ ⟨by simp [h1,h2,h3],hn⟩).pure
   ·exact (xSI ⟨by simp [h1,h2,h3],hn⟩).pure
  ·exact (xSH ⟨by simp [h1,h2],hn⟩).pure
 ·exact (xSG ⟨by simp [h1],hn⟩).pure
theorem xOE {A B C:List Int} (h:TrfP Z T A B C) (h1:T.pl<=8) (h2:T.ql<=8) (h3:T.sl<=8):zJ Pg 5 [.agg ⟨trL T⟩] Z (iV (if okT T A B C=true then 0 else 1)) Z:=by
 have N:New Z.re (Z.re.row (trL T) 5):=New.row _ _ _;have h':=(h.le (le0 Z)).le N.le;have hn:=N.lw;unfold okT;cases e1:inB T.z 1 4 with
 | false=>exact (xFT (wO e1) ⟨rfl,hn⟩).pure
 | true =>
 cases e2:inB T.w 0 1440 with
 | false=>exact (xFU (wO e1) (wO e2) ⟨rfl,hn⟩).pure
 | true =>
 cases e3:prB A T.z with
 | false=>exact (xFV (wO e1) (wO e2) (zAI h'.a (by omega) e3) ⟨rfl,hn⟩).pure
 | true =>
 cases e4:prB B T.z with
 | false=>exact (xFW (wO e1) (wO e2) (zAI h'.a (by omega) e3) (zAI h'.b (by omega) e4) ⟨rfl,hn⟩).pure
 | true =>
 cases e5:prB C T.z with
 | false=>exact (xFX (wO e1) (wO e2) (zAI h'.a (by omega) e3) (zAI h'.b (by omega) e4) (zAI h'.c (by omega) e5) ⟨rfl,hn⟩).pure
 | true=>exact (xFY (wO e1) (wO e2) (zAI h'.a (by omega) e3) (zAI h'.b (by omega) e4) (zAI h'.c (by omega) e5) ⟨rfl,hn⟩).pure
theorem yRL {r:Rd}:zJ Pg 31 [.agg ⟨trL T⟩,.agg ⟨rdL r⟩] Z (.bool (zJZ T.z r)) Z:=by
 have hn:Z.y<=((Z.re.row (trL T) 5).row (rdL r) 4).low:=((New.row _ _ _).row':New Z.re _).lw;unfold zJZ;cases e1:inB r.d 0 6 with
 | false=>exact (xFO (wO e1) ⟨rfl,hn⟩).pure
 | true =>
 cases e2:inB r.t 0 1439 with
 | false=>exact (xFP (wO e1) (wO e2) ⟨rfl,hn⟩).pure
 | true =>
 cases e3:inB r.a 0 r.b with
 | false=>exact (xFQ (wO e1) (wO e2) (wO e3) ⟨rfl,hn⟩).pure
 | true =>
 by_cases e4:r.b<T.z
 ·exact (xFS (wO e1) (wO e2) (wO e3) ⟨by simp [e4],hn⟩ e4).pure
 ·exact (xFR (wO e1) (wO e2) (wO e3) ⟨by simp [e4],hn⟩ e4).pure
end
end
section
variable {x y:Rd} {t l c:Nat} {o1 o2:Operand} {p:Option Addr}
theorem yYA:[x.d,x.t,x.a,x.b]=[y.d,y.t,y.a,y.b]↔x=y:=by
 constructor
 ·intro h;simp at h;cases x;cases y;simp_all
 ·rintro rfl;rfl
theorem xST (h:zNN Pg t 4=true) (x y:Rd):yJ Pg (Op.equal t (rdV x) (rdV y))=some (decide (x=y)):=by
 rw [show decide (x=y)=decide ([x.d,x.t,x.a,x.b]=[y.d,y.t,y.a,y.b]) from decide_eq_decide.2 yYA.symm];exact xII (P:=Pg) (t:=t) (n:=4) (d:=9998) h («as»:=[x.d,x.t,x.a,x.b]) (bs:=[y.d,y.t,y.a,y.b]) rfl rfl
theorem xLT (h:zNN Pg t 4=true) (hg:yJ Pg (eqGuard .eql t o1 o2 (rdV x) (rdV y))=some ()):uP Pg .eql t o1 o2 (rdV x) (rdV y)=some (.bool (decide (x=y))):=by
 have e:uP Pg .eql t o1 o2 (rdV x) (rdV y)=(yJ Pg (do eqGuard .eql t o1 o2 (rdV x) (rdV y);binOp .eql t (rdV x) (rdV y))).filter (zQ RD):=rfl;have e2:binOp .eql t (rdV x) (rdV y)=(do let r <- Op.equal t (rdV x) (rdV y);pure (.bool r)):=rfl;rw [e,vF,hg];simp only [Option.bind_some];rw [e2,vF,xST h];rfl
theorem xUB (h:zNN Pg t 4=true) (hg:yJ Pg (eqGuard .neq t o1 o2 (rdV x) (rdV y))=some ()):uP Pg .neq t o1 o2 (rdV x) (rdV y)=some (.bool (!decide (x=y))):=by
 have e:uP Pg .neq t o1 o2 (rdV x) (rdV y)=(yJ Pg (do eqGuard .neq t o1 o2 (rdV x) (rdV y);binOp .neq t (rdV x) (rdV y))).filter (zQ RD):=rfl;have e2:binOp .neq t (rdV x) (rdV y)=(do let r <- Op.equal t (rdV x) (rdV y);pure (.bool (!r))):=rfl;rw [e,vF,hg];simp only [Option.bind_some];rw [e2,vF,xST h];rfl
theorem yGN:AppT Pg 99 99 35 4:=zBF (by kernel_rfl)
theorem yFV (r:Rd):zGZ Pg 35 4 (rdV r):=.inr ⟨yQF,zWG,_,rfl,rfl⟩
theorem xWW {b:Bool} (hb:decide (x=y)=b):uP Pg .eql 35 o1 o2 (rdV x) (rdV y)=some (.bool b):=by
 rw [<- hb];refine xLT (by kernel_rfl) ?_
 have:∀ x1 x2 x3 x4 y1 y2 y3 y4:Int,yJ Pg (eqGuard .eql 35 o1 o2 (.agg ⟨xW x1 x2 x3 x4⟩) (.agg ⟨xW y1 y2 y3 y4⟩))=some ():=fun _ _ _ _ _ _ _ _=>by kernel_rfl
 exact this _ _ _ _ _ _ _ _
section
variable {Z:St}
theorem xVS {rs:List Rd} (h:xSM Z 35 p l rs) (hl:l<=1000000):∃ q d Z',zJ Pg 63 [.slice p l c] Z (.slice q (wV rs).length d) Z'/\New Z Z':=by
 have hlen:=vK h;have h0:=SlV.le h (le0 Z);suffices hm:∃ q d Z',zJ Pg 63 [.slice p l c] Z (.slice q (wV rs).length d) Z'/\New Z Z'/\SlV Pg Z' 35 4 q (wV rs).length ((wV rs).map rdV)/\∀ b,AtP q b->Z.y<=b by
  obtain ⟨q,d,Z',h1,h2,_⟩:=hm;exact ⟨q,d,Z',h1,h2⟩
 refine zL.newSl (xSN (P0:=fun p' l' c' U=>l'=(wV rs).length/\New Z.re U/\Gr Pg U Z.y 35 4 p' l' c' ((wV rs).map rdV))
  (yWO (Inv:=fun k p' l' c' i U=>∃ s:Nat,i=s/\s+k=l/\(wV (rs.take s)).length<=s/\l'=(wV (rs.take s)).length/\New Z.re U/\Gr Pg U Z.y 35 4 p' l' c' ((wV (rs.take s)).map rdV)) ?_ l none 0 0 0 Z.re ⟨0,rfl,by omega,by simp [wV],by simp [wV],New.refl _,by simpa [wV] using Gr.nil⟩) ?_)
 ·rintro k p' l' c' i U ⟨s,rfl,hk,hle,rfl,hN,hg⟩;by_cases hs:s<l;rotate_left
  ·have:s=l:=by omega
   subst this;rw [List.take_of_length_le (by omega)] at hg ⊢;exact xNW ⟨rfl,hN,hg⟩ (by omega)
  obtain ⟨a,rfl,x,hx,ld⟩:=wS ((SlV.le h0 hN.le)) hs;obtain ⟨o,ho⟩:∃ o,o=wV (rs.take s):=⟨_,rfl⟩;have hsn:wV (rs.take (s+1))=yLP o x:=by rw [yM hx,zNF,ho]
  rw [<- ho] at hle hg ⊢;refine xNX (P2:=fun t U'=>U'=U/\t=decide (x∈o)) (yWN (Inv:=fun k' t i' U'=>U'=U/\∃ j:Nat,i'=j/\j+k'=o.length/\t=decide (x∈o.take j)) ?_ o.length false 0 U ⟨rfl,0,rfl,by omega,by simp⟩) ?_ (by omega)
  ·rintro k' t i' U' ⟨rfl,j,rfl,hj,rfl⟩;by_cases hjl:j<o.length;rotate_left
   ·refine xNS ⟨rfl, ?_⟩ (by omega);rw [List.take_of_length_le (by omega)]
   obtain ⟨b,rfl,y,hy,ld2⟩:=wS hg.slv hjl;have ht:o.take (j+1)=o.take j++[y]:=yM hy;by_cases hin:x∈o.take j
   ·rw [show decide (x∈o.take j)=true from decide_eq_true hin];exact xNV ⟨k' - 1,by omega,rfl,j+1,by omega,by omega,by rw [ht];simp [hin]⟩ (by omega) ⟨by omega,by omega⟩
   ·rw [show decide (x∈o.take j)=false from decide_eq_false hin];by_cases hxy:y=x
    ·exact xNU ld2 ld (xWW (decide_eq_true hxy)) ⟨k' - 1,by omega,rfl,j+1,by omega,by omega,by rw [ht];simp [hxy]⟩ (by omega) ⟨by omega,by omega⟩ ⟨by omega,by omega⟩ ⟨by omega,by omega⟩
    ·exact xNT ld2 ld (xWW (decide_eq_false hxy)) ⟨k' - 1,by omega,rfl,j+1,by omega,by omega,by rw [ht];simp [hin,Ne.symm hxy]⟩ (by omega) ⟨by omega,by omega⟩ ⟨by omega,by omega⟩ ⟨by omega,by omega⟩
  ·rintro t U' ⟨rfl,rfl⟩;by_cases hin:x∈o
   ·rw [decide_eq_true hin];have e:wV (rs.take (s+1))=o:=by rw [hsn];exact if_pos hin
    exact yWL ⟨k-1,by omega,s+1,by omega,by omega,by rw [e];omega,by rw [e],hN,by rw [e];exact hg⟩ ⟨by omega,by omega⟩
   ·rw [decide_eq_false hin];have e:wV (rs.take (s+1))=o++[x]:=by rw [hsn];exact if_neg hin
    obtain ⟨p4,c4,U2,g1,g2,g3,g4,g5⟩:=grow (Z0:=Z.re) (rdV x) yGN hg hN (New.refl U') (yFV _) (by omega) (e:=rfl) (hc:=rfl);exact yWK ld g1 ⟨k-1,by omega,s+1,by omega,by omega,by rw [e];simp;omega,by rw [e];simp,g3,by rw [e,List.map_append];exact g2⟩ ⟨by omega,by omega⟩ ⟨by omega,by omega⟩
 ·rintro p' l' c' U ⟨rfl,hN,hg⟩;exact yWM ⟨hN,p',c',rfl,hg.slv,fun b hb=>(hg.bd hb).1⟩
theorem xIH {xs:List Tp} {card:Int} (h:zDV Z 37 p l xs) (hl:l<=1000000):∃ q d Z',zJ Pg 32 [.slice p l c,iV card] Z (.slice q (wV (xU xs card)).length d) Z'/\New Z Z':=by
 have hlen:=vK h;have h0:=SlV.le h (le0 Z);refine (zL.new (P:=Pg) (f:=32) (args:=[.slice p l c,iV card]) (Z:=Z) (Q:=fun v s=>∃ q d,v=.slice q (wV (xU xs card)).length d) ?_ (by rintro v s s' h hle;exact h) (by rintro v s hr h;exact h)).elim fun v ⟨Z',g1,g2,q,d,e⟩=>⟨q,d,Z',e ▸ g1,g2⟩
 refine xAZ (P0:=fun p' l' c' U=>l'=(xU xs card).length/\l'<=l/\New Z.re U/\Gr Pg U Z.y 35 4 p' l' c' ((xU xs card).map rdV))
  (yHW (Inv:=fun k p' l' c' i U=>∃ s:Nat,i=s/\s+k=l/\l'=(xU (xs.take s) card).length/\l'<=s/\New Z.re U/\Gr Pg U Z.y 35 4 p' l' c' ((xU (xs.take s) card).map rdV)) ?_ l none 0 0 0 Z.re ⟨0,rfl,by omega,rfl,by omega,New.refl _,Gr.nil⟩) ?_
 ·rintro k p' l' c' i U ⟨s,rfl,hk,rfl,hle,hN,hg⟩;by_cases hs:s<l;rotate_left
  ·have:s=l:=by omega
   subst this;rw [List.take_of_length_le (by omega)] at hg hle ⊢;exact ySW ⟨rfl,hle,hN,hg⟩ (by omega)
  have hz:=SlV.le h0 hN.le;obtain ⟨a,rfl,x,hx,ld⟩:=wS hz hs;have hm:(xs.map tpV)[s]?=some (.agg ⟨tpL x⟩):=by rw [List.getElem?_map,hx];rfl
  have l2:=uF (t':=3) hz hm (k:=2) rfl zT;have l3:=yKL (t':=35) (m:=4) hz hm (k:=3) (ds:=rdL x.r) rfl rfl (by omega) yQF zWG;have e:=zJN (xs:=xs.take s) (x:=x) (c:=card);rw [<- yM hx] at e;by_cases hc:x.c=card
  ·rw [if_pos hc] at e;obtain ⟨p4,c4,U2,g1,g2,g3,g4,g5⟩:=grow (Z0:=Z.re) (rdV x.r) yGN hg hN (New.refl U) (yFV _) (by omega) (e:=rfl) (hc:=rfl);exact ySY l2 l3 g1 ⟨k-1,by omega,s+1,by omega,by omega,by rw [e];simp,by omega,g3,by rw [e,List.map_append];exact g2⟩ (by omega) ⟨by omega,by omega⟩ hc ⟨by omega,by omega⟩
  ·rw [if_neg hc,List.append_nil] at e;exact ySX l2 ⟨k-1,by omega,s+1,by omega,by omega,by rw [e],by omega,hN,by rw [e];exact hg⟩ (by omega) ⟨by omega,by omega⟩ hc ⟨by omega,by omega⟩
 ·rintro p' l' c' U ⟨rfl,hle,hN,hg⟩;obtain ⟨q,d,Z',k1,n1⟩:=xVS (c:=c') hg.slv (by omega);exact yHV k1 ⟨hN.trans n1,q,d,rfl⟩
end
end
end Go.Proofs.YtflfajphjmajpaaGreatDoor
