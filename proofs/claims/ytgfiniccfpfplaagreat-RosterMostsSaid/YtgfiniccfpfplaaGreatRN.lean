import Derived.Test.YtgfiniccfpfplaaGreatTy
import Derived.Test.YtgfiniccfpfplaaGreatLayD
import Derived.Test.YtgfiniccfpfplaaGreatRL

namespace Go.Proofs.YtgfiniccfpfplaaGreat
open Go Go.Lay
open Tryz renaming prog → Pg
set_option linter.unusedVariables false
set_option maxRecDepth 20000
variable {l l1 c1:Nat} {v1 ez v0:Addr} {q1:Option Addr} {Inv:Nat→Int→St→Prop} {Qr Q0 Pr P0:St→Prop} {aV nF nD nB nE nA nC:Int} {σC σ:St} {Nx:Int→St→Prop} {Q:Value→St→Prop}
noncomputable def yWW:Code:=(Code.part [1,0,0] (zX Pg 91))
def zRC (l:Nat) (v1:Addr) (q1:Option Addr) (l1 c1:Nat) (aV:Int):List (Nat × Value):=[(0,.func (.yield l) ⟨[]⟩ ⟨[]⟩),(2,.pointer (some v1)),(7,.slice q1 l1 c1),(8,iV ((l1:Nat):Int)),(9,iV aV)]
def zGL (l:Nat) (v1:Addr) (q1:Option Addr) (l1 c1:Nat) (Q:Int→St→Prop):Alt:=⟨Int,.normal,fun t=>zRC l v1 q1 l1 c1 t,fun t=>[],fun t σ=>Q t σ⟩
def yHS (l:Nat) (v1:Addr) (q1:Option Addr) (l1 c1:Nat):List (Nat × Value):=[]
def zFU (l:Nat) (v1:Addr) (q1:Option Addr) (l1 c1:Nat) (Q:St→Prop):Alt:=⟨Unit,.ret,fun t=>yHS l v1 q1 l1 c1,fun t=>[],fun t σ=>Q σ⟩
def yHT (l:Nat) (v1:Addr) (q1:Option Addr) (l1 c1:Nat):List (Nat × Value):=[]
def zCT (l:Nat) (v1:Addr) (q1:Option Addr) (l1 c1:Nat) (Q:St→Prop):Alt:=⟨Unit,(.exit 0),fun t=>yHT l v1 q1 l1 c1,fun t=>[],fun t σ=>Q σ⟩
def yDE (l:Nat) (v1:Addr) (q1:Option Addr) (l1 c1:Nat) (aV:Int) (σ:St) (Nx:Int→St→Prop) (Qr:St→Prop) (Q0:St→Prop):Prop:=xT Pg (zZ Pg) none yWW 26 (zRC l v1 q1 l1 c1 aV) [] [zGL l v1 q1 l1 c1 Nx,zFU l v1 q1 l1 c1 Qr,zCT l v1 q1 l1 c1 Q0] σ
def yWX (l:Nat) (v1:Addr) (q1:Option Addr) (l1 c1:Nat) (aV:Int) (σ:St) (Qr:St→Prop) (Q0:St→Prop):Prop:=wC Pg (zZ Pg) none yWW 26 (zRC l v1 q1 l1 c1 aV) [] [zFU l v1 q1 l1 c1 Qr,zCT l v1 q1 l1 c1 Q0] σ
theorem ySZ (hb:∀ k aV σ,Inv k aV σ→yDE l v1 q1 l1 c1 aV σ (fun i9_1' σ'=>∃ k',k' < k∧Inv k' i9_1' σ') Qr Q0):∀ k aV σ,Inv k aV σ→yWX l v1 q1 l1 c1 aV σ Qr Q0 :=
 fun k aV σ h=>yH (alts:=[zFU l v1 q1 l1 c1 Qr,zCT l v1 q1 l1 c1 Q0]) (T:=Int) (lf:=fun t=>zRC l v1 q1 l1 c1 t) (mf:=fun t=>[]) (Inv:=fun k t σ=>Inv k t σ) (ai zFR (ai (zAM 0) trivial)) (fun k t σ h=>hb k t σ h) k aV σ h
theorem on1_s1a:let s1:=σ.row (zF 0 0 0 0 0) 5;let s2:=s1.own σ.next (zF nF nD nB nE nA) 5;∀ (h1:zB Pg σ 85 (zP ez (Int.toNat aV*5))=some (.agg ⟨zF nF nD nB nE nA⟩)) (h2:zB Pg s2 3 v1=some (iV nC)) (h3:yPH Pg l [iV aV,.agg ⟨zF nF nD nB nE nA⟩] s2 (.bool true) σC) (nx:Nx (aV+1) σC) (u1:aV<((l1:Nat):Int):=by omega) (u2:Ix aV l1:=by omega) (u3:nF=nC:=by omega) (u4:I6 (aV+1):=by omega),yDE l v1 (some ez) l1 c1 aV σ Nx Qr Q0:=
 let s1:=σ.row (zF 0 0 0 0 0) 5;let s2:=s1.own σ.next (zF nF nD nB nE nA) 5;fun h1 h2 h3 nx u1 u2 u3 u4=>zO [.b true,.g,.i,.l (.agg ⟨zF nF nD nB nE nA⟩),.g,.g,.e undef s2,.g,.l (iV nF),.l (iV nC),.b true,.g,.g,.g,.l (.agg ⟨zF nF nD nB nE nA⟩),.c (.bool true) σC,.g,.g,.n (aV+1),.g,.fin (zGL l v1 (some ez) l1 c1 Nx) (aV+1)] (fun g=>kc (by kernel_rfl) (an4 (zW u1) u2 h1 ((zC _ _ _).store (vs:=(zF nF nD nB nE nA)) rfl zDB rfl (nle rfl) rfl:zS Pg (evL [.pointer (some ⟨σ.next,0,none⟩),.agg ⟨zF nF nD nB nE nA⟩]) s1 (.store 85 (.tmp 0) (.tmp 1))=some (undef,s2)) (an6 ((zC _ _ _).put.rw.ld zR (k:=0) rfl:zB Pg s2 3 ⟨σ.next,0,none⟩=some (iV nF)) h2 (xJ u3) ((zC _ _ _).put.rw.ldN zTF zDB (k:=0) rfl rfl (nle rfl):zB Pg s2 85 ⟨σ.next,0,none⟩=some (.agg ⟨zF nF nD nB nE nA⟩)) h3 (w64 u4) (fin (alts:=[zGL l v1 (some ez) l1 c1 Nx,zFU l v1 (some ez) l1 c1 Qr,zCT l v1 (some ez) l1 c1 Q0]) (zGL l v1 (some ez) l1 c1 Nx) (aV+1) nx in0))))
theorem on1_s1c:let s1:=σ.row (zF 0 0 0 0 0) 5;let s2:=s1.own σ.next (zF nF nD nB nE nA) 5;∀ (h1:zB Pg σ 85 (zP ez (Int.toNat aV*5))=some (.agg ⟨zF nF nD nB nE nA⟩)) (h2:zB Pg s2 3 v1=some (iV nC)) (nx:Nx (aV+1) s2) (u1:aV<((l1:Nat):Int):=by omega) (u2:Ix aV l1:=by omega) (u3:¬ nF=nC:=by omega) (u4:I6 (aV+1):=by omega),yDE l v1 (some ez) l1 c1 aV σ Nx Qr Q0:=
 let s1:=σ.row (zF 0 0 0 0 0) 5;let s2:=s1.own σ.next (zF nF nD nB nE nA) 5;fun h1 h2 nx u1 u2 u3 u4=>zO [.b true,.g,.i,.l (.agg ⟨zF nF nD nB nE nA⟩),.g,.g,.e undef s2,.g,.l (iV nF),.l (iV nC),.b false,.g,.g,.n (aV+1),.g,.fin (zGL l v1 (some ez) l1 c1 Nx) (aV+1)] (fun g=>kc (by kernel_rfl) (an2 (zW u1) u2 (an6 h1 ((zC _ _ _).store (vs:=(zF nF nD nB nE nA)) rfl zDB rfl (nle rfl) rfl:zS Pg (evL [.pointer (some ⟨σ.next,0,none⟩),.agg ⟨zF nF nD nB nE nA⟩]) s1 (.store 85 (.tmp 0) (.tmp 1))=some (undef,s2)) ((zC _ _ _).put.rw.ld zR (k:=0) rfl:zB Pg s2 3 ⟨σ.next,0,none⟩=some (iV nF)) h2 (xB u3) (w64 u4) (fin (alts:=[zGL l v1 (some ez) l1 c1 Nx,zFU l v1 (some ez) l1 c1 Qr,zCT l v1 (some ez) l1 c1 Q0]) (zGL l v1 (some ez) l1 c1 Nx) (aV+1) nx in0))))
theorem on1_s1d (nx:Q0 σ) (u1:¬ aV<((l1:Nat):Int):=by omega):yDE l v1 q1 l1 c1 aV σ Nx Qr Q0 :=
 zO [.b false,.fin (zCT l v1 q1 l1 c1 Q0) ()] (fun g=>kc (by kernel_rfl) (ai (zY u1) (fin (alts:=[zGL l v1 q1 l1 c1 Nx,zFU l v1 q1 l1 c1 Qr,zCT l v1 q1 l1 c1 Q0]) (zCT l v1 q1 l1 c1 Q0) () nx (inS (inS in0)))))
def yWY (l:Nat) (v1:Addr) (q1:Option Addr) (l1 c1:Nat) (σ:St) (Q:Value→St→Prop):Prop:=∀ g:Nat→Value,∃ an,Hid (kAt Pg (zZ Pg) none (zX Pg 91) [1,0] (kFn Pg 91 Q) .ret ⟨Fm 26 (ov (yHS l v1 q1 l1 c1) g),[]⟩ σ an)
def yHU (l:Nat) (v1:Addr) (q1:Option Addr) (l1 c1:Nat) (σ:St) (Q:Value→St→Prop):Prop:=∀ g:Nat→Value,∃ an,Hid (kAt Pg (zZ Pg) none (zX Pg 91) [1,0] (kFn Pg 91 Q) (.exit 0) ⟨Fm 26 (ov (yHT l v1 q1 l1 c1) g),[]⟩ σ an)
theorem on1_ra (h1:zB Pg σ 31 (zP v0 1)=some (.slice q1 l1 c1)) (hL:yWX l v1 q1 l1 c1 0 σ Pr P0) (kr:∀ σ',Pr σ'→yWY l v1 q1 l1 c1 σ' Q) (k0:∀ σ',P0 σ'→yHU l v1 q1 l1 c1 σ' Q):zQ Pg 91 [.func (.yield l) ⟨[]⟩ ⟨[]⟩,.pointer (some v0),.pointer (some v1)] σ Q :=
 zM [.g,.l (.slice q1 l1 c1),.g,.g,.lf 26 (zRC l v1 q1 l1 c1 0) [zFU l v1 q1 l1 c1 Pr,zCT l v1 q1 l1 c1 P0]] (kc (by kernel_rfl) (ai h1 (ai (ai tt (ai (arf (zRC l v1 q1 l1 c1 0)) hL)) (ai (fun (t:Unit) (g':Nat→Value) (σ':St) (q:Pr σ')=>kr σ' q g') (ai (fun (t:Unit) (g':Nat→Value) (σ':St) (q:P0 σ')=>k0 σ' q g') trivial)))))
theorem ySY (nx:Q (.tuple ⟨[]⟩) σ):yHU l v1 q1 l1 c1 σ Q :=
 fun g=>⟨[],kc (by kernel_rfl) nx⟩
end Go.Proofs.YtgfiniccfpfplaaGreat

namespace Go.Proofs.YtgfiniccfpfplaaGreat
open Go Go.Lay
set_option linter.unusedVariables false
set_option linter.unusedSimpArgs false
set_option maxRecDepth 20000
theorem yZN:AppT Tryz.prog 36 36 45 3:=zJT (by kernel_rfl)
theorem yYU (b:Bch):zGY Tryz.prog 45 3 (zLT b):=.inr ⟨agg45,size45,_,rfl,rfl⟩
structure J (σ:St) (wl:List Value) (rv tv:Value) (X:Nat→Prop) (f:Nat→Std) (A:List Bch) (τ:St):Prop where
 new:New σ.re τ
 wk:Row τ ⟨σ.next,0,none⟩ wl
 ro:Row τ ⟨σ.next+1,0,none⟩ [rv]
 tr:Row τ ⟨σ.next+2,0,none⟩ [tv]
 nw:Own τ (σ.next+4) (stL f) 4
 out:∃ po co,Own τ (σ.next+3) [.slice po A.length co] 1∧Gr Tryz.prog τ (σ.next+5) 45 3 po A.length co (A.map zLT)∧∀ b,AtP po b→¬ X b
section
variable {σ τ τ':St} {wl:List Value} {rv tv:Value} {X:Nat→Prop} {f:Nat→Std} {A:List Bch}
theorem J.push (h:J σ wl rv tv X f A τ) (k:Le τ τ') (n:New σ.re τ') (b:Bch) (hA:A.length≤1000) (hX3:¬ X (σ.next+3)) (hX:∀ x,X x→x<τ.next) :
    ∃ po co,zB Tryz.prog τ' 36 ⟨σ.next+3,0,none⟩=some (.slice po A.length co)∧∃ p' c' τ2,yJ Tryz.prog 36 36 (.slice po A.length co) (.slice (some ⟨τ'.next,0,none⟩) 1 1) (τ'.row (rcd b.kind b.drv b.dut) 3)=some (.slice p' (A++[b]).length c',τ2) ∧
      zS Tryz.prog (evL [.pointer (some ⟨σ.next+3,0,none⟩),.slice p' (A++[b]).length c']) τ2 (.store 36 (.tmp 0) (.tmp 1))=some (undef,τ2.own (σ.next+3) [.slice p' (A++[b]).length c'] 1) ∧
      J σ wl rv tv X f (A++[b]) (τ2.own (σ.next+3) [.slice p' (A++[b]).length c'] 1)∧Only (fun x=>¬ X x) τ' (τ2.own (σ.next+3) [.slice p' (A++[b]).length c'] 1):=by
  obtain ⟨po,co,o,hg,hf⟩:=h.out
  have hnx:σ.next+5≤τ.next:=by have:=h.nw.lt;omega
  obtain ⟨p',c',τ2,g1,g2,g3,g4⟩:=yII (zLT b) yZN hg k (yYU b) (by omega) hnx
  have el:(A++[b]).length=A.length+1:=by simp
  rw [← el] at g1
  have g2':Gr Tryz.prog τ2 (σ.next+5) 45 3 p' (A++[b]).length c' ((A++[b]).map zLT):=by rw [el,List.map_append];exact g2
  have hpo:∀ x,AtP po x→σ.next+5≤x:=fun x hx=>(hg.bd hx).1
  have O1:Only (AtP po) τ' τ2:=(Only.row τ' _ _).trans' g3 (fun b _ hb=>.inl hb)
  have o':Own τ' (σ.next+3) [.slice po A.length co] 1:=o.le k
  have o2:Own τ2 (σ.next+3) [.slice po A.length co] 1:=O1.own' o' (fun hx=>by have:=hpo _ hx;omega)
  have hp':∀ x,AtP p' x→σ.next+5≤x:=fun x hx=>(g2'.bd hx).1
  have nkeep:∀ {a:Addr} {cs:List Value},Row τ a cs→a.block<σ.next+3→Row (τ2.own (σ.next+3) [.slice p' (A++[b]).length c'] 1) a cs:=fun hr hlt=>(O1.rw' (hr.le k) (fun hx=>by have:=hpo _ hx;omega)).own (by omega)
  have O2:Only (fun x=>¬ X x) τ' (τ2.own (σ.next+3) [.slice p' (A++[b]).length c'] 1):=by
    refine (O1.mono (T:=fun x=>¬ X x) (fun x _ hx=>hf x hx)).trans' (Only.own (S:=(·=σ.next+3)) (.inr rfl)) ?_
    rintro x _ rfl
    exact .inl hX3
  refine ⟨po,co,o'.ld (k:=0) rfl agg36 rfl,p',c',τ2,g1,o2.store (k:=0) (vs:=[.slice p' (A++[b]).length c']) rfl size36 rfl (by simp) rfl,⟨?_,nkeep h.wk (by show σ.next<_;omega),nkeep h.ro (by show σ.next+1<_;omega),nkeep h.tr (by show σ.next+2<_;omega), ?_,p',c',o2.put, ?_, ?_⟩,O2⟩
  · exact (n.of_only O1 (fun x hx=>by have:=hpo x hx;show σ.next≤x;omega)).own (by show σ.next≤σ.next+3;omega)
  · exact (O1.own' (h.nw.le k) (fun hx=>by have:=hpo _ hx;omega)).own (by omega)
  · exact g2'.only (Only.own (S:=(·=σ.next+3)) (.inr rfl)) (fun x hx e=>by have:=hp' x hx;omega)
  · intro x hx hXx
    rcases g4 x hx with h1 | h1
    · exact hf x h1 hXx
    · have:=hX x hXx
      have:=k.next
      omega
theorem J.take (h:J σ wl rv tv X f A τ) {i:Nat} (hi:i<6) (s:Std) (hX4:¬ X (σ.next+4)) :
    zS Tryz.prog (evL [.pointer (some ⟨σ.next+4,0+Int.toNat (i:Int)*4,none⟩),zMW s]) τ (.store 107 (.tmp 0) (.tmp 1))=some (undef,τ.own (σ.next+4) (stL (upd f i s)) 4) ∧
      J σ wl rv tv X (upd f i s) A (τ.own (σ.next+4) (stL (upd f i s)) 4)∧Only (fun x=>¬ X x) τ (τ.own (σ.next+4) (stL (upd f i s)) 4):=by
  obtain ⟨po,co,o,hg,hf⟩:=h.out
  refine ⟨yKR h.nw hi s,⟨h.new.own (by show σ.next≤σ.next+4;omega),h.wk.own (by show σ.next≠_;omega),h.ro.own (by show σ.next+1≠_;omega),h.tr.own (by show σ.next+2≠_;omega),h.nw.put,po,co,o.own (by omega), ?_,hf⟩, ?_⟩
  · exact hg.only (Only.own (S:=(·=σ.next+4)) (.inr rfl)) (fun x hx e=>by have:=(hg.bd hx).1;omega)
  · exact (Only.own (S:=(·=σ.next+4)) (.inr rfl)).mono (fun x _ e=>by rw [e];exact hX4)
end
end Go.Proofs.YtgfiniccfpfplaaGreat

namespace Go.Proofs.YtgfiniccfpfplaaGreat
open Go Go.Lay
set_option linter.unusedVariables false
set_option linter.unusedSimpArgs false
set_option maxRecDepth 20000
abbrev yPY:List Value:=[.int .u8 0,.func (.func 92) ⟨[]⟩ ⟨[]⟩,.int .u8 1,.func (.func 93) ⟨[]⟩ ⟨[]⟩,.int .u8 2,.func (.func 94) ⟨[]⟩ ⟨[]⟩,.int .u8 3,.func (.func 95) ⟨[]⟩ ⟨[]⟩,.int .u8 4,.func (.func 96) ⟨[]⟩ ⟨[]⟩]
section
variable {σ τ:St} {w:Wk} {p q:Option Addr} {l m c d:Nat} {rv tv:Value} {X:Nat→Prop} {f:Nat→Std} {A:List Bch}
theorem yPX {b j:Nat} (h:Row τ ⟨b,0,none⟩ yPY) (hj:j<5):zB Tryz.prog τ 118 (zP ⟨b,0,none⟩ (Int.toNat (j:Int)*2))=some (.agg ⟨[.int .u8 (j:Int),.func (.func (92+j)) ⟨[]⟩ ⟨[]⟩]⟩):=by
 rw [Int.toNat_natCast]
 match j,hj with
 | 0,_=>exact h.loadN (k:=0) zOR zIM rfl rfl (by simp)
 | 1,_=>exact h.loadN (k:=2) zOR zIM rfl rfl (by simp)
 | 2,_=>exact h.loadN (k:=4) zOR zIM rfl rfl (by simp)
 | 3,_=>exact h.loadN (k:=6) zOR zIM rfl rfl (by simp)
 | 4,_=>exact h.loadN (k:=8) zOR zIM rfl rfl (by simp)
end
end Go.Proofs.YtgfiniccfpfplaaGreat
