import Derived.Test.YtgfiniccfpfplaaGreatTy
import Derived.Test.YtgfiniccfpfplaaGreatRA
import Derived.Test.YtgfiniccfpfplaaGreatRL

namespace Go.Proofs.YtgfiniccfpfplaaGreat
open Go Go.Lay
open Tryz renaming prog → Pg
set_option linter.unusedVariables false
set_option maxRecDepth 20000
variable {l l1 c1:Nat} {v1 dG v0:Addr} {q1:Option Addr} {Inv:Nat→Int→St→Prop} {Qr Q0 Pr P0:St→Prop} {aX nF nC nE nB nA nD:Int} {σC σ:St} {Nx:Int→St→Prop} {Q:Value→St→Prop}
noncomputable def yZN:Code:=(Code.part [1,0,0] (zX Pg 91))
def zRY (l:Nat) (v1:Addr) (q1:Option Addr) (l1 c1:Nat) (aX:Int):List (Nat × Value):=[(0,.func (.yield l) ⟨[]⟩ ⟨[]⟩),(2,.pointer (some v1)),(7,.slice q1 l1 c1),(8,iV ((l1:Nat):Int)),(9,iV aX)]
def zHC (l:Nat) (v1:Addr) (q1:Option Addr) (l1 c1:Nat) (Q:Int→St→Prop):Alt:=⟨Int,.normal,fun t=>zRY l v1 q1 l1 c1 t,fun t=>[],fun t σ=>Q t σ⟩
def yJS (l:Nat) (v1:Addr) (q1:Option Addr) (l1 c1:Nat):List (Nat × Value):=[]
def zGK (l:Nat) (v1:Addr) (q1:Option Addr) (l1 c1:Nat) (Q:St→Prop):Alt:=⟨Unit,.ret,fun t=>yJS l v1 q1 l1 c1,fun t=>[],fun t σ=>Q σ⟩
def yJT (l:Nat) (v1:Addr) (q1:Option Addr) (l1 c1:Nat):List (Nat × Value):=[]
def zDI (l:Nat) (v1:Addr) (q1:Option Addr) (l1 c1:Nat) (Q:St→Prop):Alt:=⟨Unit,(.exit 0),fun t=>yJT l v1 q1 l1 c1,fun t=>[],fun t σ=>Q σ⟩
def yEU (l:Nat) (v1:Addr) (q1:Option Addr) (l1 c1:Nat) (aX:Int) (σ:St) (Nx:Int→St→Prop) (Qr:St→Prop) (Q0:St→Prop):Prop:=xQ Pg (zZ Pg) none yZN 26 (zRY l v1 q1 l1 c1 aX) [] [zHC l v1 q1 l1 c1 Nx,zGK l v1 q1 l1 c1 Qr,zDI l v1 q1 l1 c1 Q0] σ
def yZO (l:Nat) (v1:Addr) (q1:Option Addr) (l1 c1:Nat) (aX:Int) (σ:St) (Qr:St→Prop) (Q0:St→Prop):Prop:=xX Pg (zZ Pg) none yZN 26 (zRY l v1 q1 l1 c1 aX) [] [zGK l v1 q1 l1 c1 Qr,zDI l v1 q1 l1 c1 Q0] σ
theorem yVL (hb:∀ k aX σ,Inv k aX σ→yEU l v1 q1 l1 c1 aX σ (fun i9_1' σ'=>∃ k',k' < k∧Inv k' i9_1' σ') Qr Q0):∀ k aX σ,Inv k aX σ→yZO l v1 q1 l1 c1 aX σ Qr Q0 :=
 fun k aX σ h=>yF (alts:=[zGK l v1 q1 l1 c1 Qr,zDI l v1 q1 l1 c1 Q0]) (T:=Int) (lf:=fun t=>zRY l v1 q1 l1 c1 t) (mf:=fun t=>[]) (Inv:=fun k t σ=>Inv k t σ) (ai zEW (ai (zAB 0) trivial)) (fun k t σ h=>hb k t σ h) k aX σ h
theorem on1_s1a (h1:zB Pg σ 85 (zP dG (Int.toNat aX*5))=some (.agg ⟨zG nF nC nE nB nA⟩)) (h2:zB Pg ((σ.row (zG 0 0 0 0 0) 5).own σ.next (zG nF nC nE nB nA) 5) 3 v1=some (iV nD)) (h3:yRQ Pg l [iV aX,.agg ⟨zG nF nC nE nB nA⟩] ((σ.row (zG 0 0 0 0 0) 5).own σ.next (zG nF nC nE nB nA) 5) (.bool true) σC) (nx:Nx (aX+1) σC) (u1:aX<((l1:Nat):Int):=by omega) (u2:Ix aX l1:=by omega) (u3:nF=nD:=by omega) (u4:I6 (aX+1):=by omega):yEU l v1 (some dG) l1 c1 aX σ Nx Qr Q0 :=
 let s1:=σ.row (zG 0 0 0 0 0) 5;let s2:=s1.own σ.next (zG nF nC nE nB nA) 5;zO [.b true,.g,.i,.l (.agg ⟨zG nF nC nE nB nA⟩),.g,.g,.e undef s2,.g,.l (iV nF),.l (iV nD),.b true,.g,.g,.g,.l (.agg ⟨zG nF nC nE nB nA⟩),.c (.bool true) σC,.g,.g,.n (aX+1),.g,.fin (zHC l v1 (some dG) l1 c1 Nx) (aX+1)] (fun g=>kc (by kernel_rfl) (an4 (zU u1) u2 h1 ((zC _ _ _).store (vs:=(zG nF nC nE nB nA)) rfl zDS rfl (nle rfl) rfl:zS Pg (evL [.pointer (some ⟨σ.next,0,none⟩),.agg ⟨zG nF nC nE nB nA⟩]) s1 (.store 85 (.tmp 0) (.tmp 1))=some (undef,s2)) (an6 ((zC _ _ _).put.rw.ld zT (k:=0) rfl:zB Pg s2 3 ⟨σ.next,0,none⟩=some (iV nF)) h2 (xL u3) ((zC _ _ _).put.rw.ldN zUB zDS (k:=0) rfl rfl (nle rfl):zB Pg s2 85 ⟨σ.next,0,none⟩=some (.agg ⟨zG nF nC nE nB nA⟩)) h3 (w64 u4) (fin (alts:=[zHC l v1 (some dG) l1 c1 Nx,zGK l v1 (some dG) l1 c1 Qr,zDI l v1 (some dG) l1 c1 Q0]) (zHC l v1 (some dG) l1 c1 Nx) (aX+1) nx in0))))
theorem on1_s1c (h1:zB Pg σ 85 (zP dG (Int.toNat aX*5))=some (.agg ⟨zG nF nC nE nB nA⟩)) (h2:zB Pg ((σ.row (zG 0 0 0 0 0) 5).own σ.next (zG nF nC nE nB nA) 5) 3 v1=some (iV nD)) (nx:Nx (aX+1) ((σ.row (zG 0 0 0 0 0) 5).own σ.next (zG nF nC nE nB nA) 5)) (u1:aX<((l1:Nat):Int):=by omega) (u2:Ix aX l1:=by omega) (u3:¬ nF=nD:=by omega) (u4:I6 (aX+1):=by omega):yEU l v1 (some dG) l1 c1 aX σ Nx Qr Q0 :=
 let s1:=σ.row (zG 0 0 0 0 0) 5;let s2:=s1.own σ.next (zG nF nC nE nB nA) 5;zO [.b true,.g,.i,.l (.agg ⟨zG nF nC nE nB nA⟩),.g,.g,.e undef s2,.g,.l (iV nF),.l (iV nD),.b false,.g,.g,.n (aX+1),.g,.fin (zHC l v1 (some dG) l1 c1 Nx) (aX+1)] (fun g=>kc (by kernel_rfl) (an2 (zU u1) u2 (an6 h1 ((zC _ _ _).store (vs:=(zG nF nC nE nB nA)) rfl zDS rfl (nle rfl) rfl:zS Pg (evL [.pointer (some ⟨σ.next,0,none⟩),.agg ⟨zG nF nC nE nB nA⟩]) s1 (.store 85 (.tmp 0) (.tmp 1))=some (undef,s2)) ((zC _ _ _).put.rw.ld zT (k:=0) rfl:zB Pg s2 3 ⟨σ.next,0,none⟩=some (iV nF)) h2 (yZ u3) (w64 u4) (fin (alts:=[zHC l v1 (some dG) l1 c1 Nx,zGK l v1 (some dG) l1 c1 Qr,zDI l v1 (some dG) l1 c1 Q0]) (zHC l v1 (some dG) l1 c1 Nx) (aX+1) nx in0))))
theorem on1_s1d (nx:Q0 σ) (u1:¬ aX<((l1:Nat):Int):=by omega):yEU l v1 q1 l1 c1 aX σ Nx Qr Q0 :=
 zO [.b false,.fin (zDI l v1 q1 l1 c1 Q0) ()] (fun g=>kc (by kernel_rfl) (ai (zY u1) (fin (alts:=[zHC l v1 q1 l1 c1 Nx,zGK l v1 q1 l1 c1 Qr,zDI l v1 q1 l1 c1 Q0]) (zDI l v1 q1 l1 c1 Q0) () nx (inS (inS in0)))))
def yZP (l:Nat) (v1:Addr) (q1:Option Addr) (l1 c1:Nat) (σ:St) (Q:Value→St→Prop):Prop:=∀ g:Nat→Value,∃ an,Hid (kAt Pg (zZ Pg) none (zX Pg 91) [1,0] (kFn Pg 91 Q) .ret ⟨Fm 26 (ov (yJS l v1 q1 l1 c1) g),[]⟩ σ an)
def yJU (l:Nat) (v1:Addr) (q1:Option Addr) (l1 c1:Nat) (σ:St) (Q:Value→St→Prop):Prop:=∀ g:Nat→Value,∃ an,Hid (kAt Pg (zZ Pg) none (zX Pg 91) [1,0] (kFn Pg 91 Q) (.exit 0) ⟨Fm 26 (ov (yJT l v1 q1 l1 c1) g),[]⟩ σ an)
theorem on1_ra (h1:zB Pg σ 31 (zP v0 1)=some (.slice q1 l1 c1)) (hL:yZO l v1 q1 l1 c1 0 σ Pr P0) (kr:∀ σ',Pr σ'→yZP l v1 q1 l1 c1 σ' Q) (k0:∀ σ',P0 σ'→yJU l v1 q1 l1 c1 σ' Q):zQ Pg 91 [.func (.yield l) ⟨[]⟩ ⟨[]⟩,.pointer (some v0),.pointer (some v1)] σ Q :=
 zM [.g,.l (.slice q1 l1 c1),.g,.g,.lf 26 (zRY l v1 q1 l1 c1 0) [zGK l v1 q1 l1 c1 Pr,zDI l v1 q1 l1 c1 P0]] (kc (by kernel_rfl) (ai h1 (ai (ai tt (ai (arf (zRY l v1 q1 l1 c1 0)) hL)) (ai (fun (t:Unit) (g':Nat→Value) (σ':St) (q:Pr σ')=>kr σ' q g') (ai (fun (t:Unit) (g':Nat→Value) (σ':St) (q:P0 σ')=>k0 σ' q g') trivial)))))
theorem yVK (nx:Q (.tuple ⟨[]⟩) σ):yJU l v1 q1 l1 c1 σ Q :=
 fun g=>⟨[],kc (by kernel_rfl) nx⟩
end Go.Proofs.YtgfiniccfpfplaaGreat

namespace Go.Proofs.YtgfiniccfpfplaaGreat
open Go Go.Lay
set_option linter.unusedVariables false
set_option linter.unusedSimpArgs false
set_option maxRecDepth 20000
theorem appT_bch:AppT Tryz.prog 36 36 45 3:=zKK (by kernel_rfl)
theorem elOk_bch (b:Bch):zHQ Tryz.prog 45 3 (zML b):=.inr ⟨agg45,size45,_,rfl,rfl⟩
structure J (σ:St) (wl:List Value) (rv tv:Value) (X:Nat→Prop) (f:Nat→Std) (A:List Bch) (τ:St):Prop where
 new:New σ.re τ
 wk:Row τ ⟨σ.next,0,none⟩ wl
 ro:Row τ ⟨σ.next+1,0,none⟩ [rv]
 tr:Row τ ⟨σ.next+2,0,none⟩ [tv]
 nw:Own τ (σ.next+4) (stL f) 4
 out:∃ po co,Own τ (σ.next+3) [.slice po A.length co] 1∧Gr Tryz.prog τ (σ.next+5) 45 3 po A.length co (A.map zML)∧∀ b,AtP po b→¬ X b
section
variable {σ τ τ':St} {wl:List Value} {rv tv:Value} {X:Nat→Prop} {f:Nat→Std} {A:List Bch}
theorem J.push (h:J σ wl rv tv X f A τ) (k:Le τ τ') (n:New σ.re τ') (b:Bch) (hA:A.length≤1000) (hX3:¬ X (σ.next+3)) (hX:∀ x,X x→x<τ.next) :
    ∃ po co,zB Tryz.prog τ' 36 ⟨σ.next+3,0,none⟩=some (.slice po A.length co)∧∃ p' c' τ2,yK Tryz.prog 36 36 (.slice po A.length co) (.slice (some ⟨τ'.next,0,none⟩) 1 1) (τ'.row (rcd b.kind b.drv b.dut) 3)=some (.slice p' (A++[b]).length c',τ2) ∧
      zS Tryz.prog (evL [.pointer (some ⟨σ.next+3,0,none⟩),.slice p' (A++[b]).length c']) τ2 (.store 36 (.tmp 0) (.tmp 1))=some (undef,τ2.own (σ.next+3) [.slice p' (A++[b]).length c'] 1) ∧
      J σ wl rv tv X f (A++[b]) (τ2.own (σ.next+3) [.slice p' (A++[b]).length c'] 1)∧Only (fun x=>¬ X x) τ' (τ2.own (σ.next+3) [.slice p' (A++[b]).length c'] 1):=by
  obtain ⟨po,co,o,hg,hf⟩:=h.out
  have hnx:σ.next+5≤τ.next:=by have:=h.nw.lt;omega
  obtain ⟨p',c',τ2,g1,g2,g3,g4⟩:=yKI (zML b) appT_bch hg k (elOk_bch b) (by omega) hnx
  have el:(A++[b]).length=A.length+1:=by simp
  rw [← el] at g1
  have g2':Gr Tryz.prog τ2 (σ.next+5) 45 3 p' (A++[b]).length c' ((A++[b]).map zML):=by rw [el,List.map_append];exact g2
  have hpo:∀ x,AtP po x→σ.next+5≤x:=fun x hx=>(hg.bd hx).1
  have O1:Only (AtP po) τ' τ2:=(Only.row τ' _ _).trans' g3 (fun b _ hb=>.inl hb)
  have o':Own τ' (σ.next+3) [.slice po A.length co] 1:=o.le k
  have o2:Own τ2 (σ.next+3) [.slice po A.length co] 1:=O1.own' o' (fun hx=>by have:=hpo _ hx;omega)
  have hp':∀ x,AtP p' x→σ.next+5≤x:=fun x hx=>(g2'.bd hx).1
  have nkeep:∀ {a:Addr} {cs:List Value},Row τ a cs→a.block<σ.next+3→Row (τ2.own (σ.next+3) [.slice p' (A++[b]).length c'] 1) a cs:=fun hr hlt=>(O1.rw' (hr.le k) (fun hx=>by have:=hpo _ hx;omega)).own (by omega)
  have O2:Only (fun x=>¬ X x) τ' (τ2.own (σ.next+3) [.slice p' (A++[b]).length c'] 1):=by
    refine (O1.mono (T:=fun x=>¬ X x) (fun x _ hx=>hf x hx)).trans' (Only.own (S:=(·=σ.next+3)) (.inr rfl)) ?_
    rintro x _ rfl
    exact .inl hX3
  refine ⟨po,co,o'.ld (k:=0) rfl agg36 rfl,p',c',τ2,g1,o2.store (k:=0) (vs:=[.slice p' (A++[b]).length c']) rfl size36 rfl (by simp) rfl,⟨?_,nkeep h.wk (by show σ.next<_;omega),nkeep h.ro (by show σ.next+1<_;omega),nkeep h.tr (by show σ.next+2<_;omega), ?_,p',c',o2.put, ?_, ?_⟩,O2⟩
  · exact (n.of_only O1 (fun x hx=>by have:=hpo x hx;show σ.next≤x;omega)).own (by show σ.next≤σ.next+3;omega)
  · exact (O1.own' (h.nw.le k) (fun hx=>by have:=hpo _ hx;omega)).own (by omega)
  · exact g2'.only (Only.own (S:=(·=σ.next+3)) (.inr rfl)) (fun x hx e=>by have:=hp' x hx;omega)
  · intro x hx hXx
    rcases g4 x hx with h1 | h1
    · exact hf x h1 hXx
    · have:=hX x hXx
      have:=k.next
      omega
theorem J.take (h:J σ wl rv tv X f A τ) {i:Nat} (hi:i<6) (s:Std) (hX4:¬ X (σ.next+4)) :
    zS Tryz.prog (evL [.pointer (some ⟨σ.next+4,0+Int.toNat (i:Int)*4,none⟩),zNP s]) τ (.store 107 (.tmp 0) (.tmp 1))=some (undef,τ.own (σ.next+4) (stL (upd f i s)) 4) ∧
      J σ wl rv tv X (upd f i s) A (τ.own (σ.next+4) (stL (upd f i s)) 4)∧Only (fun x=>¬ X x) τ (τ.own (σ.next+4) (stL (upd f i s)) 4):=by
  obtain ⟨po,co,o,hg,hf⟩:=h.out
  refine ⟨yMW h.nw hi s,⟨h.new.own (by show σ.next≤σ.next+4;omega),h.wk.own (by show σ.next≠_;omega),h.ro.own (by show σ.next+1≠_;omega),h.tr.own (by show σ.next+2≠_;omega),h.nw.put,po,co,o.own (by omega), ?_,hf⟩, ?_⟩
  · exact hg.only (Only.own (S:=(·=σ.next+4)) (.inr rfl)) (fun x hx e=>by have:=(hg.bd hx).1;omega)
  · exact (Only.own (S:=(·=σ.next+4)) (.inr rfl)).mono (fun x _ e=>by rw [e];exact hX4)
end
end Go.Proofs.YtgfiniccfpfplaaGreat

namespace Go.Proofs.YtgfiniccfpfplaaGreat
open Go Go.Lay
set_option linter.unusedVariables false
set_option linter.unusedSimpArgs false
set_option maxRecDepth 20000
abbrev ySG:List Value:=[.int .u8 0,.func (.func 92) ⟨[]⟩ ⟨[]⟩,.int .u8 1,.func (.func 93) ⟨[]⟩ ⟨[]⟩,.int .u8 2,.func (.func 94) ⟨[]⟩ ⟨[]⟩,.int .u8 3,.func (.func 95) ⟨[]⟩ ⟨[]⟩,.int .u8 4,.func (.func 96) ⟨[]⟩ ⟨[]⟩]
section
variable {σ τ:St} {w:Wk} {p q:Option Addr} {l m c d:Nat} {rv tv:Value} {X:Nat→Prop} {f:Nat→Std} {A:List Bch}
theorem ySF {b j:Nat} (h:Row τ ⟨b,0,none⟩ ySG) (hj:j<5):zB Tryz.prog τ 118 (zP ⟨b,0,none⟩ (Int.toNat (j:Int)*2))=some (.agg ⟨[.int .u8 (j:Int),.func (.func (92+j)) ⟨[]⟩ ⟨[]⟩]⟩):=by
 rw [Int.toNat_natCast]
 match j,hj with
 | 0,_=>exact h.loadN (k:=0) zPO zJE rfl rfl (by simp)
 | 1,_=>exact h.loadN (k:=2) zPO zJE rfl rfl (by simp)
 | 2,_=>exact h.loadN (k:=4) zPO zJE rfl rfl (by simp)
 | 3,_=>exact h.loadN (k:=6) zPO zJE rfl rfl (by simp)
 | 4,_=>exact h.loadN (k:=8) zPO zJE rfl rfl (by simp)
end
end Go.Proofs.YtgfiniccfpfplaaGreat
