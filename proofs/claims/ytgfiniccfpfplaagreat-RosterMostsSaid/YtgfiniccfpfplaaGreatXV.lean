import Derived.Test.YtgfiniccfpfplaaGreatSP
import Derived.Test.YtgfiniccfpfplaaGreatSQ
import Derived.Test.YtgfiniccfpfplaaGreatPF
import Derived.Test.YtgfiniccfpfplaaGreatSB
import Derived.Test.YtgfiniccfpfplaaGreatTy

namespace Go.Proofs.YtgfiniccfpfplaaGreat
open Go Go.Lay
set_option linter.unusedVariables false
set_option linter.unusedSimpArgs false
set_option maxRecDepth 20000
section
variable {σ:St} {w:Wk} {p q:Option Addr} {l m c d:Nat}
theorem yQJ:zV (zCX w)=late w:=by
 funext i
 unfold zV zCX late dty
 rw [List.getD_eq_getElem?_getD,List.getD_eq_getElem?_getD,List.getElem?_map]
 cases w.duties[i]? <;> rfl
theorem yXC (rs:List Int):(List.range rs.length).map (zV rs)=rs:=by
 apply List.ext_getElem (by simp)
 intro i h1 h2
 simp [zV,h2]
theorem yYW {rs:List Int} (hl:rs.length=w.duties.length) (h:∀ y∈rs, -1≤y):(((rs.filter fun x=>decide (0≤x)).length:Nat):Int)=zAJ w (zV rs):=by
 have e:(rs.filter fun x=>decide (0≤x))=rs.filter fun x=>decide (x≠-1):=by
  apply List.filter_congr
  intro x hx
  have:=h x hx
  by_cases g:x=-1
  ·subst g;rfl
  ·rw [decide_eq_true (by omega),decide_eq_true g]
 rw [e]
 unfold zAJ
 rw [← hl]
 conv=>lhs;rw [← yXC rs,List.filter_map,List.length_map]
 rfl
theorem yDP {rs:List Int} (hl:w.duties.length=l) (hm:w.drivers.length=m):rs∈zIC w m l []↔rs.length=l∧(∀ y∈rs, -1≤y∧y<(m:Int))∧zEM w (zV rs) (late w):=by
 rw [zXC]
 unfold legB
 rw [yQJ,← hm,decide_eq_true_iff,zZZ]
 constructor
 ·rintro ⟨a,h1,h2,h3,h4⟩
  rw [List.nil_append] at h2
  subst h2
  exact ⟨h1,h3,h4⟩
 ·rintro ⟨h1,h2,h3⟩
  exact ⟨rs,h1,rfl,h2,h3⟩
theorem yQS (h:w.duties.length≤5∧w.drivers.length≤3∨w.duties.length≤4∧w.drivers.length≤4) (hl:w.duties.length=l) (hm:w.drivers.length=m):(m+1) ^ l≤1073741824:=by
 rcases h with ⟨h1,h2⟩ | ⟨h1,h2⟩
 ·exact Nat.le_trans (Nat.le_trans (Nat.pow_le_pow_left (by omega:m+1≤4) l) (Nat.pow_le_pow_right (by decide) (by omega:l≤5))) (by decide)
 ·exact Nat.le_trans (Nat.le_trans (Nat.pow_le_pow_left (by omega:m+1≤5) l) (Nat.pow_le_pow_right (by decide) (by omega:l≤4))) (by decide)
def zTP (x:List Int):Nat:=(x.filter fun y=>decide (0≤y)).length
theorem yPU {x:List Int} (hl:x.length=w.duties.length):Ros w (zV x)↔∀ y∈x, -1≤y∧y<(w.drivers.length:Int):=by
 constructor
 ·intro h y hy
  obtain ⟨i,hi,rfl⟩:=List.getElem_of_mem hy
  have:=h.ros i (by omega)
  unfold zV at this
  rw [List.getD_eq_getElem?_getD,List.getElem?_eq_getElem hi] at this
  exact this
 ·intro h
  refine ⟨fun i hi=>?_⟩
  unfold zV
  rw [List.getD_eq_getElem?_getD,List.getElem?_eq_getElem (by omega:i<x.length)]
  exact h _ (List.getElem_mem _)
end
end Go.Proofs.YtgfiniccfpfplaaGreat

namespace Go.Proofs.YtgfiniccfpfplaaGreat
open Go Go.Lay
open Tryz renaming prog → Pg
set_option linter.unusedVariables false
set_option maxRecDepth 20000
variable {ak am ao aj n2 n5 n6 n7 n10 n11 n13 n16 n17 n18 n19 aA aV nD nB nR nY nZ nAB nSB:Int} {af ae q3 q4 q9 q14 q15 q20 qD qFB qM:Option Addr} {ac ad aa ab l3 c3 l4 c4 l9 c9 l14 c14 l15 c15 BA l20 c20 lA cD lJB cFB lP cM:Nat} {σ8 σ12 σ:St} {Q:Value→St→Prop} {Inv:Nat→Int→Int→St→Prop} {Q0:Int→St→Prop} {q20_a:Addr} {Nx:Int→Int→St→Prop}
theorem yTF:let s1:=σ.row (wkc ak af ac ad ae aa ab am ao aj) 6;∀ (h1:zE Pg 24 [.agg ⟨wkc ak af ac ad ae aa ab am ao aj⟩] s1 (.bool true) s1) (h2:zE Pg 17 [.agg ⟨wkc ak af ac ad ae aa ab am ao aj⟩] s1 (.agg ⟨wkc n2 q3 l3 c3 q4 l4 c4 n5 n6 n7⟩) σ8) (h3:zE Pg 37 [.agg ⟨wkc n2 q3 l3 c3 q4 l4 c4 n5 n6 n7⟩] σ8 (.tuple ⟨[.slice q9 l9 c9,iV n10,iV n11]⟩) σ12) (h4:zB Pg σ12 25 ⟨σ.next,0,none⟩=some (.agg ⟨wkc n13 q14 l14 c14 q15 l15 c15 n16 n17 n18⟩)) (h5:zE Pg 20 [.agg ⟨wkc n13 q14 l14 c14 q15 l15 c15 n16 n17 n18⟩] σ12 (iV n19) σ12) (nx:Q (.bool true) σ12) (u1:¬ n19=0:=by omega) (u2:n11=n19:=by omega) (u3:((l9:Nat):Int)=0:=by omega) (u4:n10=0:=by omega),zYS Pg 15 8 [.agg ⟨wkc ak af ac ad ae aa ab am ao aj⟩] σ Q:=
 let s1:=σ.row (wkc ak af ac ad ae aa ab am ao aj) 6;fun h1 h2 h3 h4 h5 nx u1 u2 u3 u4=>yPO [.g,.g,.l (.agg ⟨wkc ak af ac ad ae aa ab am ao aj⟩),.c (.bool true) s1,.g,.l (.agg ⟨wkc ak af ac ad ae aa ab am ao aj⟩),.c (.agg ⟨wkc n2 q3 l3 c3 q4 l4 c4 n5 n6 n7⟩) σ8,.c (.tuple ⟨[.slice q9 l9 c9,iV n10,iV n11]⟩) σ12,.g,.g,.g,.g,.g,.g,.g,.l (.agg ⟨wkc n13 q14 l14 c14 q15 l15 c15 n16 n17 n18⟩),.c (iV n19) σ12,.g,.g,.b true,.g,.g,.b true,.g,.g,.g,.b true,.g,.g,.g,.b true,.g,.g,.c (.bool true) σ12,.g,.g] (kc (by kernel_rfl) (an6 ((zC _ _ _).rw.ldN wH xI (k:=0) rfl rfl (nle rfl):zB Pg s1 25 ⟨σ.next,0,none⟩=some (.agg ⟨wkc ak af ac ad ae aa ab am ao aj⟩)) (zE.top (aw:=15) h1) ((zC _ _ _).rw.ldN wH xI (k:=0) rfl rfl (nle rfl):zB Pg s1 25 ⟨σ.next,0,none⟩=some (.agg ⟨wkc ak af ac ad ae aa ab am ao aj⟩)) (zE.top (aw:=15) h2) (zE.top (aw:=15) h3) h4 (an6 (zE.top (aw:=15) h5) (zER u1) (xJ u2) (xJ u3) (xJ u4) (topE:zHB (zKB Pg 15) (.func 15) [] σ12 (.bool true) σ12) nx)))
noncomputable def zRD:Code:=(Code.part [1,1,1,1,1,1,0,1,0,0] (zX Pg 8))
def zFD (BA:Nat) (q9:Option Addr) (l9 c9:Nat) (n10 n11:Int) (q20:Option Addr) (l20 c20:Nat) (aA aV:Int):List (Nat × Value):=[(1,.pointer (some ⟨BA,0,none⟩)),(3,.slice q9 l9 c9),(4,iV n10),(5,iV n11),(7,.slice q20 l20 c20),(8,iV aA),(9,iV aV)]
def zFZ (BA:Nat) (q9:Option Addr) (l9 c9:Nat) (n10 n11:Int) (q20:Option Addr) (l20 c20:Nat) (Q:Int→Int→St→Prop):Alt:=⟨Int × Int,.normal,fun t=>zFD BA q9 l9 c9 n10 n11 q20 l20 c20 t.1 t.2,fun t=>[],fun t σ=>Q t.1 t.2 σ⟩
def zSV (BA:Nat) (q9:Option Addr) (l9 c9:Nat) (n10 n11:Int) (q20:Option Addr) (l20 c20:Nat) (aA:Int):List (Nat × Value):=[(1,.pointer (some ⟨BA,0,none⟩)),(3,.slice q9 l9 c9),(4,iV n10),(5,iV n11),(8,iV aA)]
def uV (BA:Nat) (q9:Option Addr) (l9 c9:Nat) (n10 n11:Int) (q20:Option Addr) (l20 c20:Nat) (Q:Int→St→Prop):Alt:=⟨Int,(.exit 0),fun t=>zSV BA q9 l9 c9 n10 n11 q20 l20 c20 t,fun t=>[],fun t σ=>Q t σ⟩
def zRF (BA:Nat) (q9:Option Addr) (l9 c9:Nat) (n10 n11:Int) (q20:Option Addr) (l20 c20:Nat) (aA aV:Int) (σ:St) (Nx:Int→Int→St→Prop) (Q0:Int→St→Prop):Prop:=xT Pg (zKB Pg 15) none zRD 81 (zFD BA q9 l9 c9 n10 n11 q20 l20 c20 aA aV) [] [zFZ BA q9 l9 c9 n10 n11 q20 l20 c20 Nx,uV BA q9 l9 c9 n10 n11 q20 l20 c20 Q0] σ
def zRE (BA:Nat) (q9:Option Addr) (l9 c9:Nat) (n10 n11:Int) (q20:Option Addr) (l20 c20:Nat) (aA aV:Int) (σ:St) (Q0:Int→St→Prop):Prop:=wC Pg (zKB Pg 15) none zRD 81 (zFD BA q9 l9 c9 n10 n11 q20 l20 c20 aA aV) [] [uV BA q9 l9 c9 n10 n11 q20 l20 c20 Q0] σ
theorem yDL (hb:∀ k aA aV σ,Inv k aA aV σ→zRF BA q9 l9 c9 n10 n11 q20 l20 c20 aA aV σ (fun i8_1' i9_1' σ'=>∃ k',k' < k∧Inv k' i8_1' i9_1' σ') Q0):∀ k aA aV σ,Inv k aA aV σ→zRE BA q9 l9 c9 n10 n11 q20 l20 c20 aA aV σ Q0 :=
 fun k aA aV σ h=>yH (alts:=[uV BA q9 l9 c9 n10 n11 q20 l20 c20 Q0]) (T:=Int × Int) (lf:=fun t=>zFD BA q9 l9 c9 n10 n11 q20 l20 c20 t.1 t.2) (mf:=fun t=>[]) (Inv:=fun k t σ=>Inv k t.1 t.2 σ) (ai (zAM 0) trivial) (fun k t σ h=>hb k t.1 t.2 σ h) k (aA,aV) σ h
theorem yNH (h1:zB Pg σ 26 (zP q20_a (Int.toNat aV*1))=some (.slice qD lA cD)) (h2:zE Pg 27 [.slice qD lA cD] σ (iV nD) σ) (h3:xN Pg (evL [iV aA,iV nD]) σ (.call { callee:=.builtin .max,args:=⟨vL 2⟩,argTypes:=⟨[3,3]⟩ })=some (iV nB)) (nx:Nx nB (aV+1) σ) (u1:aV<((l20:Nat):Int):=by omega) (u2:Ix aV l20:=by omega) (u3:I6 (aV+1):=by omega):zRF BA q9 l9 c9 n10 n11 (some q20_a) l20 c20 aA aV σ Nx Q0 :=
 zO [.g,.g,.g,.b true,.g,.g,.g,.i,.l (.slice qD lA cD),.c (iV nD) σ,.v (iV nB),.g,.g,.n (aV+1),.g,.fin (zFZ BA q9 l9 c9 n10 n11 (some q20_a) l20 c20 Nx) (nB,aV+1)] (fun g=>kc (by kernel_rfl) (an6 (zW u1) u2 h1 (zE.top (aw:=15) h2) h3 (w64 u3) (fin (alts:=[zFZ BA q9 l9 c9 n10 n11 (some q20_a) l20 c20 Nx,uV BA q9 l9 c9 n10 n11 (some q20_a) l20 c20 Q0]) (zFZ BA q9 l9 c9 n10 n11 (some q20_a) l20 c20 Nx) (nB,aV+1) nx in0)))
theorem yNG (nx:Q0 aA σ) (u1:¬ aV<((l20:Nat):Int):=by omega):zRF BA q9 l9 c9 n10 n11 q20 l20 c20 aA aV σ Nx Q0 :=
 zO [.g,.g,.g,.b false,.fin (uV BA q9 l9 c9 n10 n11 q20 l20 c20 Q0) aA] (fun g=>kc (by kernel_rfl) (ai (zY u1) (fin (alts:=[zFZ BA q9 l9 c9 n10 n11 q20 l20 c20 Nx,uV BA q9 l9 c9 n10 n11 q20 l20 c20 Q0]) (uV BA q9 l9 c9 n10 n11 q20 l20 c20 Q0) aA nx (inS in0))))
def zLE (BA:Nat) (q9:Option Addr) (l9 c9:Nat) (n10 n11:Int) (q20:Option Addr) (l20 c20:Nat) (aA:Int) (σ:St) (Q:Value→St→Prop):Prop:=∀ g:Nat→Value,∃ an,Hid (kAt Pg (zKB Pg 15) none (zX Pg 8) [1,1,1,1,1,1,0,1,0] (kFn Pg 8 Q) (.exit 0) ⟨Fm 81 (ov (zSV BA q9 l9 c9 n10 n11 q20 l20 c20 aA) g),[]⟩ σ an)
theorem yTD:let s1:=σ.row (wkc ak af ac ad ae aa ab am ao aj) 6;∀ (h1:zE Pg 24 [.agg ⟨wkc ak af ac ad ae aa ab am ao aj⟩] s1 (.bool false) s1) (nx:Q (.bool true) s1),zYS Pg 15 8 [.agg ⟨wkc ak af ac ad ae aa ab am ao aj⟩] σ Q:=
 let s1:=σ.row (wkc ak af ac ad ae aa ab am ao aj) 6;fun h1 nx=>yPO [.g,.g,.l (.agg ⟨wkc ak af ac ad ae aa ab am ao aj⟩),.c (.bool false) s1,.g,.c (.bool true) s1,.g] (kc (by kernel_rfl) (an3 ((zC _ _ _).rw.ldN wH xI (k:=0) rfl rfl (nle rfl):zB Pg s1 25 ⟨σ.next,0,none⟩=some (.agg ⟨wkc ak af ac ad ae aa ab am ao aj⟩)) (zE.top (aw:=15) h1) (topE:zHB (zKB Pg 15) (.func 15) [] s1 (.bool true) s1) nx))
theorem yDK (h1:zB Pg σ 25 ⟨BA,0,none⟩=some (.agg ⟨wkc nR qFB lJB cFB qM lP cM nY nZ nAB⟩)) (h2:zE Pg 21 [.agg ⟨wkc nR qFB lJB cFB qM lP cM nY nZ nAB⟩,.slice q9 l9 c9] σ (.bool true) σ) (h3:zE Pg 31 [.agg ⟨wkc nR qFB lJB cFB qM lP cM nY nZ nAB⟩,.slice q9 l9 c9] σ (.bool true) σ) (h4:zE Pg 27 [.slice q9 l9 c9] σ (iV nSB) σ) (nx:Q (.bool true) σ) (u1:n11=0:=by omega) (u2:n10=aA:=by omega) (u3:nSB=n10:=by omega):zLE BA q9 l9 c9 n10 n11 q20 l20 c20 aA σ Q :=
 fun g=>⟨[.g,.b true,.g,.g,.g,.b true,.g,.g,.l (.agg ⟨wkc nR qFB lJB cFB qM lP cM nY nZ nAB⟩),.g,.c (.bool true) σ,.g,.g,.l (.agg ⟨wkc nR qFB lJB cFB qM lP cM nY nZ nAB⟩),.g,.c (.bool true) σ,.g,.g,.g,.c (iV nSB) σ,.g,.b true,.g,.g,.c (.bool true) σ,.g,.g],kc (by kernel_rfl) (an3 (xJ u1) (xJ u2) h1 (an6 (zE.top (aw:=15) h2) h1 (zE.top (aw:=15) h3) (zE.top (aw:=15) h4) (xJ u3) (topE:zHB (zKB Pg 15) (.func 15) [] σ (.bool true) σ) nx))⟩
end Go.Proofs.YtgfiniccfpfplaaGreat
