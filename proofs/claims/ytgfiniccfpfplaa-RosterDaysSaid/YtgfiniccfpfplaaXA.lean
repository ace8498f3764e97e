import Derived.Test.YtgfiniccfpfplaaTy
import Derived.Test.YtgfiniccfpfplaaLayD
set_option maxRecDepth 20000
namespace Go.Proofs.Ytgfiniccfpfplaa
open Go Go.Lay
open Try renaming prog → Pg
structure Rec where
 k : Int
 a : Int
 b : Int
 deriving DecidableEq, Inhabited
abbrev yO (n : Int) : Value := iV n
abbrev uM (x : Rec) : List Value := rcd x.k x.a x.b
abbrev zCB (x : Rec) : Value := .agg ⟨uM x⟩
def inB (n lo hi : Int) : Bool := decide (lo ≤ n) && decide (n ≤ hi)
theorem wV {n lo hi : Int} : inB n lo hi = true ↔ lo ≤ n ∧ n ≤ hi := by simp [inB]
theorem zYH {n lo hi : Int} : inB n lo hi = false ↔ ¬ (lo ≤ n ∧ n ≤ hi) := by rw [← Bool.not_eq_true, wV]
theorem vI {α : Type} {xs : List α} {i : Nat} {x : α} (h : xs[i]? = some x) : xs.take (i + 1) = xs.take i ++ [x] := by
 rw [List.take_add_one, h]; rfl
theorem le0 (σ : St) : Le σ σ.re := Le.re' (Le.refl _)
section
variable {n low high cf nI nA aQ:Int} {σ σ1:St} {Q:Value→St→Prop} {l q2:Option Addr} {l_l l_c l2 c2:Nat} {Inv:Nat→Int→St→Prop} {Qr Pr:Bool→St→Prop} {Q0 P0:St→Prop} {l_a:Addr} {Nx:Int→St→Prop} {t6_1:Bool}
theorem yRS (nx:Q (.bool true) σ) (u1:low≤n:=by omega) (u2:n≤high:=by omega):zI Pg 30 [iV n,iV low,iV high] σ Q :=
 zF [.g,.g,.g,.b true,.g,.g,.g,.b true,.g,.g] (kd (an2 (zX u1) (zX u2) nx))
theorem yRR (nx:Q (.bool false) σ) (u1:low≤n:=by omega) (u2:¬ n≤high:=by omega):zI Pg 30 [iV n,iV low,iV high] σ Q :=
 zF [.g,.g,.g,.b true,.g,.g,.g,.b false,.g,.g] (kd (an2 (zX u1) (yB u2) nx))
theorem zWO (nx:Q (.bool false) σ) (u1:¬ low≤n:=by omega):zI Pg 30 [iV n,iV low,iV high] σ Q :=
 zF [.g,.g,.g,.b false,.g,.g,.g] (kd (ai (yB u1) nx))
theorem xHU (nx:Q (.bool true) σ) (u1:low≤n:=by omega) (u2:n≤high:=by omega):zI Pg 13 [iV n,iV low,iV high] σ Q :=
 zF [.g,.g,.g,.b true,.g,.g,.g,.b true,.g,.g] (kd (an2 (zX u1) (zX u2) nx))
theorem xHT (nx:Q (.bool false) σ) (u1:low≤n:=by omega) (u2:¬ n≤high:=by omega):zI Pg 13 [iV n,iV low,iV high] σ Q :=
 zF [.g,.g,.g,.b true,.g,.g,.g,.b false,.g,.g] (kd (an2 (zX u1) (yB u2) nx))
theorem yYM (nx:Q (.bool false) σ) (u1:¬ low≤n:=by omega):zI Pg 13 [iV n,iV low,iV high] σ Q :=
 zF [.g,.g,.g,.b false,.g,.g,.g] (kd (ai (yB u1) nx))
noncomputable def zWW:Code:=(Code.part [1,0,1,0,0] (zO Pg 42))
def zCV (l:Option Addr) (l_l l_c:Nat) (low high cf:Int):List (Nat × Value):=[(0,.slice l l_l l_c),(1,iV low),(2,iV high),(7,iV cf)]
def yKI (l:Option Addr) (l_l l_c:Nat) (low high:Int) (Q:Int→St→Prop):Alt:=⟨Int,.normal,fun t=>zCV l l_l l_c low high t,fun t=>[],fun t σ=>Q t σ⟩
def zOX (l:Option Addr) (l_l l_c:Nat) (low high:Int) (t6_1:Bool):List (Nat × Value):=[(6,.bool t6_1)]
def zFZ (l:Option Addr) (l_l l_c:Nat) (low high:Int) (Q:Bool→St→Prop):Alt:=⟨Bool,.ret,fun t=>zOX l l_l l_c low high t,fun t=>[],fun t σ=>Q t σ⟩
def zOY (l:Option Addr) (l_l l_c:Nat) (low high:Int):List (Nat × Value):=[]
def zGA (l:Option Addr) (l_l l_c:Nat) (low high:Int) (Q:St→Prop):Alt:=⟨Unit,(.exit 0),fun t=>zOY l l_l l_c low high,fun t=>[],fun t σ=>Q σ⟩
def zBH (l:Option Addr) (l_l l_c:Nat) (low high cf:Int) (σ:St) (Nx:Int→St→Prop) (Qr:Bool→St→Prop) (Q0:St→Prop):Prop:=yJ Pg (zS Pg) none zWW 38 (zCV l l_l l_c low high cf) [] [yKI l l_l l_c low high Nx,zFZ l l_l l_c low high Qr,zGA l l_l l_c low high Q0] σ
def zWX (l:Option Addr) (l_l l_c:Nat) (low high cf:Int) (σ:St) (Qr:Bool→St→Prop) (Q0:St→Prop):Prop:=yR Pg (zS Pg) none zWW 38 (zCV l l_l l_c low high cf) [] [zFZ l l_l l_c low high Qr,zGA l l_l l_c low high Q0] σ
theorem yAQ (hb:∀ k cf σ,Inv k cf σ→zBH l l_l l_c low high cf σ (NX1 Inv k) Qr Q0):∀ k cf σ,Inv k cf σ→zWX l l_l l_c low high cf σ Qr Q0 :=
 yV (ai zAQ (ai (wA 0) trivial)) hb
theorem yKH (h1:zB Pg σ 3 (zH l_a (Int.toNat cf*1))=some (iV nI)) (h2:zD Pg 13 [iV nI,iV low,iV high] σ (.bool true) σ) (h3:zB Pg σ 3 (zH l_a (Int.toNat (cf-1)*1))=some (iV nA)) (nx:Qr false σ) (u1:cf<((l_l:Nat):Int):=by omega) (u2:Ix cf l_l:=by omega) (u3:0<cf:=by omega) (u4:I6 (cf-1):=by omega) (u5:Ix (cf-1) l_l:=by omega) (u6:nI≤nA:=by omega):zBH (some l_a) l_l l_c low high cf σ Nx Qr Q0 :=
 kO 1 false [.g,.g,.g,.b true,.g,.g,.i,.l (iV nI),.g,.g,.c (.bool true) σ,.g,.g,.g,.b true,.g,.g,.g,.i,.l (iV nI),.g,.g,.n (cf-1),.i,.l (iV nA),.b true,.g,.g,.g] (fun _ f=>(an5 (zJ u1) u2 h1 h2 (zJ u3) (an6 u2 h1 (w64 u4) u5 h3 (zX u6) f))) nx
theorem yKG (h1:zB Pg σ 3 (zH l_a (Int.toNat cf*1))=some (iV nI)) (h2:zD Pg 13 [iV nI,iV low,iV high] σ (.bool true) σ) (h3:zB Pg σ 3 (zH l_a (Int.toNat (cf-1)*1))=some (iV nA)) (nx:Nx (cf+1) σ) (u1:cf<((l_l:Nat):Int):=by omega) (u2:Ix cf l_l:=by omega) (u3:0<cf:=by omega) (u4:I6 (cf-1):=by omega) (u5:Ix (cf-1) l_l:=by omega) (u6:¬ nI≤nA:=by omega) (u7:I6 (cf+1):=by omega):zBH (some l_a) l_l l_c low high cf σ Nx Qr Q0 :=
 kO 0 (cf+1) [.g,.g,.g,.b true,.g,.g,.i,.l (iV nI),.g,.g,.c (.bool true) σ,.g,.g,.g,.b true,.g,.g,.g,.i,.l (iV nI),.g,.g,.n (cf-1),.i,.l (iV nA),.b false,.g,.g,.g,.n (cf+1),.g] (fun _ f=>(an6 (zJ u1) u2 h1 h2 (zJ u3) u2 (an6 h1 (w64 u4) u5 h3 (yB u6) (w64 u7) f))) nx
theorem yKF (h1:zB Pg σ 3 (zH l_a (Int.toNat cf*1))=some (iV nI)) (h2:zD Pg 13 [iV nI,iV low,iV high] σ (.bool true) σ) (nx:Nx (cf+1) σ) (u1:cf<((l_l:Nat):Int):=by omega) (u2:Ix cf l_l:=by omega) (u3:¬ 0<cf:=by omega) (u4:I6 (cf+1):=by omega):zBH (some l_a) l_l l_c low high cf σ Nx Qr Q0 :=
 kO 0 (cf+1) [.g,.g,.g,.b true,.g,.g,.i,.l (iV nI),.g,.g,.c (.bool true) σ,.g,.g,.g,.b false,.g,.g,.g,.g,.n (cf+1),.g] (fun _ f=>(an6 (zJ u1) u2 h1 h2 (zM u3) (w64 u4) f)) nx
theorem yKE (h1:zB Pg σ 3 (zH l_a (Int.toNat cf*1))=some (iV nI)) (h2:zD Pg 13 [iV nI,iV low,iV high] σ (.bool false) σ) (nx:Qr false σ) (u1:cf<((l_l:Nat):Int):=by omega) (u2:Ix cf l_l:=by omega):zBH (some l_a) l_l l_c low high cf σ Nx Qr Q0 :=
 kO 1 false [.g,.g,.g,.b true,.g,.g,.i,.l (iV nI),.g,.g,.c (.bool false) σ,.g,.g,.g,.g] (fun _ f=>(an4 (zJ u1) u2 h1 h2 f)) nx
theorem yKD (nx:Q0 σ) (u1:¬ cf<((l_l:Nat):Int):=by omega):zBH l l_l l_c low high cf σ Nx Qr Q0 :=
 kO 2 () [.g,.g,.g,.b false] (fun _ f=>(ai (zM u1) f)) nx
def zOZ (l:Option Addr) (l_l l_c:Nat) (low high:Int) (t6_1:Bool) (σ:St) (Q:Value→St→Prop):Prop:=∀ g:Nat→Value,∃ an,Hid (kAt Pg (zS Pg) none (zO Pg 42) [1,0,1,0] (kFn Pg 42 Q) .ret ⟨Fm 38 (ov (zOX l l_l l_c low high t6_1) g),[]⟩ σ an)
def zPA (l:Option Addr) (l_l l_c:Nat) (low high:Int) (σ:St) (Q:Value→St→Prop):Prop:=∀ g:Nat→Value,∃ an,Hid (kAt Pg (zS Pg) none (zO Pg 42) [1,0,1,0] (kFn Pg 42 Q) (.exit 0) ⟨Fm 38 (ov (zOY l l_l l_c low high) g),[]⟩ σ an)
theorem ySQ (hL:zWX l l_l l_c low high 0 σ Pr P0) (kr:∀ t6_1' σ',Pr t6_1' σ'→zOZ l l_l l_c low high t6_1' σ' Q) (k0:∀ σ',P0 σ'→zPA l l_l l_c low high σ' Q):zI Pg 42 [.slice l l_l l_c,iV low,iV high] σ Q :=
 zF [.g,.g,.lf 38 (zCV l l_l l_c low high 0) [zFZ l l_l l_c low high Pr,zGA l l_l l_c low high P0]] (kd (ai (ai tt (ai (arf (zCV l l_l l_c low high 0)) hL)) (ai (kz1 kr) (ai (kz0 k0) trivial))))
theorem yAO (nx:Q (.bool t6_1) σ):zOZ l l_l l_c low high t6_1 σ Q :=
 sK [] nx
theorem yAP (nx:Q (.bool true) σ):zPA l l_l l_c low high σ Q :=
 sK [.g] nx
noncomputable def yEH:Code:=(Code.part [1,0,1,0,0] (zO Pg 60))
def zFV (l:Option Addr) (l_l l_c:Nat) (low high aQ:Int):List (Nat × Value):=[(0,.slice l l_l l_c),(1,iV low),(2,iV high),(9,.slice l l_l l_c),(10,iV ((l_l:Nat):Int)),(11,iV aQ)]
def ySO (l:Option Addr) (l_l l_c:Nat) (low high:Int) (Q:Int→St→Prop):Alt:=⟨Int,.normal,fun t=>zFV l l_l l_c low high t,fun t=>[],fun t σ=>Q t σ⟩
def zSE (l:Option Addr) (l_l l_c:Nat) (low high:Int) (t6_1:Bool):List (Nat × Value):=[(6,.bool t6_1)]
def zJU (l:Option Addr) (l_l l_c:Nat) (low high:Int) (Q:Bool→St→Prop):Alt:=⟨Bool,.ret,fun t=>zSE l l_l l_c low high t,fun t=>[],fun t σ=>Q t σ⟩
def zSF (l:Option Addr) (l_l l_c:Nat) (low high:Int):List (Nat × Value):=[]
def zJV (l:Option Addr) (l_l l_c:Nat) (low high:Int) (Q:St→Prop):Alt:=⟨Unit,(.exit 0),fun t=>zSF l l_l l_c low high,fun t=>[],fun t σ=>Q σ⟩
def zCT (l:Option Addr) (l_l l_c:Nat) (low high aQ:Int) (σ:St) (Nx:Int→St→Prop) (Qr:Bool→St→Prop) (Q0:St→Prop):Prop:=yJ Pg (zS Pg) none yEH 35 (zFV l l_l l_c low high aQ) [] [ySO l l_l l_c low high Nx,zJU l l_l l_c low high Qr,zJV l l_l l_c low high Q0] σ
def yEI (l:Option Addr) (l_l l_c:Nat) (low high aQ:Int) (σ:St) (Qr:Bool→St→Prop) (Q0:St→Prop):Prop:=yR Pg (zS Pg) none yEH 35 (zFV l l_l l_c low high aQ) [] [zJU l l_l l_c low high Qr,zJV l l_l l_c low high Q0] σ
theorem yEG (hb:∀ k aQ σ,Inv k aQ σ→zCT l l_l l_c low high aQ σ (NX1 Inv k) Qr Q0):∀ k aQ σ,Inv k aQ σ→yEI l l_l l_c low high aQ σ Qr Q0 :=
 yV (ai zAQ (ai (wA 0) trivial)) hb
theorem ySN (h1:zB Pg σ 3 (zH l_a (Int.toNat aQ*1))=some (iV nI)) (h2:zD Pg 30 [iV nI,iV low,iV high] σ (.bool true) σ) (h3:zB Pg σ 3 (zH l_a (Int.toNat (aQ-1)*1))=some (iV nA)) (nx:Qr false σ) (u1:aQ<((l_l:Nat):Int):=by omega) (u2:Ix aQ l_l:=by omega) (u3:0<aQ:=by omega) (u4:I6 (aQ-1):=by omega) (u5:Ix (aQ-1) l_l:=by omega) (u6:nI≤nA:=by omega):zCT (some l_a) l_l l_c low high aQ σ Nx Qr Q0 :=
 kO 1 false [.b true,.g,.i,.l (iV nI),.g,.g,.g,.g,.g,.c (.bool true) σ,.g,.g,.g,.b true,.g,.g,.g,.g,.n (aQ-1),.i,.l (iV nA),.b true,.g,.g,.g] (fun _ f=>(an3 (zJ u1) u2 h1 (an6 h2 (zJ u3) (w64 u4) u5 h3 (zX u6) f))) nx
theorem ySM (h1:zB Pg σ 3 (zH l_a (Int.toNat aQ*1))=some (iV nI)) (h2:zD Pg 30 [iV nI,iV low,iV high] σ (.bool true) σ) (h3:zB Pg σ 3 (zH l_a (Int.toNat (aQ-1)*1))=some (iV nA)) (nx:Nx (aQ+1) σ) (u1:aQ<((l_l:Nat):Int):=by omega) (u2:Ix aQ l_l:=by omega) (u3:0<aQ:=by omega) (u4:I6 (aQ-1):=by omega) (u5:Ix (aQ-1) l_l:=by omega) (u6:¬ nI≤nA:=by omega) (u7:I6 (aQ+1):=by omega):zCT (some l_a) l_l l_c low high aQ σ Nx Qr Q0 :=
 kO 0 (aQ+1) [.b true,.g,.i,.l (iV nI),.g,.g,.g,.g,.g,.c (.bool true) σ,.g,.g,.g,.b true,.g,.g,.g,.g,.n (aQ-1),.i,.l (iV nA),.b false,.g,.g,.n (aQ+1),.g] (fun _ f=>(an4 (zJ u1) u2 h1 h2 (an6 (zJ u3) (w64 u4) u5 h3 (yB u6) (w64 u7) f))) nx
theorem ySL (h1:zB Pg σ 3 (zH l_a (Int.toNat aQ*1))=some (iV nI)) (h2:zD Pg 30 [iV nI,iV low,iV high] σ (.bool true) σ) (nx:Nx (aQ+1) σ) (u1:aQ<((l_l:Nat):Int):=by omega) (u2:Ix aQ l_l:=by omega) (u3:¬ 0<aQ:=by omega) (u4:I6 (aQ+1):=by omega):zCT (some l_a) l_l l_c low high aQ σ Nx Qr Q0 :=
 kO 0 (aQ+1) [.b true,.g,.i,.l (iV nI),.g,.g,.g,.g,.g,.c (.bool true) σ,.g,.g,.g,.b false,.g,.g,.g,.n (aQ+1),.g] (fun _ f=>(an6 (zJ u1) u2 h1 h2 (zM u3) (w64 u4) f)) nx
theorem ySK (h1:zB Pg σ 3 (zH l_a (Int.toNat aQ*1))=some (iV nI)) (h2:zD Pg 30 [iV nI,iV low,iV high] σ (.bool false) σ) (nx:Qr false σ) (u1:aQ<((l_l:Nat):Int):=by omega) (u2:Ix aQ l_l:=by omega):zCT (some l_a) l_l l_c low high aQ σ Nx Qr Q0 :=
 kO 1 false [.b true,.g,.i,.l (iV nI),.g,.g,.g,.g,.g,.c (.bool false) σ,.g,.g,.g,.g] (fun _ f=>(an4 (zJ u1) u2 h1 h2 f)) nx
theorem ySJ (nx:Q0 σ) (u1:¬ aQ<((l_l:Nat):Int):=by omega):zCT l l_l l_c low high aQ σ Nx Qr Q0 :=
 kO 2 () [.b false] (fun _ f=>(ai (zM u1) f)) nx
def zSG (l:Option Addr) (l_l l_c:Nat) (low high:Int) (t6_1:Bool) (σ:St) (Q:Value→St→Prop):Prop:=∀ g:Nat→Value,∃ an,Hid (kAt Pg (zS Pg) none (zO Pg 60) [1,0,1,0] (kFn Pg 60 Q) .ret ⟨Fm 35 (ov (zSE l l_l l_c low high t6_1) g),[]⟩ σ an)
def zSH (l:Option Addr) (l_l l_c:Nat) (low high:Int) (σ:St) (Q:Value→St→Prop):Prop:=∀ g:Nat→Value,∃ an,Hid (kAt Pg (zS Pg) none (zO Pg 60) [1,0,1,0] (kFn Pg 60 Q) (.exit 0) ⟨Fm 35 (ov (zSF l l_l l_c low high) g),[]⟩ σ an)
theorem yYB (hL:yEI l l_l l_c low high 0 σ Pr P0) (kr:∀ t6_1' σ',Pr t6_1' σ'→zSG l l_l l_c low high t6_1' σ' Q) (k0:∀ σ',P0 σ'→zSH l l_l l_c low high σ' Q):zI Pg 60 [.slice l l_l l_c,iV low,iV high] σ Q :=
 zF [.g,.g,.g,.g,.lf 35 (zFV l l_l l_c low high 0) [zJU l l_l l_c low high Pr,zJV l l_l l_c low high P0]] (kd (ai (ai tt (ai (arf (zFV l l_l l_c low high 0)) hL)) (ai (kz1 kr) (ai (kz0 k0) trivial))))
theorem yEE (nx:Q (.bool t6_1) σ):zSG l l_l l_c low high t6_1 σ Q :=
 sK [] nx
theorem yEF (nx:Q (.bool true) σ):zSH l l_l l_c low high σ Q :=
 sK [.g] nx
theorem yQL (h1:zZ Pg 29 29 (.slice (some ⟨σ.y,0,none⟩) 0 0) (.slice l l_l l_c) (σ.row [] 1)=some (.slice q2 l2 c2,σ1)) (nx:Q (.slice q2 l2 c2) σ1):zI Pg 10 [.slice l l_l l_c] σ Q :=
 zF [.g,.g,.g,.e (.slice q2 l2 c2) σ1,.g] (kd (ai h1 nx))
end
end Go.Proofs.Ytgfiniccfpfplaa
