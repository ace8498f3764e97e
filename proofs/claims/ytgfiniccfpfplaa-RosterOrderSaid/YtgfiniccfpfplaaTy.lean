import Derived.Test.YtgfiniccfpfplaaOk
import Derived.Test.YtgfiniccfpfplaaLayC
namespace Go.Proofs.Ytgfiniccfpfplaa
open Go Go.Lay
open Try renaming prog → Pg
theorem krf {A:Type} {a b:A} (h:a=b:=by kernel_rfl):a=b:=h
@[simp,reducible] def zK (x0 x1 x2 x3:Int):List Value:=[.int .i64 x0,.int .i64 x1,.int .i64 x2,.int .i64 x3]
@[simp,reducible] def zF (x0 x1 x2 x3 x4:Int):List Value:=[.int .i64 x0,.int .i64 x1,.int .i64 x2,.int .i64 x3,.int .i64 x4]
@[simp,reducible] def zJ (x0 x1 x2 x3 x4 x5:Int):List Value:=[.int .i64 x0,.int .i64 x1,.int .i64 x2,.int .i64 x3,.int .i64 x4,.int .i64 x5]
@[simp,reducible] def rcd (k a b:Int):List Value:=[.int .u8 k,.int .i64 a,.int .i64 b]
@[simp,reducible] def zM (p:Option Addr) (l c:Nat) (q:Option Addr) (m d:Nat) (r:Option Addr) (n e:Nat) (x y z:Int):List Value:=[.slice p l c,.slice q m d,.slice r n e,.int .i64 x,.int .i64 y,.int .i64 z]
@[simp,reducible] def wkc (a:Int) (p:Option Addr) (l c:Nat) (q:Option Addr) (m d:Nat) (x y z:Int):List Value:=[.int .i64 a,.slice p l c,.slice q m d,.int .i64 x,.int .i64 y,.int .i64 z]
abbrev Ix (i:Int) (n:Nat):Prop:=0≤i∧i<(n:Int)
abbrev I6 (n:Int):Prop:=-9223372036854775808≤n∧n≤9223372036854775807
theorem nlt (n i j:Nat) (h:Nat.blt i j=true):n+i<n+j:=Nat.add_lt_add_left (Nat.le_of_ble_eq_true h) n
theorem vK {b n:Nat} (h:b<n) (j:Nat):b<n+j:=Nat.lt_of_lt_of_le h (Nat.le_add_right n j)
theorem nle {a b:Nat} (h:Nat.ble a b=true):a≤b:=Nat.le_of_ble_eq_true h
theorem nne (n i j:Nat) (h:Nat.beq i j=false):n+i≠n+j:=fun e=>by rw [Nat.add_left_cancel e,Nat.beq_refl] at h;cases h
theorem zCA {n l c:Nat} {p:Option Addr} (h:∀ a,p=some a→a.block<n) (j:Nat):yX RD (n+j) (.slice p l c)=true:=yH fun a e=>vK (h a e) j
theorem w64 {n:Int} (h:-9223372036854775808≤n∧n≤9223372036854775807):zAN .i64 n=n:=zVR h.1 h.2
theorem an2 {A0 A1 A2:Prop} (a0:A0) (a1:A1) (a2:A2):A0∧A1∧A2:=⟨a0,a1,a2⟩
theorem an3 {A0 A1 A2 A3:Prop} (a0:A0) (a1:A1) (a2:A2) (a3:A3):A0∧A1∧A2∧A3:=⟨a0,a1,a2,a3⟩
theorem an4 {A0 A1 A2 A3 A4:Prop} (a0:A0) (a1:A1) (a2:A2) (a3:A3) (a4:A4):A0∧A1∧A2∧A3∧A4:=⟨a0,a1,a2,a3,a4⟩
theorem an5 {A0 A1 A2 A3 A4 A5:Prop} (a0:A0) (a1:A1) (a2:A2) (a3:A3) (a4:A4) (a5:A5):A0∧A1∧A2∧A3∧A4∧A5:=⟨a0,a1,a2,a3,a4,a5⟩
theorem an6 {A0 A1 A2 A3 A4 A5 A6:Prop} (a0:A0) (a1:A1) (a2:A2) (a3:A3) (a4:A4) (a5:A5) (a6:A6):A0∧A1∧A2∧A3∧A4∧A5∧A6:=⟨a0,a1,a2,a3,a4,a5,a6⟩
theorem kd {a b:Prop} (x:b) (h:a=b:=by kernel_rfl):a:=h.mpr x
def apA:List Ans→Ans→List Ans
 | [],x=>[x]
 | a::l,x=>a::apA l x
def yAZ:List Alt→Nat→Alt
 | [],_=>⟨Unit,.normal,fun _=>[],fun _=>[],fun _ _=>False⟩
 | a::_,0=>a
 | _::l,k+1=>yAZ l k
theorem yTO:∀ {l:List Alt} {k:Nat},Nat.blt k l.length=true→In (yAZ l k) l
 | [],k,h=>by cases k <;> cases h
 | _::_,0,_=>in0
 | _::l,k+1,h=>inS (yTO (l:=l) (k:=k) h)
section
variable {P:Program} {R:Nat→Rec} {rd:Option Nat} {c:Code} {n:Nat} {l:List (Nat × Value)} {ms:List Nat} {alts:List Alt} {σ σ':St}
theorem kO (k:Nat) (t:(yAZ alts k).T) (ys:List Ans) {C:Prop→Prop} (x:∀ F,F→C F) (nx:(yAZ alts k).Q t σ') (hk:Nat.blt k alts.length=true:=by rfl)
  (h:∀ g:Nat→Value,Hid (wpE P R rd c (apA ys (.fin (yAZ alts k) t)) ⟨Fm n (ov l g),ms⟩ σ (zGC n alts))=C (FIN alts (yAZ alts k) t σ'):=by intro g;kernel_rfl):yR P R rd c n l ms alts σ :=
 zDA _ fun g=>(h g).mpr (x _ (fin _ t nx (yTO hk)))
theorem sK {H:(Nat→Value)→List Ans→Prop} (ys:List Ans) {B:Prop} (x:B) (h:∀ g,H g ys=B:=by intro g;kernel_rfl):∀ g,∃ an,H g an:=fun g=>⟨ys,(h g).mpr x⟩
theorem sF {p:List Nat} {e:Exit} {fr:(Nat→Value)→Fr} (k:Nat) (t:(yAZ alts k).T) (ys:List Ans) {C:Prop→Prop} (x:∀ F,F→C F) (nx:(yAZ alts k).Q t σ') (hk:Nat.blt k alts.length=true:=by rfl)
  (h:∀ g:Nat→Value,Hid (kAt P R rd c p (zGC n alts) e (fr g) σ (apA ys (.fin (yAZ alts k) t)))=C (FIN alts (yAZ alts k) t σ'):=by intro g;kernel_rfl):∀ g:Nat→Value,∃ an,Hid (kAt P R rd c p (zGC n alts) e (fr g) σ an) :=
 fun g=>⟨_,(h g).mpr (x _ (fin _ t nx (yTO hk)))⟩
end
theorem kz {P:St→Prop} {K:St→(Nat→Value)→Prop} (k:∀ σ,P σ→∀ g,K σ g):∀ (g:Nat→Value) (σ:St),P σ→K σ g:=fun g σ h=>k σ h g
theorem kz0 {P:St→Prop} {K:St→(Nat→Value)→Prop} (k:∀ σ,P σ→∀ g,K σ g):∀ (t:Unit) (g:Nat→Value) (σ:St),P σ→K σ g:=fun t g σ h=>k σ h g
theorem kz1 {T0:Type} {P:T0→St→Prop} {K:T0→St→(Nat→Value)→Prop} (k:∀ a0 σ,P a0 σ→∀ g,K a0 σ g):∀ (t:T0) (g:Nat→Value) (σ:St),P t σ→K t σ g:=fun t g σ h=>k t σ h g
theorem kz2 {T0 T1:Type} {P:T0→T1→St→Prop} {K:T0→T1→St→(Nat→Value)→Prop} (k:∀ a0 a1 σ,P a0 a1 σ→∀ g,K a0 a1 σ g):∀ (t:T0 × T1) (g:Nat→Value) (σ:St),P t.1 t.2 σ→K t.1 t.2 σ g:=fun t g σ h=>k t.1 t.2 σ h g
theorem kz3 {T0 T1 T2:Type} {P:T0→T1→T2→St→Prop} {K:T0→T1→T2→St→(Nat→Value)→Prop} (k:∀ a0 a1 a2 σ,P a0 a1 a2 σ→∀ g,K a0 a1 a2 σ g):∀ (t:T0 × T1 × T2) (g:Nat→Value) (σ:St),P t.1 t.2.1 t.2.2 σ→K t.1 t.2.1 t.2.2 σ g:=fun t g σ h=>k t.1 t.2.1 t.2.2 σ h g
abbrev NX1 {T0:Type} (Inv:Nat→T0→St→Prop) (k:Nat):T0→St→Prop:=fun a0 σ=>∃ k',k' < k∧Inv k' a0 σ
theorem xJ {P:Program} {R:Nat→Rec} {rd:Option Nat} {c:Code} {n:Nat} {alts:List Alt} {T0:Type} {lf:T0→List (Nat × Value)} {mf:T0→List Nat} {Inv:Nat→T0→St→Prop} (hne:zUH alts) (hb:∀ k a0 σ,Inv k a0 σ→yR P R rd c n (lf a0) (mf a0) (⟨T0,.normal,fun t=>lf t,fun t=>mf t,fun t σ=>NX1 Inv k t σ⟩::alts) σ):∀ k a0 σ,Inv k a0 σ→xC P R rd c n (lf a0) (mf a0) alts σ :=
 fun k a0 σ h=>zLD (T:=T0) (lf:=fun t=>lf t) (mf:=fun t=>mf t) (Inv:=fun k t σ=>Inv k t σ) hne (fun k t σ h=>hb k t σ h) k a0 σ h
abbrev NX2 {T0 T1:Type} (Inv:Nat→T0→T1→St→Prop) (k:Nat):T0→T1→St→Prop:=fun a0 a1 σ=>∃ k',k' < k∧Inv k' a0 a1 σ
theorem zEV {P:Program} {R:Nat→Rec} {rd:Option Nat} {c:Code} {n:Nat} {alts:List Alt} {T0 T1:Type} {lf:T0→T1→List (Nat × Value)} {mf:T0→T1→List Nat} {Inv:Nat→T0→T1→St→Prop} (hne:zUH alts) (hb:∀ k a0 a1 σ,Inv k a0 a1 σ→yR P R rd c n (lf a0 a1) (mf a0 a1) (⟨T0 × T1,.normal,fun t=>lf t.1 t.2,fun t=>mf t.1 t.2,fun t σ=>NX2 Inv k t.1 t.2 σ⟩::alts) σ):∀ k a0 a1 σ,Inv k a0 a1 σ→xC P R rd c n (lf a0 a1) (mf a0 a1) alts σ :=
 fun k a0 a1 σ h=>zLD (T:=T0 × T1) (lf:=fun t=>lf t.1 t.2) (mf:=fun t=>mf t.1 t.2) (Inv:=fun k t σ=>Inv k t.1 t.2 σ) hne (fun k t σ h=>hb k t.1 t.2 σ h) k (a0,a1) σ h
abbrev NX4 {T0 T1 T2 T3:Type} (Inv:Nat→T0→T1→T2→T3→St→Prop) (k:Nat):T0→T1→T2→T3→St→Prop:=fun a0 a1 a2 a3 σ=>∃ k',k' < k∧Inv k' a0 a1 a2 a3 σ
theorem yTE {P:Program} {R:Nat→Rec} {rd:Option Nat} {c:Code} {n:Nat} {alts:List Alt} {T0 T1 T2 T3:Type} {lf:T0→T1→T2→T3→List (Nat × Value)} {mf:T0→T1→T2→T3→List Nat} {Inv:Nat→T0→T1→T2→T3→St→Prop} (hne:zUH alts) (hb:∀ k a0 a1 a2 a3 σ,Inv k a0 a1 a2 a3 σ→yR P R rd c n (lf a0 a1 a2 a3) (mf a0 a1 a2 a3) (⟨T0 × T1 × T2 × T3,.normal,fun t=>lf t.1 t.2.1 t.2.2.1 t.2.2.2,fun t=>mf t.1 t.2.1 t.2.2.1 t.2.2.2,fun t σ=>NX4 Inv k t.1 t.2.1 t.2.2.1 t.2.2.2 σ⟩::alts) σ):∀ k a0 a1 a2 a3 σ,Inv k a0 a1 a2 a3 σ→xC P R rd c n (lf a0 a1 a2 a3) (mf a0 a1 a2 a3) alts σ :=
 fun k a0 a1 a2 a3 σ h=>zLD (T:=T0 × T1 × T2 × T3) (lf:=fun t=>lf t.1 t.2.1 t.2.2.1 t.2.2.2) (mf:=fun t=>mf t.1 t.2.1 t.2.2.1 t.2.2.2) (Inv:=fun k t σ=>Inv k t.1 t.2.1 t.2.2.1 t.2.2.2 σ) hne (fun k t σ h=>hb k t.1 t.2.1 t.2.2.1 t.2.2.2 σ h) k (a0,a1,a2,a3) σ h
abbrev NX5 {T0 T1 T2 T3 T4:Type} (Inv:Nat→T0→T1→T2→T3→T4→St→Prop) (k:Nat):T0→T1→T2→T3→T4→St→Prop:=fun a0 a1 a2 a3 a4 σ=>∃ k',k' < k∧Inv k' a0 a1 a2 a3 a4 σ
theorem xVL {P:Program} {R:Nat→Rec} {rd:Option Nat} {c:Code} {n:Nat} {alts:List Alt} {T0 T1 T2 T3 T4:Type} {lf:T0→T1→T2→T3→T4→List (Nat × Value)} {mf:T0→T1→T2→T3→T4→List Nat} {Inv:Nat→T0→T1→T2→T3→T4→St→Prop} (hne:zUH alts) (hb:∀ k a0 a1 a2 a3 a4 σ,Inv k a0 a1 a2 a3 a4 σ→yR P R rd c n (lf a0 a1 a2 a3 a4) (mf a0 a1 a2 a3 a4) (⟨T0 × T1 × T2 × T3 × T4,.normal,fun t=>lf t.1 t.2.1 t.2.2.1 t.2.2.2.1 t.2.2.2.2,fun t=>mf t.1 t.2.1 t.2.2.1 t.2.2.2.1 t.2.2.2.2,fun t σ=>NX5 Inv k t.1 t.2.1 t.2.2.1 t.2.2.2.1 t.2.2.2.2 σ⟩::alts) σ):∀ k a0 a1 a2 a3 a4 σ,Inv k a0 a1 a2 a3 a4 σ→xC P R rd c n (lf a0 a1 a2 a3 a4) (mf a0 a1 a2 a3 a4) alts σ :=
 fun k a0 a1 a2 a3 a4 σ h=>zLD (T:=T0 × T1 × T2 × T3 × T4) (lf:=fun t=>lf t.1 t.2.1 t.2.2.1 t.2.2.2.1 t.2.2.2.2) (mf:=fun t=>mf t.1 t.2.1 t.2.2.1 t.2.2.2.1 t.2.2.2.2) (Inv:=fun k t σ=>Inv k t.1 t.2.1 t.2.2.1 t.2.2.2.1 t.2.2.2.2 σ) hne (fun k t σ h=>hb k t.1 t.2.1 t.2.2.1 t.2.2.2.1 t.2.2.2.2 σ h) k (a0,a1,a2,a3,a4) σ h
theorem zS:wN Pg 3=some false:=krf
theorem wZ:yT Pg 3=some 1:=krf
theorem xFF:wN Pg 4=some false:=krf
theorem xST:wN Pg 5=some false:=krf
theorem vI:wN Pg 22=some false:=krf
theorem xUK:yT Pg 22=some 1:=krf
theorem zGA:wN Pg 23=some false:=krf
theorem zCR:wN Pg 25=some true:=krf
theorem vZ:yT Pg 25=some 6:=krf
theorem yV:wN Pg 29=some false:=krf
theorem yQG:yT Pg 29=some 1:=krf
theorem xTY:wN Pg 35=some true:=krf
theorem zDL:yT Pg 35=some 5:=krf
theorem yOW:wN Pg 36=some false:=krf
theorem yQF:yT Pg 36=some 1:=krf
theorem zBD:wN Pg 40=some false:=krf
theorem xUJ:yT Pg 40=some 1:=krf
theorem zAE:wN Pg 41=some false:=krf
theorem xUI:yT Pg 41=some 1:=krf
theorem xS:wN Pg 43=some true:=krf
theorem yW:yT Pg 43=some 6:=krf
theorem xNJ:wN Pg 47=some true:=krf
theorem yFU:yT Pg 47=some 3:=krf
theorem yFB:wN Pg 61=some true:=krf
theorem zES:yT Pg 61=some 6:=krf
theorem zMO:wN Pg 69=some true:=krf
theorem uE:yT Pg 69=some 5:=krf
theorem xNI:wN Pg 70=some true:=krf
theorem zAI:yT Pg 70=some 6:=krf
theorem zCW:wN Pg 73=some true:=krf
theorem xZ:yT Pg 73=some 6:=krf
theorem xXT:wN Pg 75=some false:=krf
theorem xTX:wN Pg 80=some false:=krf
theorem xTW:wN Pg 82=some false:=krf
theorem xTV:wN Pg 85=some false:=krf
theorem zAV:wN Pg 87=some true:=krf
theorem xN:yT Pg 87=some 4:=krf
theorem xTU:wN Pg 89=some true:=krf
theorem yQE:yT Pg 89=some 24:=krf
theorem xNH:wN Pg 96=some false:=krf
theorem yAC:wN Pg 98=some true:=krf
theorem zGN:yT Pg 98=some 2:=krf
theorem uR:wN Pg 103=some false:=krf
theorem xWK:wN Pg 104=some false:=krf
theorem yIO:wN Pg 108=some true:=krf
theorem uA:yT Pg 108=some 8:=krf
theorem xWJ:wN Pg 111=some true:=krf
theorem xOX:yT Pg 111=some 25:=krf
theorem xWI:wN Pg 120=some false:=krf
theorem xOW:yT Pg 120=some 1:=krf
theorem xNK:wN Pg 121=some false:=krf
theorem xOV:yT Pg 121=some 1:=krf
theorem xWH:wN Pg 143=some false:=krf
theorem yIN:wN Pg 147=some false:=krf
theorem zUS:yT Pg 147=some 1:=krf
theorem ai {a b:Prop} (h:a) (k:b):a∧b:=And.intro h k
abbrev iV (n:Int):Value:=.int .i64 n
abbrev I6a (n:Int):Prop:=-9223372036854775808≤n∧n≤9223372036854775807
abbrev zLq (s:St) (t:Nat) (a:Addr) (v:Value):Prop:=(a.block<s.y∧zL RD v=true)∧zB Pg s t a=some v
abbrev lVa:=List Value
abbrev oAa:=Option Addr
abbrev vPa:=Value→St→Prop
abbrev lNa:=List (Nat × Value)
def kZ (R:Nat→Rec) (c:Code) (p:List Nat) (K:Exit→Fr→St→List Ans→Prop) (e:Exit) (n:Nat) (l:List (Nat × Value)) (σ:St):Prop:=∀ g:Nat→Value,∃ an,Hid (kAt Pg R none c p K e ⟨Fm n (ov l g),[]⟩ σ an)
abbrev qg (b o:Nat):Addr:=⟨b,o,none⟩
abbrev pz (a:Addr):Value:=.pointer (some a)
abbrev pq (b o:Nat):Value:=.pointer (some ⟨b,o,none⟩)
abbrev qh (l:List Value):Value:=.agg ⟨l⟩
abbrev lz (s:St) (t:Nat) (a:Addr) (v:Value):Prop:=zB Pg s t a=some v
noncomputable abbrev qi:=@zP Pg
noncomputable abbrev qj:=@zU Pg
noncomputable abbrev qk:=@yR Pg
noncomputable abbrev ql:=@zX Pg
noncomputable abbrev qm:=@xC Pg
noncomputable abbrev qn:=@zD Pg
noncomputable abbrev qo:=@kFn Pg
noncomputable abbrev qp:=@zB Pg
noncomputable abbrev qq:=@zQ Pg
end Go.Proofs.Ytgfiniccfpfplaa
