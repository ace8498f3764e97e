import Derived.Test.YtgfiniccfpfplaaGreatOk
import Derived.Test.YtgfiniccfpfplaaGreatLayC
namespace Go.Proofs.YtgfiniccfpfplaaGreat
open Go Go.Lay
@[simp,reducible] def zK (x0 x1 x2 x3:Int):List Value:=[.int .i64 x0,.int .i64 x1,.int .i64 x2,.int .i64 x3]
@[simp,reducible] def zF (x0 x1 x2 x3 x4:Int):List Value:=[.int .i64 x0,.int .i64 x1,.int .i64 x2,.int .i64 x3,.int .i64 x4]
@[simp,reducible] def zJ (x0 x1 x2 x3 x4 x5:Int):List Value:=[.int .i64 x0,.int .i64 x1,.int .i64 x2,.int .i64 x3,.int .i64 x4,.int .i64 x5]
@[simp,reducible] def xZB (x0 x1 x2 x3 x4 x5 x6:Int):List Value:=[.int .i64 x0,.int .i64 x1,.int .i64 x2,.int .i64 x3,.int .i64 x4,.int .i64 x5,.int .i64 x6]
@[simp,reducible] def xZA (x0 x1 x2 x3 x4 x5 x6 x7:Int):List Value:=[.int .i64 x0,.int .i64 x1,.int .i64 x2,.int .i64 x3,.int .i64 x4,.int .i64 x5,.int .i64 x6,.int .i64 x7]
@[simp,reducible] def xYZ (x0 x1 x2 x3 x4 x5 x6 x7 x8:Int):List Value:=[.int .i64 x0,.int .i64 x1,.int .i64 x2,.int .i64 x3,.int .i64 x4,.int .i64 x5,.int .i64 x6,.int .i64 x7,.int .i64 x8]
@[simp,reducible] def xYR (x0 x1 x2 x3 x4 x5 x6 x7 x8 x9:Int):List Value:=[.int .i64 x0,.int .i64 x1,.int .i64 x2,.int .i64 x3,.int .i64 x4,.int .i64 x5,.int .i64 x6,.int .i64 x7,.int .i64 x8,.int .i64 x9]
@[simp,reducible] def xYQ (x0 x1 x2 x3 x4 x5 x6 x7 x8 x9 x10:Int):List Value:=[.int .i64 x0,.int .i64 x1,.int .i64 x2,.int .i64 x3,.int .i64 x4,.int .i64 x5,.int .i64 x6,.int .i64 x7,.int .i64 x8,.int .i64 x9,.int .i64 x10]
@[simp,reducible] def xYP (x0 x1 x2 x3 x4 x5 x6 x7 x8 x9 x10 x11:Int):List Value:=[.int .i64 x0,.int .i64 x1,.int .i64 x2,.int .i64 x3,.int .i64 x4,.int .i64 x5,.int .i64 x6,.int .i64 x7,.int .i64 x8,.int .i64 x9,.int .i64 x10,.int .i64 x11]
@[simp,reducible] def xYO (x0 x1 x2 x3 x4 x5 x6 x7 x8 x9 x10 x11 x12 x13 x14:Int):List Value:=[.int .i64 x0,.int .i64 x1,.int .i64 x2,.int .i64 x3,.int .i64 x4,.int .i64 x5,.int .i64 x6,.int .i64 x7,.int .i64 x8,.int .i64 x9,.int .i64 x10,.int .i64 x11,.int .i64 x12,.int .i64 x13,.int .i64 x14]
@[simp,reducible] def xYN (x0 x1 x2 x3 x4 x5 x6 x7 x8 x9 x10 x11 x12 x13 x14 x15 x16 x17 x18 x19 x20 x21 x22 x23:Int):List Value:=[.int .i64 x0,.int .i64 x1,.int .i64 x2,.int .i64 x3,.int .i64 x4,.int .i64 x5,.int .i64 x6,.int .i64 x7,.int .i64 x8,.int .i64 x9,.int .i64 x10,.int .i64 x11,.int .i64 x12,.int .i64 x13,.int .i64 x14,.int .i64 x15,.int .i64 x16,.int .i64 x17,.int .i64 x18,.int .i64 x19,.int .i64 x20,.int .i64 x21,.int .i64 x22,.int .i64 x23]
@[simp,reducible] def xYM (x0 x1 x2 x3 x4 x5 x6 x7 x8 x9 x10 x11 x12 x13 x14 x15 x16 x17 x18 x19 x20 x21 x22 x23 x24:Int):List Value:=[.int .i64 x0,.int .i64 x1,.int .i64 x2,.int .i64 x3,.int .i64 x4,.int .i64 x5,.int .i64 x6,.int .i64 x7,.int .i64 x8,.int .i64 x9,.int .i64 x10,.int .i64 x11,.int .i64 x12,.int .i64 x13,.int .i64 x14,.int .i64 x15,.int .i64 x16,.int .i64 x17,.int .i64 x18,.int .i64 x19,.int .i64 x20,.int .i64 x21,.int .i64 x22,.int .i64 x23,.int .i64 x24]
@[simp,reducible] def rcd (k a b:Int):List Value:=[.int .u8 k,.int .i64 a,.int .i64 b]
@[simp,reducible] def zO (p:Option Addr) (l c:Nat) (q:Option Addr) (m d:Nat) (r:Option Addr) (n e:Nat) (x y z:Int):List Value:=[.slice p l c,.slice q m d,.slice r n e,.int .i64 x,.int .i64 y,.int .i64 z]
@[simp,reducible] def wkc (a:Int) (p:Option Addr) (l c:Nat) (q:Option Addr) (m d:Nat) (x y z:Int):List Value:=[.int .i64 a,.slice p l c,.slice q m d,.int .i64 x,.int .i64 y,.int .i64 z]
abbrev Ix (i:Int) (n:Nat):Prop:=0≤i∧i<(n:Int)
abbrev I6 (n:Int):Prop:=-9223372036854775808≤n∧n≤9223372036854775807
theorem nlt (n i j:Nat) (h:Nat.blt i j=true):n+i<n+j:=Nat.add_lt_add_left (Nat.le_of_ble_eq_true h) n
theorem vC {b n:Nat} (h:b<n) (j:Nat):b<n+j:=Nat.lt_of_lt_of_le h (Nat.le_add_right n j)
theorem nle {a b:Nat} (h:Nat.ble a b=true):a≤b:=Nat.le_of_ble_eq_true h
theorem nne (n i j:Nat) (h:Nat.beq i j=false):n+i≠n+j:=fun e=>by rw [Nat.add_left_cancel e,Nat.beq_refl] at h;cases h
theorem yAP {n l c:Nat} {p:Option Addr} (h:∀ a,p=some a→a.block<n) (j:Nat):yS RD (n+j) (.slice p l c)=true:=yR fun a e=>vC (h a e) j
theorem w64 {n:Int} (h:-9223372036854775808≤n∧n≤9223372036854775807):zAC .i64 n=n:=zWC h.1 h.2
theorem an2 {A0 A1 A2:Prop} (a0:A0) (a1:A1) (a2:A2):A0∧A1∧A2:=⟨a0,a1,a2⟩
theorem an3 {A0 A1 A2 A3:Prop} (a0:A0) (a1:A1) (a2:A2) (a3:A3):A0∧A1∧A2∧A3:=⟨a0,a1,a2,a3⟩
theorem an4 {A0 A1 A2 A3 A4:Prop} (a0:A0) (a1:A1) (a2:A2) (a3:A3) (a4:A4):A0∧A1∧A2∧A3∧A4:=⟨a0,a1,a2,a3,a4⟩
theorem an5 {A0 A1 A2 A3 A4 A5:Prop} (a0:A0) (a1:A1) (a2:A2) (a3:A3) (a4:A4) (a5:A5):A0∧A1∧A2∧A3∧A4∧A5:=⟨a0,a1,a2,a3,a4,a5⟩
theorem an6 {A0 A1 A2 A3 A4 A5 A6:Prop} (a0:A0) (a1:A1) (a2:A2) (a3:A3) (a4:A4) (a5:A5) (a6:A6):A0∧A1∧A2∧A3∧A4∧A5∧A6:=⟨a0,a1,a2,a3,a4,a5,a6⟩
theorem kd {a b:Prop} (x:b) (h:a=b:=by kernel_rfl):a:=h.mpr x
def apA:List Ans→Ans→List Ans
 | [],x=>[x]
 | a::l,x=>a::apA l x
def yBR:List Alt→Nat→Alt
 | [],_=>⟨Unit,.normal,fun _=>[],fun _=>[],fun _ _=>False⟩
 | a::_,0=>a
 | _::l,k+1=>yBR l k
theorem yUH:∀ {l:List Alt} {k:Nat},Nat.blt k l.length=true→In (yBR l k) l
 | [],k,h=>by cases k <;> cases h
 | _::_,0,_=>in0
 | _::l,k+1,h=>inS (yUH (l:=l) (k:=k) h)
section
variable {P:Program} {R:Nat→Rec} {rd:Option Nat} {c:Code} {n:Nat} {l:List (Nat × Value)} {ms:List Nat} {alts:List Alt} {σ σ':St}
theorem kO (k:Nat) (t:(yBR alts k).T) (ys:List Ans) {C:Prop→Prop} (x:∀ F,F→C F) (nx:(yBR alts k).Q t σ') (hk:Nat.blt k alts.length=true:=by rfl)
  (h:∀ g:Nat→Value,Hid (wpE P R rd c (apA ys (.fin (yBR alts k) t)) ⟨Fm n (ov l g),ms⟩ σ (zFY n alts))=C (FIN alts (yBR alts k) t σ'):=by intro g;kernel_rfl):yO P R rd c n l ms alts σ :=
 zCT _ fun g=>(h g).mpr (x _ (fin _ t nx (yUH hk)))
theorem sK {H:(Nat→Value)→List Ans→Prop} (ys:List Ans) {B:Prop} (x:B) (h:∀ g,H g ys=B:=by intro g;kernel_rfl):∀ g,∃ an,H g an:=fun g=>⟨ys,(h g).mpr x⟩
theorem sF {p:List Nat} {e:Exit} {fr:(Nat→Value)→Fr} (k:Nat) (t:(yBR alts k).T) (ys:List Ans) {C:Prop→Prop} (x:∀ F,F→C F) (nx:(yBR alts k).Q t σ') (hk:Nat.blt k alts.length=true:=by rfl)
  (h:∀ g:Nat→Value,Hid (kAt P R rd c p (zFY n alts) e (fr g) σ (apA ys (.fin (yBR alts k) t)))=C (FIN alts (yBR alts k) t σ'):=by intro g;kernel_rfl):∀ g:Nat→Value,∃ an,Hid (kAt P R rd c p (zFY n alts) e (fr g) σ an) :=
 fun g=>⟨_,(h g).mpr (x _ (fin _ t nx (yUH hk)))⟩
end
theorem kz {P:St→Prop} {K:St→(Nat→Value)→Prop} (k:∀ σ,P σ→∀ g,K σ g):∀ (g:Nat→Value) (σ:St),P σ→K σ g:=fun g σ h=>k σ h g
theorem kz0 {P:St→Prop} {K:St→(Nat→Value)→Prop} (k:∀ σ,P σ→∀ g,K σ g):∀ (t:Unit) (g:Nat→Value) (σ:St),P σ→K σ g:=fun t g σ h=>k σ h g
theorem kz1 {T0:Type} {P:T0→St→Prop} {K:T0→St→(Nat→Value)→Prop} (k:∀ a0 σ,P a0 σ→∀ g,K a0 σ g):∀ (t:T0) (g:Nat→Value) (σ:St),P t σ→K t σ g:=fun t g σ h=>k t σ h g
theorem kz2 {T0 T1:Type} {P:T0→T1→St→Prop} {K:T0→T1→St→(Nat→Value)→Prop} (k:∀ a0 a1 σ,P a0 a1 σ→∀ g,K a0 a1 σ g):∀ (t:T0 × T1) (g:Nat→Value) (σ:St),P t.1 t.2 σ→K t.1 t.2 σ g:=fun t g σ h=>k t.1 t.2 σ h g
theorem kz3 {T0 T1 T2:Type} {P:T0→T1→T2→St→Prop} {K:T0→T1→T2→St→(Nat→Value)→Prop} (k:∀ a0 a1 a2 σ,P a0 a1 a2 σ→∀ g,K a0 a1 a2 σ g):∀ (t:T0 × T1 × T2) (g:Nat→Value) (σ:St),P t.1 t.2.1 t.2.2 σ→K t.1 t.2.1 t.2.2 σ g:=fun t g σ h=>k t.1 t.2.1 t.2.2 σ h g
abbrev NX1 {T0:Type} (Inv:Nat→T0→St→Prop) (k:Nat):T0→St→Prop:=fun a0 σ=>∃ k',k' < k∧Inv k' a0 σ
theorem xE {P:Program} {R:Nat→Rec} {rd:Option Nat} {c:Code} {n:Nat} {alts:List Alt} {T0:Type} {lf:T0→List (Nat × Value)} {mf:T0→List Nat} {Inv:Nat→T0→St→Prop} (hne:zUO alts) (hb:∀ k a0 σ,Inv k a0 σ→yO P R rd c n (lf a0) (mf a0) (⟨T0,.normal,fun t=>lf t,fun t=>mf t,fun t σ=>NX1 Inv k t σ⟩::alts) σ):∀ k a0 σ,Inv k a0 σ→yW P R rd c n (lf a0) (mf a0) alts σ :=
 fun k a0 σ h=>zLE (T:=T0) (lf:=fun t=>lf t) (mf:=fun t=>mf t) (Inv:=fun k t σ=>Inv k t σ) hne (fun k t σ h=>hb k t σ h) k a0 σ h
abbrev NX2 {T0 T1:Type} (Inv:Nat→T0→T1→St→Prop) (k:Nat):T0→T1→St→Prop:=fun a0 a1 σ=>∃ k',k' < k∧Inv k' a0 a1 σ
theorem zDP {P:Program} {R:Nat→Rec} {rd:Option Nat} {c:Code} {n:Nat} {alts:List Alt} {T0 T1:Type} {lf:T0→T1→List (Nat × Value)} {mf:T0→T1→List Nat} {Inv:Nat→T0→T1→St→Prop} (hne:zUO alts) (hb:∀ k a0 a1 σ,Inv k a0 a1 σ→yO P R rd c n (lf a0 a1) (mf a0 a1) (⟨T0 × T1,.normal,fun t=>lf t.1 t.2,fun t=>mf t.1 t.2,fun t σ=>NX2 Inv k t.1 t.2 σ⟩::alts) σ):∀ k a0 a1 σ,Inv k a0 a1 σ→yW P R rd c n (lf a0 a1) (mf a0 a1) alts σ :=
 fun k a0 a1 σ h=>zLE (T:=T0 × T1) (lf:=fun t=>lf t.1 t.2) (mf:=fun t=>mf t.1 t.2) (Inv:=fun k t σ=>Inv k t.1 t.2 σ) hne (fun k t σ h=>hb k t.1 t.2 σ h) k (a0,a1) σ h
abbrev NX4 {T0 T1 T2 T3:Type} (Inv:Nat→T0→T1→T2→T3→St→Prop) (k:Nat):T0→T1→T2→T3→St→Prop:=fun a0 a1 a2 a3 σ=>∃ k',k' < k∧Inv k' a0 a1 a2 a3 σ
theorem yUA {P:Program} {R:Nat→Rec} {rd:Option Nat} {c:Code} {n:Nat} {alts:List Alt} {T0 T1 T2 T3:Type} {lf:T0→T1→T2→T3→List (Nat × Value)} {mf:T0→T1→T2→T3→List Nat} {Inv:Nat→T0→T1→T2→T3→St→Prop} (hne:zUO alts) (hb:∀ k a0 a1 a2 a3 σ,Inv k a0 a1 a2 a3 σ→yO P R rd c n (lf a0 a1 a2 a3) (mf a0 a1 a2 a3) (⟨T0 × T1 × T2 × T3,.normal,fun t=>lf t.1 t.2.1 t.2.2.1 t.2.2.2,fun t=>mf t.1 t.2.1 t.2.2.1 t.2.2.2,fun t σ=>NX4 Inv k t.1 t.2.1 t.2.2.1 t.2.2.2 σ⟩::alts) σ):∀ k a0 a1 a2 a3 σ,Inv k a0 a1 a2 a3 σ→yW P R rd c n (lf a0 a1 a2 a3) (mf a0 a1 a2 a3) alts σ :=
 fun k a0 a1 a2 a3 σ h=>zLE (T:=T0 × T1 × T2 × T3) (lf:=fun t=>lf t.1 t.2.1 t.2.2.1 t.2.2.2) (mf:=fun t=>mf t.1 t.2.1 t.2.2.1 t.2.2.2) (Inv:=fun k t σ=>Inv k t.1 t.2.1 t.2.2.1 t.2.2.2 σ) hne (fun k t σ h=>hb k t.1 t.2.1 t.2.2.1 t.2.2.2 σ h) k (a0,a1,a2,a3) σ h
abbrev NX5 {T0 T1 T2 T3 T4:Type} (Inv:Nat→T0→T1→T2→T3→T4→St→Prop) (k:Nat):T0→T1→T2→T3→T4→St→Prop:=fun a0 a1 a2 a3 a4 σ=>∃ k',k' < k∧Inv k' a0 a1 a2 a3 a4 σ
theorem xVM {P:Program} {R:Nat→Rec} {rd:Option Nat} {c:Code} {n:Nat} {alts:List Alt} {T0 T1 T2 T3 T4:Type} {lf:T0→T1→T2→T3→T4→List (Nat × Value)} {mf:T0→T1→T2→T3→T4→List Nat} {Inv:Nat→T0→T1→T2→T3→T4→St→Prop} (hne:zUO alts) (hb:∀ k a0 a1 a2 a3 a4 σ,Inv k a0 a1 a2 a3 a4 σ→yO P R rd c n (lf a0 a1 a2 a3 a4) (mf a0 a1 a2 a3 a4) (⟨T0 × T1 × T2 × T3 × T4,.normal,fun t=>lf t.1 t.2.1 t.2.2.1 t.2.2.2.1 t.2.2.2.2,fun t=>mf t.1 t.2.1 t.2.2.1 t.2.2.2.1 t.2.2.2.2,fun t σ=>NX5 Inv k t.1 t.2.1 t.2.2.1 t.2.2.2.1 t.2.2.2.2 σ⟩::alts) σ):∀ k a0 a1 a2 a3 a4 σ,Inv k a0 a1 a2 a3 a4 σ→yW P R rd c n (lf a0 a1 a2 a3 a4) (mf a0 a1 a2 a3 a4) alts σ :=
 fun k a0 a1 a2 a3 a4 σ h=>zLE (T:=T0 × T1 × T2 × T3 × T4) (lf:=fun t=>lf t.1 t.2.1 t.2.2.1 t.2.2.2.1 t.2.2.2.2) (mf:=fun t=>mf t.1 t.2.1 t.2.2.1 t.2.2.2.1 t.2.2.2.2) (Inv:=fun k t σ=>Inv k t.1 t.2.1 t.2.2.1 t.2.2.2.1 t.2.2.2.2 σ) hne (fun k t σ h=>hb k t.1 t.2.1 t.2.2.1 t.2.2.2.1 t.2.2.2.2 σ h) k (a0,a1,a2,a3,a4) σ h
theorem zT:wH Tryz.prog 3=some false:=by kernel_rfl
theorem vE:yT Tryz.prog 3=some 1:=by kernel_rfl
theorem xFY:wH Tryz.prog 4=some false:=by kernel_rfl
theorem xTB:wH Tryz.prog 5=some false:=by kernel_rfl
theorem zAW:wH Tryz.prog 22=some false:=by kernel_rfl
theorem zEO:wH Tryz.prog 23=some false:=by kernel_rfl
theorem zEN:wH Tryz.prog 25=some true:=by kernel_rfl
theorem zAM:yT Tryz.prog 25=some 6:=by kernel_rfl
theorem yV:wH Tryz.prog 26=some false:=by kernel_rfl
theorem yQX:yT Tryz.prog 26=some 1:=by kernel_rfl
theorem zAV:wH Tryz.prog 31=some false:=by kernel_rfl
theorem xUL:yT Tryz.prog 31=some 1:=by kernel_rfl
theorem zAU:wH Tryz.prog 32=some false:=by kernel_rfl
theorem xUK:yT Tryz.prog 32=some 1:=by kernel_rfl
theorem xW:wH Tryz.prog 34=some true:=by kernel_rfl
theorem xC:yT Tryz.prog 34=some 6:=by kernel_rfl
theorem yPT:wH Tryz.prog 36=some false:=by kernel_rfl
theorem yQW:yT Tryz.prog 36=some 1:=by kernel_rfl
theorem xNX:wH Tryz.prog 45=some true:=by kernel_rfl
theorem yGN:yT Tryz.prog 45=some 3:=by kernel_rfl
theorem xUJ:yT Tryz.prog 68=some 2:=by kernel_rfl
theorem xNW:wH Tryz.prog 76=some true:=by kernel_rfl
theorem uZ:yT Tryz.prog 76=some 6:=by kernel_rfl
theorem zMM:wH Tryz.prog 85=some true:=by kernel_rfl
theorem vY:yT Tryz.prog 85=some 5:=by kernel_rfl
theorem xTX:wH Tryz.prog 86=some false:=by kernel_rfl
theorem yPS:wH Tryz.prog 88=some true:=by kernel_rfl
theorem zQS:yT Tryz.prog 88=some 6:=by kernel_rfl
theorem xTW:wH Tryz.prog 89=some false:=by kernel_rfl
theorem xYB:wH Tryz.prog 92=some true:=by kernel_rfl
theorem zIJ:yT Tryz.prog 92=some 5:=by kernel_rfl
theorem zCM:wH Tryz.prog 98=some true:=by kernel_rfl
theorem wI:yT Tryz.prog 98=some 6:=by kernel_rfl
theorem xYA:wH Tryz.prog 99=some false:=by kernel_rfl
theorem xOA:wH Tryz.prog 105=some false:=by kernel_rfl
theorem vM:wH Tryz.prog 107=some true:=by kernel_rfl
theorem xA:yT Tryz.prog 107=some 4:=by kernel_rfl
theorem xNZ:wH Tryz.prog 109=some true:=by kernel_rfl
theorem yGO:yT Tryz.prog 109=some 24:=by kernel_rfl
theorem yXA:wH Tryz.prog 116=some false:=by kernel_rfl
theorem zOA:wH Tryz.prog 118=some true:=by kernel_rfl
theorem zCN:yT Tryz.prog 118=some 2:=by kernel_rfl
theorem uI:wH Tryz.prog 125=some false:=by kernel_rfl
theorem xWM:wH Tryz.prog 126=some false:=by kernel_rfl
theorem yJG:wH Tryz.prog 130=some true:=by kernel_rfl
theorem vS:yT Tryz.prog 130=some 8:=by kernel_rfl
theorem xWL:wH Tryz.prog 133=some true:=by kernel_rfl
theorem xPH:yT Tryz.prog 133=some 25:=by kernel_rfl
theorem xWK:wH Tryz.prog 143=some false:=by kernel_rfl
theorem xPG:yT Tryz.prog 143=some 1:=by kernel_rfl
theorem xNY:wH Tryz.prog 144=some false:=by kernel_rfl
theorem xPF:yT Tryz.prog 144=some 1:=by kernel_rfl
theorem xWJ:wH Tryz.prog 164=some false:=by kernel_rfl
theorem yJF:wH Tryz.prog 166=some false:=by kernel_rfl
theorem zVD:yT Tryz.prog 166=some 1:=by kernel_rfl
theorem ai {a b:Prop} (h:a) (k:b):a∧b:=And.intro h k
abbrev iV (n:Int):Value:=.int .i64 n
abbrev I6a (n:Int):Prop:=-9223372036854775808≤n∧n≤9223372036854775807
abbrev zLq (s:St) (t:Nat) (a:Addr) (v:Value):Prop:=(a.block<s.y∧zM RD v=true)∧zB Tryz.prog s t a=some v
abbrev vPa:=Value→St→Prop
abbrev lNa:=List (Nat × Value)
abbrev oAa:=Option Addr
abbrev lVa:=List Value
def kZ (R:Nat→Rec) (c:Code) (p:List Nat) (K:Exit→Fr→St→List Ans→Prop) (e:Exit) (n:Nat) (l:List (Nat × Value)) (σ:St):Prop:=∀ g:Nat→Value,∃ an,Hid (kAt Tryz.prog R none c p K e ⟨Fm n (ov l g),[]⟩ σ an)
abbrev qe (b o:Nat):Addr:=⟨b,o,none⟩
abbrev pz (a:Addr):Value:=.pointer (some a)
abbrev pt (b o:Nat):Value:=.pointer (some ⟨b,o,none⟩)
abbrev qf (l:List Value):Value:=.agg ⟨l⟩
abbrev lz (s:St) (t:Nat) (a:Addr) (v:Value):Prop:=zB Tryz.prog s t a=some v
noncomputable abbrev qg:=@zP Tryz.prog
noncomputable abbrev qh:=@zS Tryz.prog
noncomputable abbrev qi:=@yO Tryz.prog
noncomputable abbrev qj:=@zX Tryz.prog
noncomputable abbrev qk:=@yW Tryz.prog
noncomputable abbrev ql:=@kFn Tryz.prog
noncomputable abbrev qm:=@zD Tryz.prog
noncomputable abbrev qn:=@zQ Tryz.prog
end Go.Proofs.YtgfiniccfpfplaaGreat
