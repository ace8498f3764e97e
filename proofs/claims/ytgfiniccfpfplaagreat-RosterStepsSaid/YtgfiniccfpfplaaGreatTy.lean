import Derived.Test.YtgfiniccfpfplaaGreatOk
import Derived.Test.YtgfiniccfpfplaaGreatLayC
namespace Go.Proofs.YtgfiniccfpfplaaGreat
open Go Go.Lay
@[simp,reducible] def zK (x0 x1 x2 x3:Int):List Value:=[.int .i64 x0,.int .i64 x1,.int .i64 x2,.int .i64 x3]
@[simp,reducible] def zF (x0 x1 x2 x3 x4:Int):List Value:=[.int .i64 x0,.int .i64 x1,.int .i64 x2,.int .i64 x3,.int .i64 x4]
@[simp,reducible] def zJ (x0 x1 x2 x3 x4 x5:Int):List Value:=[.int .i64 x0,.int .i64 x1,.int .i64 x2,.int .i64 x3,.int .i64 x4,.int .i64 x5]
@[simp,reducible] def wBZ (x0 x1 x2 x3 x4 x5 x6:Int):List Value:=[.int .i64 x0,.int .i64 x1,.int .i64 x2,.int .i64 x3,.int .i64 x4,.int .i64 x5,.int .i64 x6]
@[simp,reducible] def wBY (x0 x1 x2 x3 x4 x5 x6 x7:Int):List Value:=[.int .i64 x0,.int .i64 x1,.int .i64 x2,.int .i64 x3,.int .i64 x4,.int .i64 x5,.int .i64 x6,.int .i64 x7]
@[simp,reducible] def wBX (x0 x1 x2 x3 x4 x5 x6 x7 x8:Int):List Value:=[.int .i64 x0,.int .i64 x1,.int .i64 x2,.int .i64 x3,.int .i64 x4,.int .i64 x5,.int .i64 x6,.int .i64 x7,.int .i64 x8]
@[simp,reducible] def wBQ (x0 x1 x2 x3 x4 x5 x6 x7 x8 x9:Int):List Value:=[.int .i64 x0,.int .i64 x1,.int .i64 x2,.int .i64 x3,.int .i64 x4,.int .i64 x5,.int .i64 x6,.int .i64 x7,.int .i64 x8,.int .i64 x9]
@[simp,reducible] def wBP (x0 x1 x2 x3 x4 x5 x6 x7 x8 x9 x10:Int):List Value:=[.int .i64 x0,.int .i64 x1,.int .i64 x2,.int .i64 x3,.int .i64 x4,.int .i64 x5,.int .i64 x6,.int .i64 x7,.int .i64 x8,.int .i64 x9,.int .i64 x10]
@[simp,reducible] def wBO (x0 x1 x2 x3 x4 x5 x6 x7 x8 x9 x10 x11:Int):List Value:=[.int .i64 x0,.int .i64 x1,.int .i64 x2,.int .i64 x3,.int .i64 x4,.int .i64 x5,.int .i64 x6,.int .i64 x7,.int .i64 x8,.int .i64 x9,.int .i64 x10,.int .i64 x11]
@[simp,reducible] def wBN (x0 x1 x2 x3 x4 x5 x6 x7 x8 x9 x10 x11 x12 x13 x14:Int):List Value:=[.int .i64 x0,.int .i64 x1,.int .i64 x2,.int .i64 x3,.int .i64 x4,.int .i64 x5,.int .i64 x6,.int .i64 x7,.int .i64 x8,.int .i64 x9,.int .i64 x10,.int .i64 x11,.int .i64 x12,.int .i64 x13,.int .i64 x14]
@[simp,reducible] def wBM (x0 x1 x2 x3 x4 x5 x6 x7 x8 x9 x10 x11 x12 x13 x14 x15 x16 x17 x18 x19 x20 x21 x22 x23:Int):List Value:=[.int .i64 x0,.int .i64 x1,.int .i64 x2,.int .i64 x3,.int .i64 x4,.int .i64 x5,.int .i64 x6,.int .i64 x7,.int .i64 x8,.int .i64 x9,.int .i64 x10,.int .i64 x11,.int .i64 x12,.int .i64 x13,.int .i64 x14,.int .i64 x15,.int .i64 x16,.int .i64 x17,.int .i64 x18,.int .i64 x19,.int .i64 x20,.int .i64 x21,.int .i64 x22,.int .i64 x23]
@[simp,reducible] def wBL (x0 x1 x2 x3 x4 x5 x6 x7 x8 x9 x10 x11 x12 x13 x14 x15 x16 x17 x18 x19 x20 x21 x22 x23 x24:Int):List Value:=[.int .i64 x0,.int .i64 x1,.int .i64 x2,.int .i64 x3,.int .i64 x4,.int .i64 x5,.int .i64 x6,.int .i64 x7,.int .i64 x8,.int .i64 x9,.int .i64 x10,.int .i64 x11,.int .i64 x12,.int .i64 x13,.int .i64 x14,.int .i64 x15,.int .i64 x16,.int .i64 x17,.int .i64 x18,.int .i64 x19,.int .i64 x20,.int .i64 x21,.int .i64 x22,.int .i64 x23,.int .i64 x24]
@[simp,reducible] def rcd (k a b:Int):List Value:=[.int .u8 k,.int .i64 a,.int .i64 b]
@[simp,reducible] def zO (p:Option Addr) (l c:Nat) (q:Option Addr) (m d:Nat) (r:Option Addr) (n e:Nat) (x y z:Int):List Value:=[.slice p l c,.slice q m d,.slice r n e,.int .i64 x,.int .i64 y,.int .i64 z]
@[simp,reducible] def wkc (a:Int) (p:Option Addr) (l c:Nat) (q:Option Addr) (m d:Nat) (x y z:Int):List Value:=[.int .i64 a,.slice p l c,.slice q m d,.int .i64 x,.int .i64 y,.int .i64 z]
abbrev Ix (i:Int) (n:Nat):Prop:=0<=i/\i<(n:Int)
abbrev I6 (n:Int):Prop:=-9223372036854775808<=n/\n<=9223372036854775807
theorem nlt (n i j:Nat) (h:Nat.blt i j=true):n+i<n+j:=Nat.add_lt_add_left (Nat.le_of_ble_eq_true h) n
theorem vC {b n:Nat} (h:b<n) (j:Nat):b<n+j:=Nat.lt_of_lt_of_le h (Nat.le_add_right n j)
theorem nle {a b:Nat} (h:Nat.ble a b=true):a<=b:=Nat.le_of_ble_eq_true h
theorem nne (n i j:Nat) (h:Nat.beq i j=false):n+i≠n+j:=fun e=>by rw [Nat.add_left_cancel e,Nat.beq_refl] at h;cases h
theorem yBW {n l c:Nat} {p:Option Addr} (h:∀ a,p=some a->a.block<n) (j:Nat):yV RD (n+j) (.slice p l c)=true:=xA fun a e=>vC (h a e) j
theorem w64 {n:Int} (h:-9223372036854775808<=n/\n<=9223372036854775807):zAM .i64 n=n:=zXL h.1 h.2
theorem an2 {A0 A1 A2:Prop} (a0:A0) (a1:A1) (a2:A2):A0/\A1/\A2:=⟨a0,a1,a2⟩
theorem an3 {A0 A1 A2 A3:Prop} (a0:A0) (a1:A1) (a2:A2) (a3:A3):A0/\A1/\A2/\A3:=⟨a0,a1,a2,a3⟩
theorem an4 {A0 A1 A2 A3 A4:Prop} (a0:A0) (a1:A1) (a2:A2) (a3:A3) (a4:A4):A0/\A1/\A2/\A3/\A4:=⟨a0,a1,a2,a3,a4⟩
theorem an5 {A0 A1 A2 A3 A4 A5:Prop} (a0:A0) (a1:A1) (a2:A2) (a3:A3) (a4:A4) (a5:A5):A0/\A1/\A2/\A3/\A4/\A5:=⟨a0,a1,a2,a3,a4,a5⟩
theorem an6 {A0 A1 A2 A3 A4 A5 A6:Prop} (a0:A0) (a1:A1) (a2:A2) (a3:A3) (a4:A4) (a5:A5) (a6:A6):A0/\A1/\A2/\A3/\A4/\A5/\A6:=⟨a0,a1,a2,a3,a4,a5,a6⟩
theorem kd {a b:Prop} (x:b) (h:a=b:=by kernel_rfl):a:=h.mpr x
def apA:List Ans->Ans->List Ans
 | [],x=>[x]
 | a::l,x=>a::apA l x
def yDF:List Alt->Nat->Alt
 | [],_=>⟨Unit,.normal,fun _=>[],fun _=>[],fun _ _=>False⟩
 | a::_,0=>a
 | _::l,k+1=>yDF l k
theorem yWV:∀ {l:List Alt} {k:Nat},Nat.blt k l.length=true->In (yDF l k) l
 | [],k,h=>by cases k <;> cases h
 | _::_,0,_=>in0
 | _::l,k+1,h=>inS (yWV (l:=l) (k:=k) h)
section
variable {P:Program} {R:Nat->Rec} {rd:Option Nat} {c:Code} {n:Nat} {l:List (Nat × Value)} {ms:List Nat} {alts:List Alt} {Z Z':St}
theorem kO (k:Nat) (t:(yDF alts k).T) (ys:List Ans) {C:Prop->Prop} (x:∀ F,F->C F) (nx:(yDF alts k).Q t Z') (hk:Nat.blt k alts.length=true:=by rfl)
  (h:∀ g:Nat->Value,Hid (wpE P R rd c (apA ys (.fin (yDF alts k) t)) ⟨Fm n (ov l g),ms⟩ Z (zGR n alts))=C (FIN alts (yDF alts k) t Z'):=by intro g;kernel_rfl):yN P R rd c n l ms alts Z :=
 zDG _ fun g=>(h g).mpr (x _ (fin _ t nx (yWV hk)))
theorem sK {H:(Nat->Value)->List Ans->Prop} (ys:List Ans) {B:Prop} (x:B) (h:∀ g,H g ys=B:=by intro g;kernel_rfl):∀ g,∃ an,H g an:=fun g=>⟨ys,(h g).mpr x⟩
theorem sF {p:List Nat} {e:Exit} {fr:(Nat->Value)->Fr} (k:Nat) (t:(yDF alts k).T) (ys:List Ans) {C:Prop->Prop} (x:∀ F,F->C F) (nx:(yDF alts k).Q t Z') (hk:Nat.blt k alts.length=true:=by rfl)
  (h:∀ g:Nat->Value,Hid (kAt P R rd c p (zGR n alts) e (fr g) Z (apA ys (.fin (yDF alts k) t)))=C (FIN alts (yDF alts k) t Z'):=by intro g;kernel_rfl):∀ g:Nat->Value,∃ an,Hid (kAt P R rd c p (zGR n alts) e (fr g) Z an) :=
 fun g=>⟨_,(h g).mpr (x _ (fin _ t nx (yWV hk)))⟩
end
theorem kz {P:St->Prop} {K:St->(Nat->Value)->Prop} (k:∀ Z,P Z->∀ g,K Z g):∀ (g:Nat->Value) (Z:St),P Z->K Z g:=fun g Z h=>k Z h g
theorem kz0 {P:St->Prop} {K:St->(Nat->Value)->Prop} (k:∀ Z,P Z->∀ g,K Z g):∀ (t:Unit) (g:Nat->Value) (Z:St),P Z->K Z g:=fun t g Z h=>k Z h g
theorem kz1 {T0:Type} {P:T0->St->Prop} {K:T0->St->(Nat->Value)->Prop} (k:∀ a0 Z,P a0 Z->∀ g,K a0 Z g):∀ (t:T0) (g:Nat->Value) (Z:St),P t Z->K t Z g:=fun t g Z h=>k t Z h g
theorem kz2 {T0 T1:Type} {P:T0->T1->St->Prop} {K:T0->T1->St->(Nat->Value)->Prop} (k:∀ a0 a1 Z,P a0 a1 Z->∀ g,K a0 a1 Z g):∀ (t:T0 × T1) (g:Nat->Value) (Z:St),P t.1 t.2 Z->K t.1 t.2 Z g:=fun t g Z h=>k t.1 t.2 Z h g
theorem kz3 {T0 T1 T2:Type} {P:T0->T1->T2->St->Prop} {K:T0->T1->T2->St->(Nat->Value)->Prop} (k:∀ a0 a1 a2 Z,P a0 a1 a2 Z->∀ g,K a0 a1 a2 Z g):∀ (t:T0 × T1 × T2) (g:Nat->Value) (Z:St),P t.1 t.2.1 t.2.2 Z->K t.1 t.2.1 t.2.2 Z g:=fun t g Z h=>k t.1 t.2.1 t.2.2 Z h g
abbrev NX1 {T0:Type} (Inv:Nat->T0->St->Prop) (k:Nat):T0->St->Prop:=fun a0 Z=>∃ k',k' < k/\Inv k' a0 Z
theorem xF {P:Program} {R:Nat->Rec} {rd:Option Nat} {c:Code} {n:Nat} {alts:List Alt} {T0:Type} {lf:T0->List (Nat × Value)} {mf:T0->List Nat} {Inv:Nat->T0->St->Prop} (hne:zVW alts) (hb:∀ k a0 Z,Inv k a0 Z->yN P R rd c n (lf a0) (mf a0) (⟨T0,.normal,fun t=>lf t,fun t=>mf t,fun t Z=>NX1 Inv k t Z⟩::alts) Z):∀ k a0 Z,Inv k a0 Z->yR P R rd c n (lf a0) (mf a0) alts Z :=
 fun k a0 Z h=>zLW (T:=T0) (lf:=fun t=>lf t) (mf:=fun t=>mf t) (Inv:=fun k t Z=>Inv k t Z) hne (fun k t Z h=>hb k t Z h) k a0 Z h
abbrev NX2 {T0 T1:Type} (Inv:Nat->T0->T1->St->Prop) (k:Nat):T0->T1->St->Prop:=fun a0 a1 Z=>∃ k',k' < k/\Inv k' a0 a1 Z
theorem zEB {P:Program} {R:Nat->Rec} {rd:Option Nat} {c:Code} {n:Nat} {alts:List Alt} {T0 T1:Type} {lf:T0->T1->List (Nat × Value)} {mf:T0->T1->List Nat} {Inv:Nat->T0->T1->St->Prop} (hne:zVW alts) (hb:∀ k a0 a1 Z,Inv k a0 a1 Z->yN P R rd c n (lf a0 a1) (mf a0 a1) (⟨T0 × T1,.normal,fun t=>lf t.1 t.2,fun t=>mf t.1 t.2,fun t Z=>NX2 Inv k t.1 t.2 Z⟩::alts) Z):∀ k a0 a1 Z,Inv k a0 a1 Z->yR P R rd c n (lf a0 a1) (mf a0 a1) alts Z :=
 fun k a0 a1 Z h=>zLW (T:=T0 × T1) (lf:=fun t=>lf t.1 t.2) (mf:=fun t=>mf t.1 t.2) (Inv:=fun k t Z=>Inv k t.1 t.2 Z) hne (fun k t Z h=>hb k t.1 t.2 Z h) k (a0,a1) Z h
abbrev NX4 {T0 T1 T2 T3:Type} (Inv:Nat->T0->T1->T2->T3->St->Prop) (k:Nat):T0->T1->T2->T3->St->Prop:=fun a0 a1 a2 a3 Z=>∃ k',k' < k/\Inv k' a0 a1 a2 a3 Z
theorem zZZ {P:Program} {R:Nat->Rec} {rd:Option Nat} {c:Code} {n:Nat} {alts:List Alt} {T0 T1 T2 T3:Type} {lf:T0->T1->T2->T3->List (Nat × Value)} {mf:T0->T1->T2->T3->List Nat} {Inv:Nat->T0->T1->T2->T3->St->Prop} (hne:zVW alts) (hb:∀ k a0 a1 a2 a3 Z,Inv k a0 a1 a2 a3 Z->yN P R rd c n (lf a0 a1 a2 a3) (mf a0 a1 a2 a3) (⟨T0 × T1 × T2 × T3,.normal,fun t=>lf t.1 t.2.1 t.2.2.1 t.2.2.2,fun t=>mf t.1 t.2.1 t.2.2.1 t.2.2.2,fun t Z=>NX4 Inv k t.1 t.2.1 t.2.2.1 t.2.2.2 Z⟩::alts) Z):∀ k a0 a1 a2 a3 Z,Inv k a0 a1 a2 a3 Z->yR P R rd c n (lf a0 a1 a2 a3) (mf a0 a1 a2 a3) alts Z :=
 fun k a0 a1 a2 a3 Z h=>zLW (T:=T0 × T1 × T2 × T3) (lf:=fun t=>lf t.1 t.2.1 t.2.2.1 t.2.2.2) (mf:=fun t=>mf t.1 t.2.1 t.2.2.1 t.2.2.2) (Inv:=fun k t Z=>Inv k t.1 t.2.1 t.2.2.1 t.2.2.2 Z) hne (fun k t Z h=>hb k t.1 t.2.1 t.2.2.1 t.2.2.2 Z h) k (a0,a1,a2,a3) Z h
abbrev NX5 {T0 T1 T2 T3 T4:Type} (Inv:Nat->T0->T1->T2->T3->T4->St->Prop) (k:Nat):T0->T1->T2->T3->T4->St->Prop:=fun a0 a1 a2 a3 a4 Z=>∃ k',k' < k/\Inv k' a0 a1 a2 a3 a4 Z
theorem xYM {P:Program} {R:Nat->Rec} {rd:Option Nat} {c:Code} {n:Nat} {alts:List Alt} {T0 T1 T2 T3 T4:Type} {lf:T0->T1->T2->T3->T4->List (Nat × Value)} {mf:T0->T1->T2->T3->T4->List Nat} {Inv:Nat->T0->T1->T2->T3->T4->St->Prop} (hne:zVW alts) (hb:∀ k a0 a1 a2 a3 a4 Z,Inv k a0 a1 a2 a3 a4 Z->yN P R rd c n (lf a0 a1 a2 a3 a4) (mf a0 a1 a2 a3 a4) (⟨T0 × T1 × T2 × T3 × T4,.normal,fun t=>lf t.1 t.2.1 t.2.2.1 t.2.2.2.1 t.2.2.2.2,fun t=>mf t.1 t.2.1 t.2.2.1 t.2.2.2.1 t.2.2.2.2,fun t Z=>NX5 Inv k t.1 t.2.1 t.2.2.1 t.2.2.2.1 t.2.2.2.2 Z⟩::alts) Z):∀ k a0 a1 a2 a3 a4 Z,Inv k a0 a1 a2 a3 a4 Z->yR P R rd c n (lf a0 a1 a2 a3 a4) (mf a0 a1 a2 a3 a4) alts Z :=
 fun k a0 a1 a2 a3 a4 Z h=>zLW (T:=T0 × T1 × T2 × T3 × T4) (lf:=fun t=>lf t.1 t.2.1 t.2.2.1 t.2.2.2.1 t.2.2.2.2) (mf:=fun t=>mf t.1 t.2.1 t.2.2.1 t.2.2.2.1 t.2.2.2.2) (Inv:=fun k t Z=>Inv k t.1 t.2.1 t.2.2.1 t.2.2.2.1 t.2.2.2.2 Z) hne (fun k t Z h=>hb k t.1 t.2.1 t.2.2.1 t.2.2.2.1 t.2.2.2.2 Z h) k (a0,a1,a2,a3,a4) Z h
theorem zU:wJ Tryz.prog 3=some false:=by kernel_rfl
theorem vD:yT Tryz.prog 3=some 1:=by kernel_rfl
theorem xIS:wJ Tryz.prog 4=some false:=by kernel_rfl
theorem xWB:wJ Tryz.prog 5=some false:=by kernel_rfl
theorem zAF:wJ Tryz.prog 22=some false:=by kernel_rfl
theorem zCZ:wJ Tryz.prog 23=some false:=by kernel_rfl
theorem zBG:wJ Tryz.prog 25=some true:=by kernel_rfl
theorem uC:yT Tryz.prog 25=some 6:=by kernel_rfl
theorem yZ:wJ Tryz.prog 26=some false:=by kernel_rfl
theorem yTI:yT Tryz.prog 26=some 1:=by kernel_rfl
theorem uL:wJ Tryz.prog 31=some false:=by kernel_rfl
theorem xXK:yT Tryz.prog 31=some 1:=by kernel_rfl
theorem zAX:wJ Tryz.prog 32=some false:=by kernel_rfl
theorem xXJ:yT Tryz.prog 32=some 1:=by kernel_rfl
theorem xL:wJ Tryz.prog 34=some true:=by kernel_rfl
theorem yS:yT Tryz.prog 34=some 6:=by kernel_rfl
theorem yRZ:wJ Tryz.prog 36=some false:=by kernel_rfl
theorem yTH:yT Tryz.prog 36=some 1:=by kernel_rfl
theorem xQW:wJ Tryz.prog 45=some true:=by kernel_rfl
theorem yIK:yT Tryz.prog 45=some 3:=by kernel_rfl
theorem xQV:wJ Tryz.prog 76=some true:=by kernel_rfl
theorem zAI:yT Tryz.prog 76=some 6:=by kernel_rfl
theorem wBB:wJ Tryz.prog 83=some true:=by kernel_rfl
theorem yTG:yT Tryz.prog 83=some 2:=by kernel_rfl
theorem zNK:wJ Tryz.prog 85=some true:=by kernel_rfl
theorem uB:yT Tryz.prog 85=some 5:=by kernel_rfl
theorem xWY:wJ Tryz.prog 86=some false:=by kernel_rfl
theorem yRY:wJ Tryz.prog 88=some true:=by kernel_rfl
theorem zRT:yT Tryz.prog 88=some 6:=by kernel_rfl
theorem xWX:wJ Tryz.prog 89=some false:=by kernel_rfl
theorem wBA:wJ Tryz.prog 92=some true:=by kernel_rfl
theorem zJA:yT Tryz.prog 92=some 5:=by kernel_rfl
theorem zCY:wJ Tryz.prog 98=some true:=by kernel_rfl
theorem wM:yT Tryz.prog 98=some 6:=by kernel_rfl
theorem wAZ:wJ Tryz.prog 99=some false:=by kernel_rfl
theorem xQZ:wJ Tryz.prog 105=some false:=by kernel_rfl
theorem vO:wJ Tryz.prog 107=some true:=by kernel_rfl
theorem xC:yT Tryz.prog 107=some 4:=by kernel_rfl
theorem xQY:wJ Tryz.prog 109=some true:=by kernel_rfl
theorem yIL:yT Tryz.prog 109=some 24:=by kernel_rfl
theorem yZO:wJ Tryz.prog 116=some false:=by kernel_rfl
theorem zOW:wJ Tryz.prog 118=some true:=by kernel_rfl
theorem zDA:yT Tryz.prog 118=some 2:=by kernel_rfl
theorem uM:wJ Tryz.prog 125=some false:=by kernel_rfl
theorem xZL:wJ Tryz.prog 126=some false:=by kernel_rfl
theorem yLJ:wJ Tryz.prog 130=some true:=by kernel_rfl
theorem vT:yT Tryz.prog 130=some 8:=by kernel_rfl
theorem xZK:wJ Tryz.prog 133=some true:=by kernel_rfl
theorem xSH:yT Tryz.prog 133=some 25:=by kernel_rfl
theorem xZJ:wJ Tryz.prog 143=some false:=by kernel_rfl
theorem xSG:yT Tryz.prog 143=some 1:=by kernel_rfl
theorem xQX:wJ Tryz.prog 144=some false:=by kernel_rfl
theorem xSF:yT Tryz.prog 144=some 1:=by kernel_rfl
theorem xZI:wJ Tryz.prog 164=some false:=by kernel_rfl
theorem yLI:wJ Tryz.prog 166=some false:=by kernel_rfl
theorem zWK:yT Tryz.prog 166=some 1:=by kernel_rfl
theorem ai {a b:Prop} (h:a) (k:b):a/\b:=And.intro h k
abbrev iV (n:Int):Value:=.int .i64 n
abbrev I6a (n:Int):Prop:=-9223372036854775808<=n/\n<=9223372036854775807
abbrev zLq (s:St) (t:Nat) (a:Addr) (v:Value):Prop:=(a.block<s.y/\zM RD v=true)/\zB Tryz.prog s t a=some v
abbrev lNa:=List (Nat × Value)
abbrev vPa:=Value->St->Prop
abbrev oAa:=Option Addr
abbrev lVa:=List Value
def kZ (R:Nat->Rec) (c:Code) (p:List Nat) (K:Exit->Fr->St->List Ans->Prop) (e:Exit) (n:Nat) (l:List (Nat × Value)) (Z:St):Prop:=∀ g:Nat->Value,∃ an,Hid (kAt Tryz.prog R none c p K e ⟨Fm n (ov l g),[]⟩ Z an)
abbrev qe (b o:Nat):Addr:=⟨b,o,none⟩
abbrev pz (a:Addr):Value:=.pointer (some a)
abbrev pq (b o:Nat):Value:=.pointer (some ⟨b,o,none⟩)
abbrev qf (l:List Value):Value:=.agg ⟨l⟩
abbrev lz (s:St) (t:Nat) (a:Addr) (v:Value):Prop:=zB Tryz.prog s t a=some v
noncomputable abbrev qg:=@zN Tryz.prog
noncomputable abbrev qh:=@zS Tryz.prog
noncomputable abbrev qi:=@yN Tryz.prog
noncomputable abbrev qj:=@zX Tryz.prog
noncomputable abbrev qk:=@yR Tryz.prog
noncomputable abbrev ql:=@kFn Tryz.prog
noncomputable abbrev qm:=@zD Tryz.prog
noncomputable abbrev qn:=@zQ Tryz.prog
end Go.Proofs.YtgfiniccfpfplaaGreat
