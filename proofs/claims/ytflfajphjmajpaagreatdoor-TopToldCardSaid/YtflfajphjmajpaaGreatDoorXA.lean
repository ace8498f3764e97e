import Derived.Test.YtflfajphjmajpaaGreatDoorOk
import Derived.Test.YtflfajphjmajpaaGreatDoorLayC
set_option linter.unusedVariables false
set_option maxRecDepth 20000
namespace Go.Proofs.YtflfajphjmajpaaGreatDoor
open Go Go.Lay
open Tryz renaming prog -> Pg
theorem krf {A:Type} {a b:A} (h:a=b:=by kernel_rfl):a=b:=h
@[simp,reducible] def xW (x0 x1 x2 x3:Int):List Value:=[.int .i64 x0,.int .i64 x1,.int .i64 x2,.int .i64 x3]
@[simp,reducible] def yF (x0 x1 x2 x3 x4:Int):List Value:=[.int .i64 x0,.int .i64 x1,.int .i64 x2,.int .i64 x3,.int .i64 x4]
@[simp,reducible] def zBP (x0 x1 x2 x3 x4 x5:Int):List Value:=[.int .i64 x0,.int .i64 x1,.int .i64 x2,.int .i64 x3,.int .i64 x4,.int .i64 x5]
@[simp,reducible] def yH (x0 x1 x2 x3 x4 x5 x6:Int):List Value:=[.int .i64 x0,.int .i64 x1,.int .i64 x2,.int .i64 x3,.int .i64 x4,.int .i64 x5,.int .i64 x6]
@[simp,reducible] def rcd (m s t k a b:Int):List Value:=[.int .i64 m,.int .i64 s,.int .i64 t,.int .u8 k,.int .i64 a,.int .i64 b]
@[simp,reducible] def xE (m s t k a b m1 s1 t1 k1 a1 b1:Int) (p:Option Addr) (l c:Nat):List Value:=[.int .i64 m,.int .i64 s,.int .i64 t,.int .u8 k,.int .i64 a,.int .i64 b,.int .i64 m1,.int .i64 s1,.int .i64 t1,.int .u8 k1,.int .i64 a1,.int .i64 b1,.slice p l c]
@[simp,reducible] def zBL (m:Option Nat):List Value:=[.slice none 0 0,.slice none 0 0,.slice none 0 0,.slice none 0 0,.slice none 0 0,.slice none 0 0,.slice none 0 0,.slice none 0 0,.slice none 0 0,.slice none 0 0,.map m]
@[simp,reducible] def trf (z:Int) (p1:Option Addr) (l1 c1:Nat) (p2:Option Addr) (l2 c2:Nat) (p3:Option Addr) (l3 c3:Nat) (w:Int):List Value:=[.int .i64 z,.slice p1 l1 c1,.slice p2 l2 c2,.slice p3 l3 c3,.int .i64 w]
structure Rd where
 d:Int
 t:Int
 a:Int
 b:Int
 deriving DecidableEq,Inhabited
structure Tp where
 m:Int
 n:Int
 c:Int
 r:Rd
 deriving DecidableEq,Inhabited
structure Trf where
 z:Int
 p:Option Addr
 pl:Nat
 pc:Nat
 q:Option Addr
 ql:Nat
 qc:Nat
 s:Option Addr
 sl:Nat
 sc:Nat
 w:Int
@[simp,reducible] def rdL (r:Rd):List Value:=[.int .i64 r.d,.int .i64 r.t,.int .i64 r.a,.int .i64 r.b]
@[simp,reducible] def tpL (x:Tp):List Value:=[.int .i64 x.m,.int .i64 x.n,.int .i64 x.c,.int .i64 x.r.d,.int .i64 x.r.t,.int .i64 x.r.a,.int .i64 x.r.b]
@[simp,reducible] def trL (T:Trf):List Value:=trf T.z T.p T.pl T.pc T.q T.ql T.qc T.s T.sl T.sc T.w
@[reducible] def spX:Value:=.iface 119 (.agg ⟨[]⟩)
abbrev Ix (i:Int) (n:Nat):Prop:=0<=i/\i<(n:Int)
abbrev I6 (n:Int):Prop:=-9223372036854775808<=n/\n<=9223372036854775807
theorem nlt (n i j:Nat) (h:Nat.blt i j=true):n+i<n+j:=Nat.add_lt_add_left (Nat.le_of_ble_eq_true h) n
theorem xXJ {b n:Nat} (h:b<n) (j:Nat):b<n+j:=Nat.lt_of_lt_of_le h (Nat.le_add_right n j)
theorem nle {a b:Nat} (h:Nat.ble a b=true):a<=b:=Nat.le_of_ble_eq_true h
theorem nne (n i j:Nat) (h:Nat.beq i j=false):n+i≠n+j:=fun e=>by rw [Nat.add_left_cancel e,Nat.beq_refl] at h;cases h
theorem yAN {n l c:Nat} {p:Option Addr} (h:∀ a,p=some a->a.block<n) (j:Nat):xL RD (n+j) (.slice p l c)=true:=zEH fun a e=>xXJ (h a e) j
theorem w64 {n:Int} (h:-9223372036854775808<=n/\n<=9223372036854775807):vV .i64 n=n:=vS h.1 h.2
theorem an2 {A0 A1 A2:Prop} (a0:A0) (a1:A1) (a2:A2):A0/\A1/\A2:=⟨a0,a1,a2⟩
theorem an3 {A0 A1 A2 A3:Prop} (a0:A0) (a1:A1) (a2:A2) (a3:A3):A0/\A1/\A2/\A3:=⟨a0,a1,a2,a3⟩
theorem an4 {A0 A1 A2 A3 A4:Prop} (a0:A0) (a1:A1) (a2:A2) (a3:A3) (a4:A4):A0/\A1/\A2/\A3/\A4:=⟨a0,a1,a2,a3,a4⟩
theorem an5 {A0 A1 A2 A3 A4 A5:Prop} (a0:A0) (a1:A1) (a2:A2) (a3:A3) (a4:A4) (a5:A5):A0/\A1/\A2/\A3/\A4/\A5:=⟨a0,a1,a2,a3,a4,a5⟩
theorem an6 {A0 A1 A2 A3 A4 A5 A6:Prop} (a0:A0) (a1:A1) (a2:A2) (a3:A3) (a4:A4) (a5:A5) (a6:A6):A0/\A1/\A2/\A3/\A4/\A5/\A6:=⟨a0,a1,a2,a3,a4,a5,a6⟩
theorem kd {a b:Prop} (x:b) (h:a=b:=by kernel_rfl):a:=h.mpr x
def apA:List Ans->Ans->List Ans
 | [],x=>[x]
 | a::l,x=>a::apA l x
def yCG:List Alt->Nat->Alt
 | [],_=>⟨Unit,.normal,fun _=>[],fun _=>[],fun _ _=>False⟩
 | a::_,0=>a
 | _::l,k+1=>yCG l k
theorem yUN:∀ {l:List Alt} {k:Nat},Nat.blt k l.length=true->In (yCG l k) l
 | [],k,h=>by cases k <;> cases h
 | _::_,0,_=>in0
 | _::l,k+1,h=>inS (yUN (l:=l) (k:=k) h)
section
variable {P:Program} {R:Nat->Rec} {rd:Option Nat} {c:Code} {n:Nat} {l:List (Nat × Value)} {ms:List Nat} {alts:List Alt} {Z Z':St}
theorem kO (k:Nat) (t:(yCG alts k).T) (ys:List Ans) {C:Prop->Prop} (x:∀ F,F->C F) (nx:(yCG alts k).Q t Z') (hk:Nat.blt k alts.length=true:=by rfl)
  (h:∀ g:Nat->Value,Hid (wpE P R rd c (apA ys (.fin (yCG alts k) t)) ⟨Fm n (ov l g),ms⟩ Z (yBS n alts))=C (FIN alts (yCG alts k) t Z'):=by intro g;kernel_rfl):xK P R rd c n l ms alts Z :=
 zVQ _ fun g=>(h g).mpr (x _ (fin _ t nx (yUN hk)))
theorem sK {H:(Nat->Value)->List Ans->Prop} (ys:List Ans) {B:Prop} (x:B) (h:∀ g,H g ys=B:=by intro g;kernel_rfl):∀ g,∃ an,H g an:=fun g=>⟨ys,(h g).mpr x⟩
theorem sF {p:List Nat} {e:Exit} {fr:(Nat->Value)->Fr} (k:Nat) (t:(yCG alts k).T) (ys:List Ans) {C:Prop->Prop} (x:∀ F,F->C F) (nx:(yCG alts k).Q t Z') (hk:Nat.blt k alts.length=true:=by rfl)
  (h:∀ g:Nat->Value,Hid (kAt P R rd c p (yBS n alts) e (fr g) Z (apA ys (.fin (yCG alts k) t)))=C (FIN alts (yCG alts k) t Z'):=by intro g;kernel_rfl):∀ g:Nat->Value,∃ an,Hid (kAt P R rd c p (yBS n alts) e (fr g) Z an) :=
 fun g=>⟨_,(h g).mpr (x _ (fin _ t nx (yUN hk)))⟩
end
theorem kz {P:St->Prop} {K:St->(Nat->Value)->Prop} (k:∀ Z,P Z->∀ g,K Z g):∀ (g:Nat->Value) (Z:St),P Z->K Z g:=fun g Z h=>k Z h g
theorem kz0 {P:St->Prop} {K:St->(Nat->Value)->Prop} (k:∀ Z,P Z->∀ g,K Z g):∀ (t:Unit) (g:Nat->Value) (Z:St),P Z->K Z g:=fun t g Z h=>k Z h g
theorem kz1 {T0:Type} {P:T0->St->Prop} {K:T0->St->(Nat->Value)->Prop} (k:∀ a0 Z,P a0 Z->∀ g,K a0 Z g):∀ (t:T0) (g:Nat->Value) (Z:St),P t Z->K t Z g:=fun t g Z h=>k t Z h g
theorem kz2 {T0 T1:Type} {P:T0->T1->St->Prop} {K:T0->T1->St->(Nat->Value)->Prop} (k:∀ a0 a1 Z,P a0 a1 Z->∀ g,K a0 a1 Z g):∀ (t:T0 × T1) (g:Nat->Value) (Z:St),P t.1 t.2 Z->K t.1 t.2 Z g:=fun t g Z h=>k t.1 t.2 Z h g
theorem kz3 {T0 T1 T2:Type} {P:T0->T1->T2->St->Prop} {K:T0->T1->T2->St->(Nat->Value)->Prop} (k:∀ a0 a1 a2 Z,P a0 a1 a2 Z->∀ g,K a0 a1 a2 Z g):∀ (t:T0 × T1 × T2) (g:Nat->Value) (Z:St),P t.1 t.2.1 t.2.2 Z->K t.1 t.2.1 t.2.2 Z g:=fun t g Z h=>k t.1 t.2.1 t.2.2 Z h g
theorem kz4 {T0 T1 T2 T3:Type} {P:T0->T1->T2->T3->St->Prop} {K:T0->T1->T2->T3->St->(Nat->Value)->Prop} (k:∀ a0 a1 a2 a3 Z,P a0 a1 a2 a3 Z->∀ g,K a0 a1 a2 a3 Z g):∀ (t:T0 × T1 × T2 × T3) (g:Nat->Value) (Z:St),P t.1 t.2.1 t.2.2.1 t.2.2.2 Z->K t.1 t.2.1 t.2.2.1 t.2.2.2 Z g:=fun t g Z h=>k t.1 t.2.1 t.2.2.1 t.2.2.2 Z h g
theorem kz7 {T0 T1 T2 T3 T4 T5 T6:Type} {P:T0->T1->T2->T3->T4->T5->T6->St->Prop} {K:T0->T1->T2->T3->T4->T5->T6->St->(Nat->Value)->Prop} (k:∀ a0 a1 a2 a3 a4 a5 a6 Z,P a0 a1 a2 a3 a4 a5 a6 Z->∀ g,K a0 a1 a2 a3 a4 a5 a6 Z g):∀ (t:T0 × T1 × T2 × T3 × T4 × T5 × T6) (g:Nat->Value) (Z:St),P t.1 t.2.1 t.2.2.1 t.2.2.2.1 t.2.2.2.2.1 t.2.2.2.2.2.1 t.2.2.2.2.2.2 Z->K t.1 t.2.1 t.2.2.1 t.2.2.2.1 t.2.2.2.2.1 t.2.2.2.2.2.1 t.2.2.2.2.2.2 Z g:=fun t g Z h=>k t.1 t.2.1 t.2.2.1 t.2.2.2.1 t.2.2.2.2.1 t.2.2.2.2.2.1 t.2.2.2.2.2.2 Z h g
abbrev NX1 {T0:Type} (Inv:Nat->T0->St->Prop) (k:Nat):T0->St->Prop:=fun a0 Z=>∃ k',k' < k/\Inv k' a0 Z
theorem uH {P:Program} {R:Nat->Rec} {rd:Option Nat} {c:Code} {n:Nat} {alts:List Alt} {T0:Type} {lf:T0->List (Nat × Value)} {mf:T0->List Nat} {Inv:Nat->T0->St->Prop} (hne:zUS alts) (hb:∀ k a0 Z,Inv k a0 Z->xK P R rd c n (lf a0) (mf a0) (⟨T0,.normal,fun t=>lf t,fun t=>mf t,fun t Z=>NX1 Inv k t Z⟩::alts) Z):∀ k a0 Z,Inv k a0 Z->xO P R rd c n (lf a0) (mf a0) alts Z :=
 fun k a0 Z h=>zGU (T:=T0) (lf:=fun t=>lf t) (mf:=fun t=>mf t) (Inv:=fun k t Z=>Inv k t Z) hne (fun k t Z h=>hb k t Z h) k a0 Z h
abbrev NX2 {T0 T1:Type} (Inv:Nat->T0->T1->St->Prop) (k:Nat):T0->T1->St->Prop:=fun a0 a1 Z=>∃ k',k' < k/\Inv k' a0 a1 Z
theorem zXS {P:Program} {R:Nat->Rec} {rd:Option Nat} {c:Code} {n:Nat} {alts:List Alt} {T0 T1:Type} {lf:T0->T1->List (Nat × Value)} {mf:T0->T1->List Nat} {Inv:Nat->T0->T1->St->Prop} (hne:zUS alts) (hb:∀ k a0 a1 Z,Inv k a0 a1 Z->xK P R rd c n (lf a0 a1) (mf a0 a1) (⟨T0 × T1,.normal,fun t=>lf t.1 t.2,fun t=>mf t.1 t.2,fun t Z=>NX2 Inv k t.1 t.2 Z⟩::alts) Z):∀ k a0 a1 Z,Inv k a0 a1 Z->xO P R rd c n (lf a0 a1) (mf a0 a1) alts Z :=
 fun k a0 a1 Z h=>zGU (T:=T0 × T1) (lf:=fun t=>lf t.1 t.2) (mf:=fun t=>mf t.1 t.2) (Inv:=fun k t Z=>Inv k t.1 t.2 Z) hne (fun k t Z h=>hb k t.1 t.2 Z h) k (a0,a1) Z h
abbrev NX3 {T0 T1 T2:Type} (Inv:Nat->T0->T1->T2->St->Prop) (k:Nat):T0->T1->T2->St->Prop:=fun a0 a1 a2 Z=>∃ k',k' < k/\Inv k' a0 a1 a2 Z
theorem xUG {P:Program} {R:Nat->Rec} {rd:Option Nat} {c:Code} {n:Nat} {alts:List Alt} {T0 T1 T2:Type} {lf:T0->T1->T2->List (Nat × Value)} {mf:T0->T1->T2->List Nat} {Inv:Nat->T0->T1->T2->St->Prop} (hne:zUS alts) (hb:∀ k a0 a1 a2 Z,Inv k a0 a1 a2 Z->xK P R rd c n (lf a0 a1 a2) (mf a0 a1 a2) (⟨T0 × T1 × T2,.normal,fun t=>lf t.1 t.2.1 t.2.2,fun t=>mf t.1 t.2.1 t.2.2,fun t Z=>NX3 Inv k t.1 t.2.1 t.2.2 Z⟩::alts) Z):∀ k a0 a1 a2 Z,Inv k a0 a1 a2 Z->xO P R rd c n (lf a0 a1 a2) (mf a0 a1 a2) alts Z :=
 fun k a0 a1 a2 Z h=>zGU (T:=T0 × T1 × T2) (lf:=fun t=>lf t.1 t.2.1 t.2.2) (mf:=fun t=>mf t.1 t.2.1 t.2.2) (Inv:=fun k t Z=>Inv k t.1 t.2.1 t.2.2 Z) hne (fun k t Z h=>hb k t.1 t.2.1 t.2.2 Z h) k (a0,a1,a2) Z h
abbrev NX4 {T0 T1 T2 T3:Type} (Inv:Nat->T0->T1->T2->T3->St->Prop) (k:Nat):T0->T1->T2->T3->St->Prop:=fun a0 a1 a2 a3 Z=>∃ k',k' < k/\Inv k' a0 a1 a2 a3 Z
theorem zAS {P:Program} {R:Nat->Rec} {rd:Option Nat} {c:Code} {n:Nat} {alts:List Alt} {T0 T1 T2 T3:Type} {lf:T0->T1->T2->T3->List (Nat × Value)} {mf:T0->T1->T2->T3->List Nat} {Inv:Nat->T0->T1->T2->T3->St->Prop} (hne:zUS alts) (hb:∀ k a0 a1 a2 a3 Z,Inv k a0 a1 a2 a3 Z->xK P R rd c n (lf a0 a1 a2 a3) (mf a0 a1 a2 a3) (⟨T0 × T1 × T2 × T3,.normal,fun t=>lf t.1 t.2.1 t.2.2.1 t.2.2.2,fun t=>mf t.1 t.2.1 t.2.2.1 t.2.2.2,fun t Z=>NX4 Inv k t.1 t.2.1 t.2.2.1 t.2.2.2 Z⟩::alts) Z):∀ k a0 a1 a2 a3 Z,Inv k a0 a1 a2 a3 Z->xO P R rd c n (lf a0 a1 a2 a3) (mf a0 a1 a2 a3) alts Z :=
 fun k a0 a1 a2 a3 Z h=>zGU (T:=T0 × T1 × T2 × T3) (lf:=fun t=>lf t.1 t.2.1 t.2.2.1 t.2.2.2) (mf:=fun t=>mf t.1 t.2.1 t.2.2.1 t.2.2.2) (Inv:=fun k t Z=>Inv k t.1 t.2.1 t.2.2.1 t.2.2.2 Z) hne (fun k t Z h=>hb k t.1 t.2.1 t.2.2.1 t.2.2.2 Z h) k (a0,a1,a2,a3) Z h
abbrev NX7 {T0 T1 T2 T3 T4 T5 T6:Type} (Inv:Nat->T0->T1->T2->T3->T4->T5->T6->St->Prop) (k:Nat):T0->T1->T2->T3->T4->T5->T6->St->Prop:=fun a0 a1 a2 a3 a4 a5 a6 Z=>∃ k',k' < k/\Inv k' a0 a1 a2 a3 a4 a5 a6 Z
theorem xUF {P:Program} {R:Nat->Rec} {rd:Option Nat} {c:Code} {n:Nat} {alts:List Alt} {T0 T1 T2 T3 T4 T5 T6:Type} {lf:T0->T1->T2->T3->T4->T5->T6->List (Nat × Value)} {mf:T0->T1->T2->T3->T4->T5->T6->List Nat} {Inv:Nat->T0->T1->T2->T3->T4->T5->T6->St->Prop} (hne:zUS alts) (hb:∀ k a0 a1 a2 a3 a4 a5 a6 Z,Inv k a0 a1 a2 a3 a4 a5 a6 Z->xK P R rd c n (lf a0 a1 a2 a3 a4 a5 a6) (mf a0 a1 a2 a3 a4 a5 a6) (⟨T0 × T1 × T2 × T3 × T4 × T5 × T6,.normal,fun t=>lf t.1 t.2.1 t.2.2.1 t.2.2.2.1 t.2.2.2.2.1 t.2.2.2.2.2.1 t.2.2.2.2.2.2,fun t=>mf t.1 t.2.1 t.2.2.1 t.2.2.2.1 t.2.2.2.2.1 t.2.2.2.2.2.1 t.2.2.2.2.2.2,fun t Z=>NX7 Inv k t.1 t.2.1 t.2.2.1 t.2.2.2.1 t.2.2.2.2.1 t.2.2.2.2.2.1 t.2.2.2.2.2.2 Z⟩::alts) Z):∀ k a0 a1 a2 a3 a4 a5 a6 Z,Inv k a0 a1 a2 a3 a4 a5 a6 Z->xO P R rd c n (lf a0 a1 a2 a3 a4 a5 a6) (mf a0 a1 a2 a3 a4 a5 a6) alts Z :=
 fun k a0 a1 a2 a3 a4 a5 a6 Z h=>zGU (T:=T0 × T1 × T2 × T3 × T4 × T5 × T6) (lf:=fun t=>lf t.1 t.2.1 t.2.2.1 t.2.2.2.1 t.2.2.2.2.1 t.2.2.2.2.2.1 t.2.2.2.2.2.2) (mf:=fun t=>mf t.1 t.2.1 t.2.2.1 t.2.2.2.1 t.2.2.2.2.1 t.2.2.2.2.2.1 t.2.2.2.2.2.2) (Inv:=fun k t Z=>Inv k t.1 t.2.1 t.2.2.1 t.2.2.2.1 t.2.2.2.2.1 t.2.2.2.2.2.1 t.2.2.2.2.2.2 Z) hne (fun k t Z h=>hb k t.1 t.2.1 t.2.2.1 t.2.2.2.1 t.2.2.2.2.1 t.2.2.2.2.2.1 t.2.2.2.2.2.2 Z h) k (a0,a1,a2,a3,a4,a5,a6) Z h
theorem zT:vE Pg 3=some false:=krf
theorem zPA:yU Pg 3=some 1:=krf
theorem xVL:vE Pg 4=some false:=krf
theorem xHJ:yU Pg 4=some 1:=krf
theorem zGD:vE Pg 5=some false:=krf
theorem yXP:yU Pg 5=some 1:=krf
theorem vQ:vE Pg 22=some false:=krf
theorem zHC:vE Pg 24=some true:=krf
theorem zCH:yU Pg 24=some 5:=krf
theorem yQF:vE Pg 35=some true:=krf
theorem zWG:yU Pg 35=some 4:=krf
theorem xAA:vE Pg 37=some true:=krf
theorem zEQ:yU Pg 37=some 7:=krf
theorem xXC:vE Pg 40=some true:=krf
theorem xTL:yU Pg 40=some 6:=krf
theorem xXB:vE Pg 42=some false:=krf
theorem xHI:yU Pg 42=some 1:=krf
theorem yGP:vE Pg 45=some true:=krf
theorem zMZ:yU Pg 45=some 5:=krf
theorem yGO:vE Pg 49=some false:=krf
theorem yHN:yU Pg 49=some 1:=krf
theorem zIZ:vE Pg 52=some false:=krf
theorem zWF:yU Pg 52=some 1:=krf
theorem xNI:vE Pg 56=some false:=krf
theorem ySA:yU Pg 56=some 1:=krf
theorem yZZ:vE Pg 60=some true:=krf
theorem zHP:yU Pg 60=some 5:=krf
theorem uM:vE Pg 64=some true:=krf
theorem yP:yU Pg 64=some 6:=krf
theorem xNH:vE Pg 66=some false:=krf
theorem xHH:yU Pg 66=some 1:=krf
theorem xNG:vE Pg 68=some false:=krf
theorem xTK:yU Pg 68=some 1:=krf
theorem xNF:vE Pg 70=some true:=krf
theorem zWE:yU Pg 70=some 11:=krf
theorem yQE:vE Pg 75=some true:=krf
theorem zJK:yU Pg 75=some 4:=krf
theorem yZY:vE Pg 78=some true:=krf
theorem zJJ:yU Pg 78=some 7:=krf
theorem xTB:vE Pg 95=some true:=krf
theorem zMY:yU Pg 95=some 13:=krf
theorem xNL:vE Pg 102=some false:=krf
theorem xOZ:yU Pg 102=some 1:=krf
theorem xVN:vE Pg 104=some false:=krf
theorem xNK:vE Pg 108=some true:=krf
theorem yHO:yU Pg 108=some 2:=krf
theorem xNJ:vE Pg 112=some false:=krf
theorem yAT:vE Pg 114=some false:=krf
theorem zLJ:yU Pg 119=some 0:=krf
theorem xVM:vE Pg 129=some true:=krf
theorem yXQ:yU Pg 129=some 6:=krf
theorem yWD:vE Pg 138=some true:=krf
theorem zPB:yU Pg 138=some 2:=krf
theorem ai {a b:Prop} (h:a) (k:b):a/\b:=And.intro h k
abbrev iV (n:Int):Value:=.int .i64 n
abbrev I6a (n:Int):Prop:=-9223372036854775808<=n/\n<=9223372036854775807
abbrev zLq (s:St) (t:Nat) (a:Addr) (v:Value):Prop:=(a.block<s.y/\yB RD v=true)/\zH Pg s t a=some v
abbrev oA:=Option Addr
abbrev lNa:=List (Nat × Value)
abbrev vPa:=Value->St->Prop
abbrev lVa:=List Value
def kZ (R:Nat->Rec) (c:Code) (p:List Nat) (K:Exit->Fr->St->List Ans->Prop) (e:Exit) (n:Nat) (l:List (Nat × Value)) (Z:St):Prop:=∀ g:Nat->Value,∃ an,Hid (kAt Pg R none c p K e ⟨Fm n (ov l g),[]⟩ Z an)
abbrev dc (b o:Nat):Addr:=⟨b,o,none⟩
abbrev pv (a:Addr):Value:=.pointer (some a)
abbrev pq (b o:Nat):Value:=.pointer (some ⟨b,o,none⟩)
abbrev de (l:List Value):Value:=.agg ⟨l⟩
abbrev dg (s:St) (t:Nat) (a:Addr) (v:Value):Prop:=zH Pg s t a=some v
noncomputable abbrev dq:=@zL Pg
noncomputable abbrev dh:=@zJ Pg
noncomputable abbrev di:=@zN Pg
noncomputable abbrev dj:=@zR Pg
noncomputable abbrev dl:=@zW Pg
noncomputable abbrev dm:=@kFn Pg
section
noncomputable section
variable (s l:oA) (s_l l_l s_c l_c:Nat) (f:FuncId) (aD:oA) (q2:(Option Addr)->Nat->Nat->Int->St->Prop) (q3:(Option Addr)->Nat->Nat->St->Prop) (f_c:lVa) (aA aC:Nat) (q1:St->Prop) (aj ao:Int) (q0:Int->St->Prop) (Z:St) (Nx Qr:Int->St->Prop) (q5:(Option Addr)->Nat->Nat->Int->St->Prop) (Q:vPa) (Q0:St->Prop) (q6:(Option Addr)->Nat->Nat->St->Prop)
def yZH:Code:=(Code.part [1,0,1,0,0] (dj 99))
def zPX:lNa:=[(0,.slice s s_l s_c),(1,.func (.func f) ⟨[]⟩ ⟨f_c⟩),(7,iV (s_l:Int)),(8,iV aj)]
def xKN:Alt:=⟨Int,.normal,fun t=>zPX s s_l s_c f f_c t,fun t=>[],fun t Z=>q0 t Z⟩
def yEZ (s:oA) (s_l s_c:Nat) (f:FuncId) (f_c:lVa) (ao:Int):lNa:=[(4,iV ao)]
def zSR:Alt:=⟨Int,.ret,fun t=>yEZ s s_l s_c f f_c t,fun t=>[],fun t Z=>q0 t Z⟩
def yFA (s:oA) (s_l s_c:Nat) (f:FuncId) (f_c:lVa):lNa:=[]
def zSS:Alt:=⟨Unit,(.exit 0),fun t=>yFA s s_l s_c f f_c,fun t=>[],fun t Z=>q1 Z⟩
def zVO:Prop:=xK Pg dl none yZH 19 (zPX s s_l s_c f f_c aj) [] [xKN s s_l s_c f f_c Nx,zSR s s_l s_c f f_c Qr,zSS s s_l s_c f f_c Q0] Z
def yZI:Prop:=xO Pg dl none yZH 19 (zPX s s_l s_c f f_c aj) [] [zSR s s_l s_c f f_c Qr,zSS s s_l s_c f f_c Q0] Z
def yFB:Prop:=kZ dl (dj 99) [1,0,1,0] (dm 99 Q) .ret 19 (yEZ s s_l s_c f f_c ao) Z
def yFC:Prop:=kZ dl (dj 99) [1,0,1,0] (dm 99 Q) (.exit 0) 19 (yFA s s_l s_c f f_c) Z
def yZJ:Code:=(Code.part [1,0,1,0,0] (dj 98))
def zPY:lNa:=[(0,.slice s s_l s_c),(1,.func (.func f) ⟨[]⟩ ⟨f_c⟩),(7,iV (s_l:Int)),(8,iV aj)]
def xKR:Alt:=⟨Int,.normal,fun t=>zPY s s_l s_c f f_c t,fun t=>[],fun t Z=>q0 t Z⟩
def yFD (s:oA) (s_l s_c:Nat) (f:FuncId) (f_c:lVa) (ao:Int):lNa:=[(4,iV ao)]
def zST:Alt:=⟨Int,.ret,fun t=>yFD s s_l s_c f f_c t,fun t=>[],fun t Z=>q0 t Z⟩
def yFE (s:oA) (s_l s_c:Nat) (f:FuncId) (f_c:lVa):lNa:=[]
def zSU:Alt:=⟨Unit,(.exit 0),fun t=>yFE s s_l s_c f f_c,fun t=>[],fun t Z=>q1 Z⟩
def zVP:Prop:=xK Pg dl none yZJ 19 (zPY s s_l s_c f f_c aj) [] [xKR s s_l s_c f f_c Nx,zST s s_l s_c f f_c Qr,zSU s s_l s_c f f_c Q0] Z
def yZK:Prop:=xO Pg dl none yZJ 19 (zPY s s_l s_c f f_c aj) [] [zST s s_l s_c f f_c Qr,zSU s s_l s_c f f_c Q0] Z
def yFF:Prop:=kZ dl (dj 98) [1,0,1,0] (dm 98 Q) .ret 19 (yFD s s_l s_c f f_c ao) Z
def yFG:Prop:=kZ dl (dj 98) [1,0,1,0] (dm 98 Q) (.exit 0) 19 (yFE s s_l s_c f f_c) Z
def yBN:Code:=(Code.part [1,1,0,1,0,0] (dj 12))
def zFL:lNa:=[(0,.slice l l_l l_c),(3,.slice aD aA aC),(4,iV ao)]
def yRD:Alt:=⟨(Option Addr) × Nat × Nat × Int,.normal,fun t=>zFL l l_l l_c t.1 t.2.1 t.2.2.1 t.2.2.2,fun t=>[],fun t Z=>q2 t.1 t.2.1 t.2.2.1 t.2.2.2 Z⟩
def zQY (l:oA) (l_l l_c:Nat) (aD:oA) (aA aC:Nat):lNa:=[(3,.slice aD aA aC)]
def zIV:Alt:=⟨(Option Addr) × Nat × Nat,(.exit 0),fun t=>zQY l l_l l_c t.1 t.2.1 t.2.2,fun t=>[],fun t Z=>q3 t.1 t.2.1 t.2.2 Z⟩
def zOQ:Prop:=xK Pg dl none yBN 20 (zFL l l_l l_c aD aA aC ao) [] [yRD l l_l l_c q5,zIV l l_l l_c q6] Z
def yBO:Prop:=xO Pg dl none yBN 20 (zFL l l_l l_c aD aA aC ao) [] [zIV l l_l l_c q6] Z
def zQZ:Prop:=kZ dl (dj 12) [1,1,0,1,0] (dm 12 Q) (.exit 0) 20 (zQY l l_l l_c aD aA aC) Z
end
variable {n low high aa au ab af r_A r_B n8 n10 n11 n12 n13 n14 n15 n1 aZ bO bf bz x_A x_B aj nA nD nE nC nG nF ao nAB nM nP nQ nN nO:Int} {Z Z5 Z7 ZX:St} {Q:vPa} {b2 b16 b1:Bool} {q4 l s x qE lists aD qAB:oA} {l4 c4 l6 c6 l_l l_c s_l s_c x_l x_c lB cC bu bH aA aC lBB cAB:Nat} {q6_a v0 s_a l_a:Addr} {f9 right f f1:FuncId} {f9_c aS f_c bZ:lVa} {Inv:Nat->Int->St->Prop} {Qr Nx Pr:Int->St->Prop} {Q0 P0:St->Prop}
theorem xAN (nx:Q (.bool true) Z) (u1:low<=n:=by omega) (u2:n<=high:=by omega):dq 55 [iV n,iV low,iV high] Z Q :=
 zK [.g,.g,.g,.b true,.g,.g,.g,.b true,.g,.g] (kd (an2 (uW u1) (uW u2) nx))
theorem xAM (nx:Q (.bool false) Z) (u1:low<=n:=by omega) (u2:¬ n<=high:=by omega):dq 55 [iV n,iV low,iV high] Z Q :=
 zK [.g,.g,.g,.b true,.g,.g,.g,.b false,.g,.g] (kd (an2 (uW u1) (zDP u2) nx))
theorem yDC (nx:Q (.bool false) Z) (u1:¬ low<=n:=by omega):dq 55 [iV n,iV low,iV high] Z Q :=
 zK [.g,.g,.g,.b false,.g,.g,.g] (kd (ai (zDP u1) nx))
theorem xPB:let s1:=Z.row (rcd aa au ab af r_A r_B) 6;∀ (h1:dh 55 [iV r_A,iV 0,iV 99] s1 (.bool true) s1) (h2:dh 55 [iV r_B,iV 0,iV 10000] s1 (.bool b2) s1) (nx:Q (.bool b2) s1),dq 85 [de (rcd aa au ab af r_A r_B)] Z Q:=
 let s1:=Z.row (rcd aa au ab af r_A r_B) 6;fun h1 h2 nx=>zK [.g,.g,.g,.l (iV r_A),.c (.bool true) s1,.g,.g,.l (iV r_B),.c (.bool b2) s1,.g,.g] (kd (an4 ((zI _ _ _).rw.ld zT (k:=4) rfl:dg s1 3 (dc Z.y 4) (iV r_A)) h1 ((zI _ _ _).rw.ld zT (k:=5) rfl:dg s1 3 (dc Z.y 5) (iV r_B)) h2 nx))
theorem xPA:let s1:=Z.row (rcd aa au ab af r_A r_B) 6;∀ (h1:dh 55 [iV r_A,iV 0,iV 99] s1 (.bool false) s1) (nx:Q (.bool false) s1),dq 85 [de (rcd aa au ab af r_A r_B)] Z Q:=
 let s1:=Z.row (rcd aa au ab af r_A r_B) 6;fun h1 nx=>zK [.g,.g,.g,.l (iV r_A),.c (.bool false) s1,.g,.g,.g] (kd (an2 ((zI _ _ _).rw.ld zT (k:=4) rfl:dg s1 3 (dc Z.y 4) (iV r_A)) h1 nx))
theorem xOT:let s1:=Z.row (rcd aa au ab af r_A r_B) 6;∀ (h1:dh 55 [iV r_A,iV 0,iV 1000000] s1 (.bool true) s1) (nx:Q (.bool true) s1) (u1:r_B=0:=by omega),dq 86 [de (rcd aa au ab af r_A r_B)] Z Q:=
 let s1:=Z.row (rcd aa au ab af r_A r_B) 6;fun h1 nx u1=>zK [.g,.g,.g,.l (iV r_A),.c (.bool true) s1,.g,.g,.l (iV r_B),.b true,.g,.g] (kd (an4 ((zI _ _ _).rw.ld zT (k:=4) rfl:dg s1 3 (dc Z.y 4) (iV r_A)) h1 ((zI _ _ _).rw.ld zT (k:=5) rfl:dg s1 3 (dc Z.y 5) (iV r_B)) (vT u1) nx))
theorem xOS:let s1:=Z.row (rcd aa au ab af r_A r_B) 6;∀ (h1:dh 55 [iV r_A,iV 0,iV 1000000] s1 (.bool true) s1) (nx:Q (.bool false) s1) (u1:¬ r_B=0:=by omega),dq 86 [de (rcd aa au ab af r_A r_B)] Z Q:=
 let s1:=Z.row (rcd aa au ab af r_A r_B) 6;fun h1 nx u1=>zK [.g,.g,.g,.l (iV r_A),.c (.bool true) s1,.g,.g,.l (iV r_B),.b false,.g,.g] (kd (an4 ((zI _ _ _).rw.ld zT (k:=4) rfl:dg s1 3 (dc Z.y 4) (iV r_A)) h1 ((zI _ _ _).rw.ld zT (k:=5) rfl:dg s1 3 (dc Z.y 5) (iV r_B)) (vD u1) nx))
theorem xOR:let s1:=Z.row (rcd aa au ab af r_A r_B) 6;∀ (h1:dh 55 [iV r_A,iV 0,iV 1000000] s1 (.bool false) s1) (nx:Q (.bool false) s1),dq 86 [de (rcd aa au ab af r_A r_B)] Z Q:=
 let s1:=Z.row (rcd aa au ab af r_A r_B) 6;fun h1 nx=>zK [.g,.g,.g,.l (iV r_A),.c (.bool false) s1,.g,.g,.g] (kd (an2 ((zI _ _ _).rw.ld zT (k:=4) rfl:dg s1 3 (dc Z.y 4) (iV r_A)) h1 nx))
theorem xEE:let s1:=Z.row (rcd aa au ab af r_A r_B) 6;∀ (h1:dh 55 [iV r_A,iV 0,iV 9999] s1 (.bool true) s1) (h2:dh 55 [iV r_B,iV 0,iV 10000000] s1 (.bool b2) s1) (nx:Q (.bool b2) s1),dq 87 [de (rcd aa au ab af r_A r_B)] Z Q:=
 let s1:=Z.row (rcd aa au ab af r_A r_B) 6;fun h1 h2 nx=>zK [.g,.g,.g,.l (iV r_A),.c (.bool true) s1,.g,.g,.l (iV r_B),.c (.bool b2) s1,.g,.g] (kd (an4 ((zI _ _ _).rw.ld zT (k:=4) rfl:dg s1 3 (dc Z.y 4) (iV r_A)) h1 ((zI _ _ _).rw.ld zT (k:=5) rfl:dg s1 3 (dc Z.y 5) (iV r_B)) h2 nx))
theorem xED:let s1:=Z.row (rcd aa au ab af r_A r_B) 6;∀ (h1:dh 55 [iV r_A,iV 0,iV 9999] s1 (.bool false) s1) (nx:Q (.bool false) s1),dq 87 [de (rcd aa au ab af r_A r_B)] Z Q:=
 let s1:=Z.row (rcd aa au ab af r_A r_B) 6;fun h1 nx=>zK [.g,.g,.g,.l (iV r_A),.c (.bool false) s1,.g,.g,.g] (kd (an2 ((zI _ _ _).rw.ld zT (k:=4) rfl:dg s1 3 (dc Z.y 4) (iV r_A)) h1 nx))
theorem xKB (nx:Q (.slice (some (dc Z.y 0)) 3 3) (Z.row [.func (.func 85) ⟨[]⟩ ⟨[]⟩,.func (.func 86) ⟨[]⟩ ⟨[]⟩,.func (.func 87) ⟨[]⟩ ⟨[]⟩] 1)):dq 56 [] Z Q :=
 zK [.g,.g,.g,.g,.g,.g] (kd nx)
theorem xGP:let s1:=Z.row (rcd aa au ab af r_A r_B) 6;∀ (h1:dh 55 [iV aa,iV 0,iV 999] s1 (.bool true) s1) (h2:dh 55 [iV au,iV 1,iV 9999] s1 (.bool true) s1) (h3:dh 55 [iV ab,iV 0,iV 1000000] s1 (.bool true) s1) (h4:dh 56 [] s1 (.slice q4 l4 c4) Z5) (h5:dh 56 [] Z5 (.slice (some q6_a) l6 c6) Z7) (h6:dg Z7 5 (dc Z.y 3) (.int .u8 n8)) (h7:dg Z7 114 (zS q6_a ((Int.toNat n8*1)+0)) (.func (.func f9) ⟨[]⟩ ⟨f9_c⟩)) (h8:dg Z7 64 (dc Z.y 0) (de (rcd n10 n11 n12 n13 n14 n15))) (h9:dh f9 (de (rcd n10 n11 n12 n13 n14 n15)::f9_c) Z7 (.bool b16) Z7) (h10:zX Z5.y [.slice q4 l4 c4]) (h11:zX Z7.y [pq Z.y 3]) (h12:zX Z7.y [pv (zS q6_a ((Int.toNat n8*1)+0))]) (h13:zX Z7.y [pq Z.y 0]) (h14:zX Z7.y [.func (.func f9) ⟨[]⟩ ⟨f9_c⟩,de (rcd n10 n11 n12 n13 n14 n15)]) (h15:(zLq Z5 5 (dc Z.y 3) (.int .u8 af))) (h16:((zX s1.y [.int .u8 af]/\yB RD (iV af)=true)/\xJ Pg (evL [.int .u8 af]) s1 (.convert 5 3 (.tmp 0))=some (iV af))) (h17:((zX Z5.y [.int .u8 af]/\yB RD (iV af)=true)/\xJ Pg (evL [.int .u8 af]) Z5 (.convert 5 3 (.tmp 0))=some (iV af))) (h18:(zLq Z5 5 (dc Z.y 3) (.int .u8 n8))) (h19:(zLq Z7 5 (dc Z.y 3) (.int .u8 n8))) (h20:(zLq Z5 64 (dc Z.y 0) (de (rcd n10 n11 n12 n13 n14 n15)))) (h21:(zLq Z7 64 (dc Z.y 0) (de (rcd n10 n11 n12 n13 n14 n15)))) (nx:Q (.bool b16) Z7) (u1:I6 af:=by omega) (u2:af<(l4:Int):=by omega) (u3:Ix n8 l6:=by omega),dq 45 [de (rcd aa au ab af r_A r_B)] Z Q:=
 let s1:=Z.row (rcd aa au ab af r_A r_B) 6;fun h1 h2 h3 h4 h5 h6 h7 h8 h9 h10 h11 h12 h13 h14 h15 h16 h17 h18 h19 h20 h21 nx u1 u2 u3=>zK [.g,.g,.g,.l (iV aa),.c (.bool true) s1,.g,.g,.l (iV au),.c (.bool true) s1,.g,.g,.g,.l (iV ab),.c (.bool true) s1,.g,.g,.g,.l (.int .u8 af),.n af,.c (.slice q4 l4 c4) Z5,.g,.b true,.g,.g,.c (.slice (some q6_a) l6 c6) Z7,.g,.l (.int .u8 n8),.i,.g,.l (.func (.func f9) ⟨[]⟩ ⟨f9_c⟩),.l (de (rcd n10 n11 n12 n13 n14 n15)),.c (.bool b16) Z7,.g,.g] (kd (an3 ((zI _ _ _).rw.ld zT (k:=0) rfl:dg s1 3 (dc Z.y 0) (iV aa)) h1 ((zI _ _ _).rw.ld zT (k:=1) rfl:dg s1 3 (dc Z.y 1) (iV au)) (an6 h2 ((zI _ _ _).rw.ld zT (k:=2) rfl:dg s1 3 (dc Z.y 2) (iV ab)) h3 ((zI _ _ _).rw.ld zGD (k:=3) rfl:dg s1 5 (dc Z.y 3) (.int .u8 af)) (w64 u1) h4 (an6 (zU u2) h5 h6 u3 h7 h8 (an6 h9 ((zM (zV (nlt Z.y 0 1 rfl)) zO):zX s1.y [pq Z.y 0]) ((zM (zV (nlt Z.y 0 1 rfl)) zO):zX s1.y [pq Z.y 1]) ((zM (zV (nlt Z.y 0 1 rfl)) zO):zX s1.y [pq Z.y 2]) ((zM (zV (nlt Z.y 0 1 rfl)) zO):zX s1.y [pq Z.y 3]) h10 (an6 h11 h12 h13 h14 (⟨⟨(nlt Z.y 0 1 rfl),rfl⟩,((zI _ _ _).rw.ld zGD (k:=3) rfl)⟩:(zLq s1 5 (dc Z.y 3) (.int .u8 af))) h15 (an6 h16 h17 h18 h19 h20 h21 nx)))))))
theorem xGO:let s1:=Z.row (rcd aa au ab af r_A r_B) 6;∀ (h1:dh 55 [iV aa,iV 0,iV 999] s1 (.bool true) s1) (h2:dh 55 [iV au,iV 1,iV 9999] s1 (.bool true) s1) (h3:dh 55 [iV ab,iV 0,iV 1000000] s1 (.bool true) s1) (h4:dh 56 [] s1 (.slice q4 l4 c4) Z5) (h5:zX Z5.y [.slice q4 l4 c4]) (h6:(zLq Z5 5 (dc Z.y 3) (.int .u8 af))) (h7:((zX s1.y [.int .u8 af]/\yB RD (iV af)=true)/\xJ Pg (evL [.int .u8 af]) s1 (.convert 5 3 (.tmp 0))=some (iV af))) (h8:((zX Z5.y [.int .u8 af]/\yB RD (iV af)=true)/\xJ Pg (evL [.int .u8 af]) Z5 (.convert 5 3 (.tmp 0))=some (iV af))) (nx:Q (.bool false) Z5) (u1:I6 af:=by omega) (u2:¬ af<(l4:Int):=by omega),dq 45 [de (rcd aa au ab af r_A r_B)] Z Q:=
 let s1:=Z.row (rcd aa au ab af r_A r_B) 6;fun h1 h2 h3 h4 h5 h6 h7 h8 nx u1 u2=>zK [.g,.g,.g,.l (iV aa),.c (.bool true) s1,.g,.g,.l (iV au),.c (.bool true) s1,.g,.g,.g,.l (iV ab),.c (.bool true) s1,.g,.g,.g,.l (.int .u8 af),.n af,.c (.slice q4 l4 c4) Z5,.g,.b false,.g,.g,.g,.g] (kd (ai ((zI _ _ _).rw.ld zT (k:=0) rfl:dg s1 3 (dc Z.y 0) (iV aa)) (an6 h1 ((zI _ _ _).rw.ld zT (k:=1) rfl:dg s1 3 (dc Z.y 1) (iV au)) h2 ((zI _ _ _).rw.ld zT (k:=2) rfl:dg s1 3 (dc Z.y 2) (iV ab)) h3 ((zI _ _ _).rw.ld zGD (k:=3) rfl:dg s1 5 (dc Z.y 3) (.int .u8 af)) (an6 (w64 u1) h4 (zY u2) ((zM (zV (nlt Z.y 0 1 rfl)) zO):zX s1.y [pq Z.y 0]) ((zM (zV (nlt Z.y 0 1 rfl)) zO):zX s1.y [pq Z.y 1]) ((zM (zV (nlt Z.y 0 1 rfl)) zO):zX s1.y [pq Z.y 2]) (an6 ((zM (zV (nlt Z.y 0 1 rfl)) zO):zX s1.y [pq Z.y 3]) h5 (⟨⟨(nlt Z.y 0 1 rfl),rfl⟩,((zI _ _ _).rw.ld zGD (k:=3) rfl)⟩:(zLq s1 5 (dc Z.y 3) (.int .u8 af))) h6 h7 h8 nx)))))
theorem xGN:let s1:=Z.row (rcd aa au ab af r_A r_B) 6;∀ (h1:dh 55 [iV aa,iV 0,iV 999] s1 (.bool true) s1) (h2:dh 55 [iV au,iV 1,iV 9999] s1 (.bool true) s1) (h3:dh 55 [iV ab,iV 0,iV 1000000] s1 (.bool false) s1) (nx:Q (.bool false) s1),dq 45 [de (rcd aa au ab af r_A r_B)] Z Q:=
 let s1:=Z.row (rcd aa au ab af r_A r_B) 6;fun h1 h2 h3 nx=>zK [.g,.g,.g,.l (iV aa),.c (.bool true) s1,.g,.g,.l (iV au),.c (.bool true) s1,.g,.g,.g,.l (iV ab),.c (.bool false) s1,.g,.g,.g,.g,.g,.g] (kd (an3 ((zI _ _ _).rw.ld zT (k:=0) rfl:dg s1 3 (dc Z.y 0) (iV aa)) h1 ((zI _ _ _).rw.ld zT (k:=1) rfl:dg s1 3 (dc Z.y 1) (iV au)) (an6 h2 ((zI _ _ _).rw.ld zT (k:=2) rfl:dg s1 3 (dc Z.y 2) (iV ab)) h3 ((zM (zV (nlt Z.y 0 1 rfl)) zO):zX s1.y [pq Z.y 0]) ((zM (zV (nlt Z.y 0 1 rfl)) zO):zX s1.y [pq Z.y 1]) ((zM (zV (nlt Z.y 0 1 rfl)) zO):zX s1.y [pq Z.y 2]) nx)))
theorem xGM:let s1:=Z.row (rcd aa au ab af r_A r_B) 6;∀ (h1:dh 55 [iV aa,iV 0,iV 999] s1 (.bool true) s1) (h2:dh 55 [iV au,iV 1,iV 9999] s1 (.bool false) s1) (nx:Q (.bool false) s1),dq 45 [de (rcd aa au ab af r_A r_B)] Z Q:=
 let s1:=Z.row (rcd aa au ab af r_A r_B) 6;fun h1 h2 nx=>zK [.g,.g,.g,.l (iV aa),.c (.bool true) s1,.g,.g,.l (iV au),.c (.bool false) s1,.g,.g,.g,.g,.g,.g,.g,.g] (kd (an6 ((zI _ _ _).rw.ld zT (k:=0) rfl:dg s1 3 (dc Z.y 0) (iV aa)) h1 ((zI _ _ _).rw.ld zT (k:=1) rfl:dg s1 3 (dc Z.y 1) (iV au)) h2 ((zM (zV (nlt Z.y 0 1 rfl)) zO):zX s1.y [pq Z.y 0]) ((zM (zV (nlt Z.y 0 1 rfl)) zO):zX s1.y [pq Z.y 1]) nx))
theorem xGL:let s1:=Z.row (rcd aa au ab af r_A r_B) 6;∀ (h1:dh 55 [iV aa,iV 0,iV 999] s1 (.bool false) s1) (nx:Q (.bool false) s1),dq 45 [de (rcd aa au ab af r_A r_B)] Z Q:=
 let s1:=Z.row (rcd aa au ab af r_A r_B) 6;fun h1 nx=>zK [.g,.g,.g,.l (iV aa),.c (.bool false) s1,.g,.g,.g,.g,.g,.g,.g,.g,.g] (kd (an3 ((zI _ _ _).rw.ld zT (k:=0) rfl:dg s1 3 (dc Z.y 0) (iV aa)) h1 ((zM (zV (nlt Z.y 0 1 rfl)) zO):zX s1.y [pq Z.y 0]) nx))
theorem xAV:let y0:=rcd aa au ab af r_A r_B;∀ (nx:Q (de y0) (((Z.row y0 6).row (rcd 0 0 0 0 0 0) 6).own (Z.y+1) y0 6)),dq 25 [de y0] Z Q :=
 let s1:=Z.row (rcd aa au ab af r_A r_B) 6;let s2:=s1.row (rcd 0 0 0 0 0 0) 6;let s3:=s2.own (Z.y+1) (rcd aa au ab af r_A r_B) 6;let y0:=rcd aa au ab af r_A r_B;fun nx=>zK [.g,.g,.g,.l (iV aa),.g,.l (iV au),.g,.l (iV ab),.g,.l (.int .u8 af),.g,.l (iV r_A),.g,.l (iV r_B),.g,.e undef s3,.l (de y0)] (kd (an2 ((zI _ _ _).row.rw.ld zT (k:=0) rfl:dg s2 3 (dc Z.y 0) (iV aa)) ((zI _ _ _).row.rw.ld zT (k:=1) rfl:dg s2 3 (dc Z.y 1) (iV au)) (an6 ((zI _ _ _).row.rw.ld zT (k:=2) rfl:dg s2 3 (dc Z.y 2) (iV ab)) ((zI _ _ _).row.rw.ld zGD (k:=3) rfl:dg s2 5 (dc Z.y 3) (.int .u8 af)) ((zI _ _ _).row.rw.ld zT (k:=4) rfl:dg s2 3 (dc Z.y 4) (iV r_A)) ((zI _ _ _).row.rw.ld zT (k:=5) rfl:dg s2 3 (dc Z.y 5) (iV r_B)) ((zI _ _ _).store (vs:=y0) rfl yP rfl (nle rfl) rfl:di (evL [pq ((Z.y+1)) 0,de y0]) s2 (.store 64 (.tmp 0) (.tmp 1))=some (undef,s3)) ((zI _ _ _).put.rw.ldN uM yP (k:=0) rfl rfl (nle rfl):dg s3 64 ⟨(Z.y+1),0,none⟩ (de y0)) nx)))
theorem xRZ:let Y1:=Z.row [.func (.func right) ⟨[]⟩ ⟨aS⟩] 1;∀ (h1:dh 78 [.slice l l_l l_c,.func (.func 79) ⟨[]⟩ ⟨[pq Z.y 0]⟩] Y1 (.bool true) Y1) (nx:Q (.bool false) Y1),dq 44 [.slice l l_l l_c,.func (.func right) ⟨[]⟩ ⟨aS⟩] Z Q:=
 fun h1 nx=>zK [.g,.g,.g,.g,.c (.bool true) (Z.row [.func (.func right) ⟨[]⟩ ⟨aS⟩] 1),.g,.g] (kd (ai h1 nx))
theorem xRY:let Y1:=Z.row [.func (.func right) ⟨[]⟩ ⟨aS⟩] 1;∀ (h1:dh 78 [.slice l l_l l_c,.func (.func 79) ⟨[]⟩ ⟨[pq Z.y 0]⟩] Y1 (.bool false) Y1) (nx:Q (.bool true) Y1),dq 44 [.slice l l_l l_c,.func (.func right) ⟨[]⟩ ⟨aS⟩] Z Q:=
 fun h1 nx=>zK [.g,.g,.g,.g,.c (.bool false) (Z.row [.func (.func right) ⟨[]⟩ ⟨aS⟩] 1),.g,.g] (kd (ai h1 nx))
theorem yPI (nx:Q (.bool true) Z) (u1:(l_l:Int)<=60:=by omega):dq 42 [.slice l l_l l_c] Z Q :=
 zK [.g,.g,.g,.b true,.g] (kd (ai (uW u1) nx))
theorem yPH (nx:Q (.bool false) Z) (u1:¬ (l_l:Int)<=60:=by omega):dq 42 [.slice l l_l l_c] Z Q :=
 zK [.g,.g,.g,.b false,.g] (kd (ai (zDP u1) nx))
theorem yPG (h1:dh 44 [.slice l l_l l_c,.func (.func 45) ⟨[]⟩ ⟨[]⟩] Z (.bool b1) Z) (nx:Q (.bool b1) Z):dq 43 [.slice l l_l l_c] Z Q :=
 zK [.g,.g,.c (.bool b1) Z,.g] (kd (ai h1 nx))
theorem xSC:let Y1:=Z.row [.func (.func right) ⟨[]⟩ ⟨aS⟩] 1;∀ (h1:dh 76 [.slice l l_l l_c,.func (.func 77) ⟨[]⟩ ⟨[pq Z.y 0]⟩] Y1 (.bool true) Y1) (nx:Q (.bool false) Y1),dq 41 [.slice l l_l l_c,.func (.func right) ⟨[]⟩ ⟨aS⟩] Z Q:=
 fun h1 nx=>zK [.g,.g,.g,.g,.c (.bool true) (Z.row [.func (.func right) ⟨[]⟩ ⟨aS⟩] 1),.g,.g] (kd (ai h1 nx))
theorem xSB:let Y1:=Z.row [.func (.func right) ⟨[]⟩ ⟨aS⟩] 1;∀ (h1:dh 76 [.slice l l_l l_c,.func (.func 77) ⟨[]⟩ ⟨[pq Z.y 0]⟩] Y1 (.bool false) Y1) (nx:Q (.bool true) Y1),dq 41 [.slice l l_l l_c,.func (.func right) ⟨[]⟩ ⟨aS⟩] Z Q:=
 fun h1 nx=>zK [.g,.g,.g,.g,.c (.bool false) (Z.row [.func (.func right) ⟨[]⟩ ⟨aS⟩] 1),.g,.g] (kd (ai h1 nx))
theorem xRB (h1:dh 99 [.slice s s_l s_c,.func (.func f) ⟨[]⟩ ⟨f_c⟩] Z (iV n1) Z) (nx:Q (.bool true) Z) (u1:0<=n1:=by omega):dq 78 [.slice s s_l s_c,.func (.func f) ⟨[]⟩ ⟨f_c⟩] Z Q :=
 zK [.g,.g,.g,.c (iV n1) Z,.b true,.g] (kd (an2 h1 (uW u1) nx))
theorem xRA (h1:dh 99 [.slice s s_l s_c,.func (.func f) ⟨[]⟩ ⟨f_c⟩] Z (iV n1) Z) (nx:Q (.bool false) Z) (u1:¬ 0<=n1:=by omega):dq 78 [.slice s s_l s_c,.func (.func f) ⟨[]⟩ ⟨f_c⟩] Z Q :=
 zK [.g,.g,.g,.c (iV n1) Z,.b false,.g] (kd (an2 h1 (zDP u1) nx))
theorem xMX:let s1:=Z.row (rcd aZ bO bf bz x_A x_B) 6;∀ (h1:dg s1 114 v0 (.func (.func f1) ⟨[]⟩ ⟨bZ⟩)) (h2:dh f1 (de (rcd aZ bO bf bz x_A x_B)::bZ) s1 (.bool true) s1) (nx:Q (.bool false) s1),dq 79 [de (rcd aZ bO bf bz x_A x_B),pv v0] Z Q:=
 let s1:=Z.row (rcd aZ bO bf bz x_A x_B) 6;fun h1 h2 nx=>zK [.g,.g,.l (.func (.func f1) ⟨[]⟩ ⟨bZ⟩),.l (de (rcd aZ bO bf bz x_A x_B)),.c (.bool true) s1,.g,.g] (kd (an3 h1 ((zI _ _ _).rw.ldN uM yP (k:=0) rfl rfl (nle rfl):dg s1 64 (dc Z.y 0) (de (rcd aZ bO bf bz x_A x_B))) h2 nx))
theorem xMW:let s1:=Z.row (rcd aZ bO bf bz x_A x_B) 6;∀ (h1:dg s1 114 v0 (.func (.func f1) ⟨[]⟩ ⟨bZ⟩)) (h2:dh f1 (de (rcd aZ bO bf bz x_A x_B)::bZ) s1 (.bool false) s1) (nx:Q (.bool true) s1),dq 79 [de (rcd aZ bO bf bz x_A x_B),pv v0] Z Q:=
 let s1:=Z.row (rcd aZ bO bf bz x_A x_B) 6;fun h1 h2 nx=>zK [.g,.g,.l (.func (.func f1) ⟨[]⟩ ⟨bZ⟩),.l (de (rcd aZ bO bf bz x_A x_B)),.c (.bool false) s1,.g,.g] (kd (an3 h1 ((zI _ _ _).rw.ldN uM yP (k:=0) rfl rfl (nle rfl):dg s1 64 (dc Z.y 0) (de (rcd aZ bO bf bz x_A x_B))) h2 nx))
theorem xRD (h1:dh 98 [.slice s s_l s_c,.func (.func f) ⟨[]⟩ ⟨f_c⟩] Z (iV n1) Z) (nx:Q (.bool true) Z) (u1:0<=n1:=by omega):dq 76 [.slice s s_l s_c,.func (.func f) ⟨[]⟩ ⟨f_c⟩] Z Q :=
 zK [.g,.g,.g,.c (iV n1) Z,.b true,.g] (kd (an2 h1 (uW u1) nx))
theorem xRC (h1:dh 98 [.slice s s_l s_c,.func (.func f) ⟨[]⟩ ⟨f_c⟩] Z (iV n1) Z) (nx:Q (.bool false) Z) (u1:¬ 0<=n1:=by omega):dq 76 [.slice s s_l s_c,.func (.func f) ⟨[]⟩ ⟨f_c⟩] Z Q :=
 zK [.g,.g,.g,.c (iV n1) Z,.b false,.g] (kd (an2 h1 (zDP u1) nx))
theorem xNA (h1:dg Z 112 v0 (.func (.func f1) ⟨[]⟩ ⟨bZ⟩)) (h2:dh f1 (.slice x x_l x_c::bZ) Z (.bool true) Z) (nx:Q (.bool false) Z):dq 77 [.slice x x_l x_c,pv v0] Z Q :=
 zK [.g,.l (.func (.func f1) ⟨[]⟩ ⟨bZ⟩),.g,.c (.bool true) Z,.g,.g] (kd (an2 h1 h2 nx))
theorem xMZ (h1:dg Z 112 v0 (.func (.func f1) ⟨[]⟩ ⟨bZ⟩)) (h2:dh f1 (.slice x x_l x_c::bZ) Z (.bool false) Z) (nx:Q (.bool true) Z):dq 77 [.slice x x_l x_c,pv v0] Z Q :=
 zK [.g,.l (.func (.func f1) ⟨[]⟩ ⟨bZ⟩),.g,.c (.bool false) Z,.g,.g] (kd (an2 h1 h2 nx))
theorem yUQ (hb:∀ k aj Z,Inv k aj Z->zVO s s_l s_c f f_c aj Z (NX1 Inv k) Qr Q0):∀ k aj Z,Inv k aj Z->yZI s s_l s_c f f_c aj Z Qr Q0 :=
 uH (ai zAW (ai (vN 0) trivial)) hb
theorem xKM (h1:dg Z 64 (zS s_a (Int.toNat aj*6)) (de (rcd nA nD nE nC nG nF))) (h2:dh f (de (rcd nA nD nE nC nG nF)::f_c) Z (.bool true) Z) (nx:Qr aj Z) (u1:aj<(s_l:Int):=by omega) (u2:Ix aj s_l:=by omega):zVO (some s_a) s_l s_c f f_c aj Z Nx Qr Q0 :=
 kO 1 aj [.b true,.g,.g,.g,.g,.g,.i,.l (de (rcd nA nD nE nC nG nF)),.c (.bool true) Z,.g,.g] (fun _ f=>an4 (zU u1) u2 h1 h2 f) nx
theorem xKL (h1:dg Z 64 (zS s_a (Int.toNat aj*6)) (de (rcd nA nD nE nC nG nF))) (h2:dh f (de (rcd nA nD nE nC nG nF)::f_c) Z (.bool false) Z) (nx:Nx (aj+1) Z) (u1:aj<(s_l:Int):=by omega) (u2:Ix aj s_l:=by omega) (u3:I6 (aj+1):=by omega):zVO (some s_a) s_l s_c f f_c aj Z Nx Qr Q0 :=
 kO 0 (aj+1) [.b true,.g,.g,.g,.g,.g,.i,.l (de (rcd nA nD nE nC nG nF)),.c (.bool false) Z,.n (aj+1),.g] (fun _ f=>an5 (zU u1) u2 h1 h2 (w64 u3) f) nx
theorem xKK (nx:Q0 Z) (u1:¬ aj<(s_l:Int):=by omega):zVO s s_l s_c f f_c aj Z Nx Qr Q0 :=
 kO 2 () [.b false] (fun _ f=>ai (zY u1) f) nx
theorem xQF (hL:yZI s s_l s_c f f_c 0 Z Pr P0) (kr:∀ i4_1' Z',Pr i4_1' Z'->yFB s s_l s_c f f_c i4_1' Z' Q) (k0:∀ Z',P0 Z'->yFC s s_l s_c f f_c Z' Q):dq 99 [.slice s s_l s_c,.func (.func f) ⟨[]⟩ ⟨f_c⟩] Z Q :=
 zK [.g,.g,.g,.g,.lf 19 (zPX s s_l s_c f f_c 0) [zSR s s_l s_c f f_c Pr,zSS s s_l s_c f f_c P0]] (kd (ai (ai tt (ai (arf (zPX s s_l s_c f f_c 0)) hL)) (ai (kz1 kr) (ai (kz0 k0) trivial))))
theorem yUO (nx:Q (iV ao) Z):yFB s s_l s_c f f_c ao Z Q :=
 sK [] nx
theorem yUP (nx:Q (iV (-1)) Z):yFC s s_l s_c f f_c Z Q :=
 sK [.g] nx
theorem yUT (hb:∀ k aj Z,Inv k aj Z->zVP s s_l s_c f f_c aj Z (NX1 Inv k) Qr Q0):∀ k aj Z,Inv k aj Z->yZK s s_l s_c f f_c aj Z Qr Q0 :=
 uH (ai zAW (ai (vN 0) trivial)) hb
theorem xKQ (h1:dg Z 52 (zS s_a (Int.toNat aj*1)) (.slice qE lB cC)) (h2:dh f (.slice qE lB cC::f_c) Z (.bool true) Z) (nx:Qr aj Z) (u1:aj<(s_l:Int):=by omega) (u2:Ix aj s_l:=by omega):zVP (some s_a) s_l s_c f f_c aj Z Nx Qr Q0 :=
 kO 1 aj [.b true,.g,.g,.g,.g,.g,.i,.l (.slice qE lB cC),.c (.bool true) Z,.g,.g] (fun _ f=>an4 (zU u1) u2 h1 h2 f) nx
theorem xKP (h1:dg Z 52 (zS s_a (Int.toNat aj*1)) (.slice qE lB cC)) (h2:dh f (.slice qE lB cC::f_c) Z (.bool false) Z) (nx:Nx (aj+1) Z) (u1:aj<(s_l:Int):=by omega) (u2:Ix aj s_l:=by omega) (u3:I6 (aj+1):=by omega):zVP (some s_a) s_l s_c f f_c aj Z Nx Qr Q0 :=
 kO 0 (aj+1) [.b true,.g,.g,.g,.g,.g,.i,.l (.slice qE lB cC),.c (.bool false) Z,.n (aj+1),.g] (fun _ f=>an5 (zU u1) u2 h1 h2 (w64 u3) f) nx
theorem xKO (nx:Q0 Z) (u1:¬ aj<(s_l:Int):=by omega):zVP s s_l s_c f f_c aj Z Nx Qr Q0 :=
 kO 2 () [.b false] (fun _ f=>ai (zY u1) f) nx
theorem xQG (hL:yZK s s_l s_c f f_c 0 Z Pr P0) (kr:∀ i4_1' Z',Pr i4_1' Z'->yFF s s_l s_c f f_c i4_1' Z' Q) (k0:∀ Z',P0 Z'->yFG s s_l s_c f f_c Z' Q):dq 98 [.slice s s_l s_c,.func (.func f) ⟨[]⟩ ⟨f_c⟩] Z Q :=
 zK [.g,.g,.g,.g,.lf 19 (zPY s s_l s_c f f_c 0) [zST s s_l s_c f f_c Pr,zSU s s_l s_c f f_c P0]] (kd (ai (ai tt (ai (arf (zPY s s_l s_c f f_c 0)) hL)) (ai (kz1 kr) (ai (kz0 k0) trivial))))
theorem yUR (nx:Q (iV ao) Z):yFF s s_l s_c f f_c ao Z Q :=
 sK [] nx
theorem yUS (nx:Q (iV (-1)) Z):yFG s s_l s_c f f_c Z Q :=
 sK [.g] nx
theorem yVT (nx:Q (iV 3) Z) (u1:6<(bu:Int):=by omega):dq 22 [.slice lists bu bH] Z Q :=
 zK [.g,.g,.g,.b true,.g,.g,.g,.g] (kd (ai (zU u1) nx))
theorem yVS (h1:dh 41 [.slice lists bu bH,.func (.func 42) ⟨[]⟩ ⟨[]⟩] Z (.bool true) Z) (h2:dh 41 [.slice lists bu bH,.func (.func 43) ⟨[]⟩ ⟨[]⟩] Z (.bool true) Z) (nx:Q (iV 0) Z) (u1:¬ 6<(bu:Int):=by omega):dq 22 [.slice lists bu bH] Z Q :=
 zK [.g,.g,.g,.b false,.g,.g,.c (.bool true) Z,.g,.g,.g,.g,.c (.bool true) Z,.g,.g,.g] (kd (an3 (zY u1) h1 h2 nx))
theorem yVR (h1:dh 41 [.slice lists bu bH,.func (.func 42) ⟨[]⟩ ⟨[]⟩] Z (.bool true) Z) (h2:dh 41 [.slice lists bu bH,.func (.func 43) ⟨[]⟩ ⟨[]⟩] Z (.bool false) Z) (nx:Q (iV 1) Z) (u1:¬ 6<(bu:Int):=by omega):dq 22 [.slice lists bu bH] Z Q :=
 zK [.g,.g,.g,.b false,.g,.g,.c (.bool true) Z,.g,.g,.g,.g,.c (.bool false) Z,.g,.g,.g] (kd (an3 (zY u1) h1 h2 nx))
theorem yVQ (h1:dh 41 [.slice lists bu bH,.func (.func 42) ⟨[]⟩ ⟨[]⟩] Z (.bool false) Z) (nx:Q (iV 3) Z) (u1:¬ 6<(bu:Int):=by omega):dq 22 [.slice lists bu bH] Z Q :=
 zK [.g,.g,.g,.b false,.g,.g,.c (.bool false) Z,.g,.g,.g,.g] (kd (an2 (zY u1) h1 nx))
theorem yDA {Inv:Nat->(Option Addr)->Nat->Nat->Int->St->Prop} {Q0:(Option Addr)->Nat->Nat->St->Prop} (hb:∀ k aD aA aC ao Z,Inv k aD aA aC ao Z->zOQ l l_l l_c aD aA aC ao Z (NX4 Inv k) Q0):∀ k aD aA aC ao Z,Inv k aD aA aC ao Z->yBO l l_l l_c aD aA aC ao Z Q0 :=
 zAS (ai (vN 0) trivial) hb
theorem yRC {Nx:(Option Addr)->Nat->Nat->Int->St->Prop} {Q0:(Option Addr)->Nat->Nat->St->Prop} (h1:dg Z 40 (zS l_a (Int.toNat ao*6)) (de (rcd nA nD nE nC nG nF))) (h2:dh 25 [de (rcd nA nD nE nC nG nF)] Z (de (rcd nAB nM nP nQ nN nO)) Z) (h3:yA Pg 52 52 (.slice aD aA aC) (.slice (some (dc Z.y 0)) 1 1) (Z.row (rcd nAB nM nP nQ nN nO) 6)=some (.slice qAB lBB cAB,ZX)) (nx:Nx qAB lBB cAB (ao+1) ZX) (u1:ao<(l_l:Int):=by omega) (u2:Ix ao l_l:=by omega) (u3:I6 (ao+1):=by omega):zOQ (some l_a) l_l l_c aD aA aC ao Z Nx Q0 :=
 kO 0 (qAB,lBB,cAB,ao+1) [.g,.g,.g,.b true,.g,.g,.g,.i,.l (de (rcd nA nD nE nC nG nF)),.c (de (rcd nAB nM nP nQ nN nO)) Z,.g,.e (.slice qAB lBB cAB) ZX,.g,.g,.n (ao+1),.g] (fun _ f=>an6 (zU u1) u2 h1 h2 h3 (w64 u3) f) nx
theorem yRB {Nx:(Option Addr)->Nat->Nat->Int->St->Prop} {Q0:(Option Addr)->Nat->Nat->St->Prop} (nx:Q0 aD aA aC Z) (u1:¬ ao<(l_l:Int):=by omega):zOQ l l_l l_c aD aA aC ao Z Nx Q0 :=
 kO 1 (aD,aA,aC) [.g,.g,.g,.b false] (fun _ f=>ai (zY u1) f) nx
theorem yWJ {P0:(Option Addr)->Nat->Nat->St->Prop} (hL:yBO l l_l l_c none 0 0 0 Z P0) (k0:∀ p3_1' l3_1' c3_1' Z',P0 p3_1' l3_1' c3_1' Z'->zQZ l l_l l_c p3_1' l3_1' c3_1' Z' Q):dq 12 [.slice l l_l l_c] Z Q :=
 zK [.g,.g,.g,.lf 20 (zFL l l_l l_c none 0 0 0) [zIV l l_l l_c P0]] (kd (ai (ai tt (ai (arf (zFL l l_l l_c none 0 0 0)) hL)) (ai (kz3 k0) trivial)))
theorem yCZ (nx:Q (.slice aD aA aC) Z):zQZ l l_l l_c aD aA aC Z Q :=
 sK [.g,.g] nx
end
end Go.Proofs.YtflfajphjmajpaaGreatDoor
