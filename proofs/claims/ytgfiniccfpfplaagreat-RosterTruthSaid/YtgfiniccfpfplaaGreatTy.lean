import Derived.Test.YtgfiniccfpfplaaGreatOk
import Derived.Test.YtgfiniccfpfplaaGreatLayC
namespace Go.Proofs.YtgfiniccfpfplaaGreat
open Go Go.Lay
open Tryz renaming prog -> Pg
theorem krf {A:Type} {a b:A} (h:a=b:=by kernel_rfl):a=b:=h
@[simp,reducible] def zL (x0 x1 x2 x3:Int):List Value:=[.int .i64 x0,.int .i64 x1,.int .i64 x2,.int .i64 x3]
@[simp,reducible] def zG (x0 x1 x2 x3 x4:Int):List Value:=[.int .i64 x0,.int .i64 x1,.int .i64 x2,.int .i64 x3,.int .i64 x4]
@[simp,reducible] def zK (x0 x1 x2 x3 x4 x5:Int):List Value:=[.int .i64 x0,.int .i64 x1,.int .i64 x2,.int .i64 x3,.int .i64 x4,.int .i64 x5]
@[simp,reducible] def rcd (k a b:Int):List Value:=[.int .u8 k,.int .i64 a,.int .i64 b]
@[simp,reducible] def zN (p:Option Addr) (l c:Nat) (q:Option Addr) (m d:Nat) (r:Option Addr) (n e:Nat) (x y z:Int):List Value:=[.slice p l c,.slice q m d,.slice r n e,.int .i64 x,.int .i64 y,.int .i64 z]
@[simp,reducible] def wkc (a:Int) (p:Option Addr) (l c:Nat) (q:Option Addr) (m d:Nat) (x y z:Int):List Value:=[.int .i64 a,.slice p l c,.slice q m d,.int .i64 x,.int .i64 y,.int .i64 z]
abbrev Ix (i:Int) (n:Nat):Prop:=0<=i/\i<(n:Int)
abbrev I6 (n:Int):Prop:=-9223372036854775808<=n/\n<=9223372036854775807
theorem nlt (n i j:Nat) (h:Nat.blt i j=true):n+i<n+j:=Nat.add_lt_add_left (Nat.le_of_ble_eq_true h) n
theorem vD {b n:Nat} (h:b<n) (j:Nat):b<n+j:=Nat.lt_of_lt_of_le h (Nat.le_add_right n j)
theorem nle {a b:Nat} (h:Nat.ble a b=true):a<=b:=Nat.le_of_ble_eq_true h
theorem nne (n i j:Nat) (h:Nat.beq i j=false):n+i≠n+j:=fun e=>by rw [Nat.add_left_cancel e,Nat.beq_refl] at h;cases h
theorem yCR {n l c:Nat} {p:Option Addr} (h:∀ a,p=some a->a.block<n) (j:Nat):yY RD (n+j) (.slice p l c)=true:=yK fun a e=>vD (h a e) j
theorem w64 {n:Int} (h:-9223372036854775808<=n/\n<=9223372036854775807):zAK .i64 n=n:=zYE h.1 h.2
theorem an2 {A0 A1 A2:Prop} (a0:A0) (a1:A1) (a2:A2):A0/\A1/\A2:=⟨a0,a1,a2⟩
theorem an3 {A0 A1 A2 A3:Prop} (a0:A0) (a1:A1) (a2:A2) (a3:A3):A0/\A1/\A2/\A3:=⟨a0,a1,a2,a3⟩
theorem an4 {A0 A1 A2 A3 A4:Prop} (a0:A0) (a1:A1) (a2:A2) (a3:A3) (a4:A4):A0/\A1/\A2/\A3/\A4:=⟨a0,a1,a2,a3,a4⟩
theorem an5 {A0 A1 A2 A3 A4 A5:Prop} (a0:A0) (a1:A1) (a2:A2) (a3:A3) (a4:A4) (a5:A5):A0/\A1/\A2/\A3/\A4/\A5:=⟨a0,a1,a2,a3,a4,a5⟩
theorem an6 {A0 A1 A2 A3 A4 A5 A6:Prop} (a0:A0) (a1:A1) (a2:A2) (a3:A3) (a4:A4) (a5:A5) (a6:A6):A0/\A1/\A2/\A3/\A4/\A5/\A6:=⟨a0,a1,a2,a3,a4,a5,a6⟩
theorem kd {a b:Prop} (x:b) (h:a=b:=by kernel_rfl):a:=h.mpr x
def apA:List Ans->Ans->List Ans
 | [],x=>[x]
 | a::l,x=>a::apA l x
def yEJ:List Alt->Nat->Alt
 | [],_=>⟨Unit,.normal,fun _=>[],fun _=>[],fun _ _=>False⟩
 | a::_,0=>a
 | _::l,k+1=>yEJ l k
theorem yYQ:∀ {l:List Alt} {k:Nat},Nat.blt k l.length=true->In (yEJ l k) l
 | [],k,h=>by cases k <;> cases h
 | _::_,0,_=>in0
 | _::l,k+1,h=>inS (yYQ (l:=l) (k:=k) h)
section
variable {P:Program} {R:Nat->Rec} {rd:Option Nat} {c:Code} {n:Nat} {l:List (Nat × Value)} {ms:List Nat} {alts:List Alt} {Z Z':St}
theorem kO (k:Nat) (t:(yEJ alts k).T) (ys:List Ans) {C:Prop->Prop} (x:∀ F,F->C F) (nx:(yEJ alts k).Q t Z') (hk:Nat.blt k alts.length=true:=by rfl)
  (h:∀ g:Nat->Value,Hid (wpE P R rd c (apA ys (.fin (yEJ alts k) t)) ⟨Fm n (ov l g),ms⟩ Z (zFP n alts))=C (FIN alts (yEJ alts k) t Z'):=by intro g;kernel_rfl):yL P R rd c n l ms alts Z :=
 zCE _ fun g=>(h g).mpr (x _ (fin _ t nx (yYQ hk)))
theorem sK {H:(Nat->Value)->List Ans->Prop} (ys:List Ans) {B:Prop} (x:B) (h:∀ g,H g ys=B:=by intro g;kernel_rfl):∀ g,∃ an,H g an:=fun g=>⟨ys,(h g).mpr x⟩
theorem sF {p:List Nat} {e:Exit} {fr:(Nat->Value)->Fr} (k:Nat) (t:(yEJ alts k).T) (ys:List Ans) {C:Prop->Prop} (x:∀ F,F->C F) (nx:(yEJ alts k).Q t Z') (hk:Nat.blt k alts.length=true:=by rfl)
  (h:∀ g:Nat->Value,Hid (kAt P R rd c p (zFP n alts) e (fr g) Z (apA ys (.fin (yEJ alts k) t)))=C (FIN alts (yEJ alts k) t Z'):=by intro g;kernel_rfl):∀ g:Nat->Value,∃ an,Hid (kAt P R rd c p (zFP n alts) e (fr g) Z an) :=
 fun g=>⟨_,(h g).mpr (x _ (fin _ t nx (yYQ hk)))⟩
end
theorem kz {P:St->Prop} {K:St->(Nat->Value)->Prop} (k:∀ Z,P Z->∀ g,K Z g):∀ (g:Nat->Value) (Z:St),P Z->K Z g:=fun g Z h=>k Z h g
theorem kz0 {P:St->Prop} {K:St->(Nat->Value)->Prop} (k:∀ Z,P Z->∀ g,K Z g):∀ (t:Unit) (g:Nat->Value) (Z:St),P Z->K Z g:=fun t g Z h=>k Z h g
theorem kz1 {T0:Type} {P:T0->St->Prop} {K:T0->St->(Nat->Value)->Prop} (k:∀ a0 Z,P a0 Z->∀ g,K a0 Z g):∀ (t:T0) (g:Nat->Value) (Z:St),P t Z->K t Z g:=fun t g Z h=>k t Z h g
theorem kz2 {T0 T1:Type} {P:T0->T1->St->Prop} {K:T0->T1->St->(Nat->Value)->Prop} (k:∀ a0 a1 Z,P a0 a1 Z->∀ g,K a0 a1 Z g):∀ (t:T0 × T1) (g:Nat->Value) (Z:St),P t.1 t.2 Z->K t.1 t.2 Z g:=fun t g Z h=>k t.1 t.2 Z h g
theorem kz3 {T0 T1 T2:Type} {P:T0->T1->T2->St->Prop} {K:T0->T1->T2->St->(Nat->Value)->Prop} (k:∀ a0 a1 a2 Z,P a0 a1 a2 Z->∀ g,K a0 a1 a2 Z g):∀ (t:T0 × T1 × T2) (g:Nat->Value) (Z:St),P t.1 t.2.1 t.2.2 Z->K t.1 t.2.1 t.2.2 Z g:=fun t g Z h=>k t.1 t.2.1 t.2.2 Z h g
abbrev NX1 {T0:Type} (Inv:Nat->T0->St->Prop) (k:Nat):T0->St->Prop:=fun a0 Z=>∃ k',k' < k/\Inv k' a0 Z
theorem xE {P:Program} {R:Nat->Rec} {rd:Option Nat} {c:Code} {n:Nat} {alts:List Alt} {T0:Type} {lf:T0->List (Nat × Value)} {mf:T0->List Nat} {Inv:Nat->T0->St->Prop} (hne:zWN alts) (hb:∀ k a0 Z,Inv k a0 Z->yL P R rd c n (lf a0) (mf a0) (⟨T0,.normal,fun t=>lf t,fun t=>mf t,fun t Z=>NX1 Inv k t Z⟩::alts) Z):∀ k a0 Z,Inv k a0 Z->yQ P R rd c n (lf a0) (mf a0) alts Z :=
 fun k a0 Z h=>zMF (T:=T0) (lf:=fun t=>lf t) (mf:=fun t=>mf t) (Inv:=fun k t Z=>Inv k t Z) hne (fun k t Z h=>hb k t Z h) k a0 Z h
abbrev NX2 {T0 T1:Type} (Inv:Nat->T0->T1->St->Prop) (k:Nat):T0->T1->St->Prop:=fun a0 a1 Z=>∃ k',k' < k/\Inv k' a0 a1 Z
theorem zCR {P:Program} {R:Nat->Rec} {rd:Option Nat} {c:Code} {n:Nat} {alts:List Alt} {T0 T1:Type} {lf:T0->T1->List (Nat × Value)} {mf:T0->T1->List Nat} {Inv:Nat->T0->T1->St->Prop} (hne:zWN alts) (hb:∀ k a0 a1 Z,Inv k a0 a1 Z->yL P R rd c n (lf a0 a1) (mf a0 a1) (⟨T0 × T1,.normal,fun t=>lf t.1 t.2,fun t=>mf t.1 t.2,fun t Z=>NX2 Inv k t.1 t.2 Z⟩::alts) Z):∀ k a0 a1 Z,Inv k a0 a1 Z->yQ P R rd c n (lf a0 a1) (mf a0 a1) alts Z :=
 fun k a0 a1 Z h=>zMF (T:=T0 × T1) (lf:=fun t=>lf t.1 t.2) (mf:=fun t=>mf t.1 t.2) (Inv:=fun k t Z=>Inv k t.1 t.2 Z) hne (fun k t Z h=>hb k t.1 t.2 Z h) k (a0,a1) Z h
abbrev NX4 {T0 T1 T2 T3:Type} (Inv:Nat->T0->T1->T2->T3->St->Prop) (k:Nat):T0->T1->T2->T3->St->Prop:=fun a0 a1 a2 a3 Z=>∃ k',k' < k/\Inv k' a0 a1 a2 a3 Z
theorem yAS {P:Program} {R:Nat->Rec} {rd:Option Nat} {c:Code} {n:Nat} {alts:List Alt} {T0 T1 T2 T3:Type} {lf:T0->T1->T2->T3->List (Nat × Value)} {mf:T0->T1->T2->T3->List Nat} {Inv:Nat->T0->T1->T2->T3->St->Prop} (hne:zWN alts) (hb:∀ k a0 a1 a2 a3 Z,Inv k a0 a1 a2 a3 Z->yL P R rd c n (lf a0 a1 a2 a3) (mf a0 a1 a2 a3) (⟨T0 × T1 × T2 × T3,.normal,fun t=>lf t.1 t.2.1 t.2.2.1 t.2.2.2,fun t=>mf t.1 t.2.1 t.2.2.1 t.2.2.2,fun t Z=>NX4 Inv k t.1 t.2.1 t.2.2.1 t.2.2.2 Z⟩::alts) Z):∀ k a0 a1 a2 a3 Z,Inv k a0 a1 a2 a3 Z->yQ P R rd c n (lf a0 a1 a2 a3) (mf a0 a1 a2 a3) alts Z :=
 fun k a0 a1 a2 a3 Z h=>zMF (T:=T0 × T1 × T2 × T3) (lf:=fun t=>lf t.1 t.2.1 t.2.2.1 t.2.2.2) (mf:=fun t=>mf t.1 t.2.1 t.2.2.1 t.2.2.2) (Inv:=fun k t Z=>Inv k t.1 t.2.1 t.2.2.1 t.2.2.2 Z) hne (fun k t Z h=>hb k t.1 t.2.1 t.2.2.1 t.2.2.2 Z h) k (a0,a1,a2,a3) Z h
abbrev NX5 {T0 T1 T2 T3 T4:Type} (Inv:Nat->T0->T1->T2->T3->T4->St->Prop) (k:Nat):T0->T1->T2->T3->T4->St->Prop:=fun a0 a1 a2 a3 a4 Z=>∃ k',k' < k/\Inv k' a0 a1 a2 a3 a4 Z
theorem wAT {P:Program} {R:Nat->Rec} {rd:Option Nat} {c:Code} {n:Nat} {alts:List Alt} {T0 T1 T2 T3 T4:Type} {lf:T0->T1->T2->T3->T4->List (Nat × Value)} {mf:T0->T1->T2->T3->T4->List Nat} {Inv:Nat->T0->T1->T2->T3->T4->St->Prop} (hne:zWN alts) (hb:∀ k a0 a1 a2 a3 a4 Z,Inv k a0 a1 a2 a3 a4 Z->yL P R rd c n (lf a0 a1 a2 a3 a4) (mf a0 a1 a2 a3 a4) (⟨T0 × T1 × T2 × T3 × T4,.normal,fun t=>lf t.1 t.2.1 t.2.2.1 t.2.2.2.1 t.2.2.2.2,fun t=>mf t.1 t.2.1 t.2.2.1 t.2.2.2.1 t.2.2.2.2,fun t Z=>NX5 Inv k t.1 t.2.1 t.2.2.1 t.2.2.2.1 t.2.2.2.2 Z⟩::alts) Z):∀ k a0 a1 a2 a3 a4 Z,Inv k a0 a1 a2 a3 a4 Z->yQ P R rd c n (lf a0 a1 a2 a3 a4) (mf a0 a1 a2 a3 a4) alts Z :=
 fun k a0 a1 a2 a3 a4 Z h=>zMF (T:=T0 × T1 × T2 × T3 × T4) (lf:=fun t=>lf t.1 t.2.1 t.2.2.1 t.2.2.2.1 t.2.2.2.2) (mf:=fun t=>mf t.1 t.2.1 t.2.2.1 t.2.2.2.1 t.2.2.2.2) (Inv:=fun k t Z=>Inv k t.1 t.2.1 t.2.2.1 t.2.2.2.1 t.2.2.2.2 Z) hne (fun k t Z h=>hb k t.1 t.2.1 t.2.2.1 t.2.2.2.1 t.2.2.2.2 Z h) k (a0,a1,a2,a3,a4) Z h
theorem zU:wE Pg 3=some false:=krf
theorem vE:yS Pg 3=some 1:=krf
theorem xKN:wE Pg 4=some false:=krf
theorem xYF:wE Pg 5=some false:=krf
theorem zBF:wE Pg 22=some false:=krf
theorem zEZ:wE Pg 23=some false:=krf
theorem zEY:wE Pg 25=some true:=krf
theorem zAX:yS Pg 25=some 6:=krf
theorem yT:wE Pg 26=some false:=krf
theorem yUZ:yS Pg 26=some 1:=krf
theorem uU:wE Pg 31=some false:=krf
theorem xZQ:yS Pg 31=some 1:=krf
theorem zAC:wE Pg 32=some false:=krf
theorem xZP:yS Pg 32=some 1:=krf
theorem xL:wE Pg 34=some true:=krf
theorem yR:yS Pg 34=some 6:=krf
theorem yTH:wE Pg 36=some false:=krf
theorem yUY:yS Pg 36=some 1:=krf
theorem xTC:wE Pg 45=some true:=krf
theorem yJP:yS Pg 45=some 3:=krf
theorem xTB:wE Pg 76=some true:=krf
theorem zAF:yS Pg 76=some 6:=krf
theorem wDL:wE Pg 83=some true:=krf
theorem yUX:yS Pg 83=some 2:=krf
theorem zNU:wE Pg 85=some true:=krf
theorem uD:yS Pg 85=some 5:=krf
theorem xZF:wE Pg 86=some false:=krf
theorem yIT:wE Pg 88=some true:=krf
theorem zFF:yS Pg 88=some 6:=krf
theorem xZE:wE Pg 89=some false:=krf
theorem wDK:wE Pg 90=some true:=krf
theorem yUW:yS Pg 90=some 2:=krf
theorem wDJ:wE Pg 92=some true:=krf
theorem zJC:yS Pg 92=some 5:=krf
theorem zCX:wE Pg 98=some true:=krf
theorem wA:yS Pg 98=some 6:=krf
theorem wDI:wE Pg 99=some false:=krf
theorem xTF:wE Pg 105=some false:=krf
theorem vP:wE Pg 107=some true:=krf
theorem xG:yS Pg 107=some 4:=krf
theorem xTE:wE Pg 109=some true:=krf
theorem yJQ:yS Pg 109=some 24:=krf
theorem xBF:wE Pg 116=some false:=krf
theorem zPG:wE Pg 118=some true:=krf
theorem zCY:yS Pg 118=some 2:=krf
theorem uM:wE Pg 125=some false:=krf
theorem wBS:wE Pg 126=some false:=krf
theorem yMP:wE Pg 130=some true:=krf
theorem vT:yS Pg 130=some 8:=krf
theorem wBR:wE Pg 133=some true:=krf
theorem xUP:yS Pg 133=some 25:=krf
theorem wBQ:wE Pg 143=some false:=krf
theorem xUO:yS Pg 143=some 1:=krf
theorem xTD:wE Pg 144=some false:=krf
theorem xUN:yS Pg 144=some 1:=krf
theorem wBP:wE Pg 164=some false:=krf
theorem yMO:wE Pg 166=some false:=krf
theorem zXB:yS Pg 166=some 1:=krf
theorem ai {a b:Prop} (h:a) (k:b):a/\b:=And.intro h k
abbrev iV (n:Int):Value:=.int .i64 n
abbrev I6a (n:Int):Prop:=-9223372036854775808<=n/\n<=9223372036854775807
abbrev zLq (s:St) (t:Nat) (a:Addr) (v:Value):Prop:=(a.block<s.y/\zM RD v=true)/\zB Pg s t a=some v
abbrev vPa:=Value->St->Prop
abbrev lNa:=List (Nat × Value)
abbrev lVa:=List Value
abbrev oAa:=Option Addr
def kZ (R:Nat->Rec) (c:Code) (p:List Nat) (K:Exit->Fr->St->List Ans->Prop) (e:Exit) (n:Nat) (l:List (Nat × Value)) (Z:St):Prop:=∀ g:Nat->Value,∃ an,Hid (kAt Pg R none c p K e ⟨Fm n (ov l g),[]⟩ Z an)
abbrev qe (b o:Nat):Addr:=⟨b,o,none⟩
abbrev pz (a:Addr):Value:=.pointer (some a)
abbrev pt (b o:Nat):Value:=.pointer (some ⟨b,o,none⟩)
abbrev qf (l:List Value):Value:=.agg ⟨l⟩
abbrev lz (s:St) (t:Nat) (a:Addr) (v:Value):Prop:=zB Pg s t a=some v
noncomputable abbrev qg:=@zO Pg
noncomputable abbrev qh:=@zS Pg
noncomputable abbrev qi:=@yL Pg
noncomputable abbrev qj:=@zV Pg
noncomputable abbrev qk:=@yQ Pg
noncomputable abbrev ql:=@kFn Pg
noncomputable abbrev qm:=@zD Pg
noncomputable abbrev qn:=@zB Pg
noncomputable abbrev qo:=@zQ Pg
end Go.Proofs.YtgfiniccfpfplaaGreat
