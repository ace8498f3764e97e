
import Derived.Test.YtgfiniccfpfplaaGreatOk
import Derived.Test.YtgfiniccfpfplaaGreatLayC
namespace Go.Proofs.YtgfiniccfpfplaaGreat
open Go Go.Lay
@[simp,reducible] def zK (x0 x1 x2 x3:Int):List Value:=[.int .i64 x0,.int .i64 x1,.int .i64 x2,.int .i64 x3]
@[simp,reducible] def zF (x0 x1 x2 x3 x4:Int):List Value:=[.int .i64 x0,.int .i64 x1,.int .i64 x2,.int .i64 x3,.int .i64 x4]
@[simp,reducible] def zH (x0 x1 x2 x3 x4 x5:Int):List Value:=[.int .i64 x0,.int .i64 x1,.int .i64 x2,.int .i64 x3,.int .i64 x4,.int .i64 x5]
@[simp,reducible] def ints7 (x0 x1 x2 x3 x4 x5 x6:Int):List Value:=[.int .i64 x0,.int .i64 x1,.int .i64 x2,.int .i64 x3,.int .i64 x4,.int .i64 x5,.int .i64 x6]
@[simp,reducible] def ints8 (x0 x1 x2 x3 x4 x5 x6 x7:Int):List Value:=[.int .i64 x0,.int .i64 x1,.int .i64 x2,.int .i64 x3,.int .i64 x4,.int .i64 x5,.int .i64 x6,.int .i64 x7]
@[simp,reducible] def ints9 (x0 x1 x2 x3 x4 x5 x6 x7 x8:Int):List Value:=[.int .i64 x0,.int .i64 x1,.int .i64 x2,.int .i64 x3,.int .i64 x4,.int .i64 x5,.int .i64 x6,.int .i64 x7,.int .i64 x8]
@[simp,reducible] def ints10 (x0 x1 x2 x3 x4 x5 x6 x7 x8 x9:Int):List Value:=[.int .i64 x0,.int .i64 x1,.int .i64 x2,.int .i64 x3,.int .i64 x4,.int .i64 x5,.int .i64 x6,.int .i64 x7,.int .i64 x8,.int .i64 x9]
@[simp,reducible] def ints11 (x0 x1 x2 x3 x4 x5 x6 x7 x8 x9 x10:Int):List Value:=[.int .i64 x0,.int .i64 x1,.int .i64 x2,.int .i64 x3,.int .i64 x4,.int .i64 x5,.int .i64 x6,.int .i64 x7,.int .i64 x8,.int .i64 x9,.int .i64 x10]
@[simp,reducible] def ints12 (x0 x1 x2 x3 x4 x5 x6 x7 x8 x9 x10 x11:Int):List Value:=[.int .i64 x0,.int .i64 x1,.int .i64 x2,.int .i64 x3,.int .i64 x4,.int .i64 x5,.int .i64 x6,.int .i64 x7,.int .i64 x8,.int .i64 x9,.int .i64 x10,.int .i64 x11]
@[simp,reducible] def ints15 (x0 x1 x2 x3 x4 x5 x6 x7 x8 x9 x10 x11 x12 x13 x14:Int):List Value:=[.int .i64 x0,.int .i64 x1,.int .i64 x2,.int .i64 x3,.int .i64 x4,.int .i64 x5,.int .i64 x6,.int .i64 x7,.int .i64 x8,.int .i64 x9,.int .i64 x10,.int .i64 x11,.int .i64 x12,.int .i64 x13,.int .i64 x14]
@[simp,reducible] def ints24 (x0 x1 x2 x3 x4 x5 x6 x7 x8 x9 x10 x11 x12 x13 x14 x15 x16 x17 x18 x19 x20 x21 x22 x23:Int):List Value:=[.int .i64 x0,.int .i64 x1,.int .i64 x2,.int .i64 x3,.int .i64 x4,.int .i64 x5,.int .i64 x6,.int .i64 x7,.int .i64 x8,.int .i64 x9,.int .i64 x10,.int .i64 x11,.int .i64 x12,.int .i64 x13,.int .i64 x14,.int .i64 x15,.int .i64 x16,.int .i64 x17,.int .i64 x18,.int .i64 x19,.int .i64 x20,.int .i64 x21,.int .i64 x22,.int .i64 x23]
@[simp,reducible] def ints25 (x0 x1 x2 x3 x4 x5 x6 x7 x8 x9 x10 x11 x12 x13 x14 x15 x16 x17 x18 x19 x20 x21 x22 x23 x24:Int):List Value:=[.int .i64 x0,.int .i64 x1,.int .i64 x2,.int .i64 x3,.int .i64 x4,.int .i64 x5,.int .i64 x6,.int .i64 x7,.int .i64 x8,.int .i64 x9,.int .i64 x10,.int .i64 x11,.int .i64 x12,.int .i64 x13,.int .i64 x14,.int .i64 x15,.int .i64 x16,.int .i64 x17,.int .i64 x18,.int .i64 x19,.int .i64 x20,.int .i64 x21,.int .i64 x22,.int .i64 x23,.int .i64 x24]
@[simp,reducible] def rcd (k a b:Int):List Value:=[.int .u8 k,.int .i64 a,.int .i64 b]
@[simp,reducible] def zL (p:Option Addr) (l c:Nat) (q:Option Addr) (m d:Nat) (r:Option Addr) (n e:Nat) (x y z:Int):List Value:=[.slice p l c,.slice q m d,.slice r n e,.int .i64 x,.int .i64 y,.int .i64 z]
@[simp,reducible] def wkc (a:Int) (p:Option Addr) (l c:Nat) (q:Option Addr) (m d:Nat) (x y z:Int):List Value:=[.int .i64 a,.slice p l c,.slice q m d,.int .i64 x,.int .i64 y,.int .i64 z]
abbrev Ix (i:Int) (n:Nat):Prop:=0<=i/\i<(n:Int)
abbrev I6 (n:Int):Prop:=-9223372036854775808<=n/\n<=9223372036854775807
theorem nlt (n i j:Nat) (h:Nat.blt i j=true):n+i<n+j:=Nat.add_lt_add_left (Nat.le_of_ble_eq_true h) n
theorem wZ {b n:Nat} (h:b<n) (j:Nat):b<n+j:=Nat.lt_of_lt_of_le h (Nat.le_add_right n j)
theorem nle {a b:Nat} (h:Nat.ble a b=true):a<=b:=Nat.le_of_ble_eq_true h
theorem nne (n i j:Nat) (h:Nat.beq i j=false):n+i≠n+j:=fun e=>by rw [Nat.add_left_cancel e,Nat.beq_refl] at h;cases h
theorem yAI {n l c:Nat} {p:Option Addr} (h:∀ a,p=some a->a.block<n) (j:Nat):yU RD (n+j) (.slice p l c)=true:=xH fun a e=>wZ (h a e) j
theorem w64 {n:Int} (h:-9223372036854775808<=n/\n<=9223372036854775807):zAF .i64 n=n:=zWF h.1 h.2
theorem an2 {A0 A1 A2:Prop} (a0:A0) (a1:A1) (a2:A2):A0/\A1/\A2:=⟨a0,a1,a2⟩
theorem an3 {A0 A1 A2 A3:Prop} (a0:A0) (a1:A1) (a2:A2) (a3:A3):A0/\A1/\A2/\A3:=⟨a0,a1,a2,a3⟩
theorem an4 {A0 A1 A2 A3 A4:Prop} (a0:A0) (a1:A1) (a2:A2) (a3:A3) (a4:A4):A0/\A1/\A2/\A3/\A4:=⟨a0,a1,a2,a3,a4⟩
theorem an5 {A0 A1 A2 A3 A4 A5:Prop} (a0:A0) (a1:A1) (a2:A2) (a3:A3) (a4:A4) (a5:A5):A0/\A1/\A2/\A3/\A4/\A5:=⟨a0,a1,a2,a3,a4,a5⟩
theorem an6 {A0 A1 A2 A3 A4 A5 A6:Prop} (a0:A0) (a1:A1) (a2:A2) (a3:A3) (a4:A4) (a5:A5) (a6:A6):A0/\A1/\A2/\A3/\A4/\A5/\A6:=⟨a0,a1,a2,a3,a4,a5,a6⟩
theorem kd {a b:Prop} (x:b) (h:a=b:=by kernel_rfl):a:=h.mpr x
def apA:List Ans->Ans->List Ans
 | [],x=>[x]
 | a::l,x=>a::apA l x
def yBJ:List Alt->Nat->Alt
 | [],_=>⟨Unit,.normal,fun _=>[],fun _=>[],fun _ _=>False⟩
 | a::_,0=>a
 | _::l,k+1=>yBJ l k
theorem yUA:∀ {l:List Alt} {k:Nat},Nat.blt k l.length=true->In (yBJ l k) l
 | [],k,h=>by cases k <;> cases h
 | _::_,0,_=>in0
 | _::l,k+1,h=>inS (yUA (l:=l) (k:=k) h)
section
variable {P:Program} {R:Nat->Rec} {rd:Option Nat} {c:Code} {n:Nat} {l:List (Nat × Value)} {ms:List Nat} {alts:List Alt} {Z Z':St}
theorem kO (k:Nat) (t:(yBJ alts k).T) (ys:List Ans) {C:Prop->Prop} (x:∀ F,F->C F) (nx:(yBJ alts k).Q t Z') (hk:Nat.blt k alts.length=true:=by rfl)
  (h:∀ g:Nat->Value,Hid (wpE P R rd c (apA ys (.fin (yBJ alts k) t)) ⟨Fm n (ov l g),ms⟩ Z (zHI n alts))=C (FIN alts (yBJ alts k) t Z'):=by intro g;kernel_rfl):yR P R rd c n l ms alts Z :=
 zDE _ fun g=>(h g).mpr (x _ (fin _ t nx (yUA hk)))
theorem sK {H:(Nat->Value)->List Ans->Prop} (ys:List Ans) {B:Prop} (x:B) (h:∀ g,H g ys=B:=by intro g;kernel_rfl):∀ g,∃ an,H g an:=fun g=>⟨ys,(h g).mpr x⟩
theorem sF {p:List Nat} {e:Exit} {fr:(Nat->Value)->Fr} (k:Nat) (t:(yBJ alts k).T) (ys:List Ans) {C:Prop->Prop} (x:∀ F,F->C F) (nx:(yBJ alts k).Q t Z') (hk:Nat.blt k alts.length=true:=by rfl)
  (h:∀ g:Nat->Value,Hid (kAt P R rd c p (zHI n alts) e (fr g) Z (apA ys (.fin (yBJ alts k) t)))=C (FIN alts (yBJ alts k) t Z'):=by intro g;kernel_rfl):∀ g:Nat->Value,∃ an,Hid (kAt P R rd c p (zHI n alts) e (fr g) Z an) :=
 fun g=>⟨_,(h g).mpr (x _ (fin _ t nx (yUA hk)))⟩
end
theorem kz {P:St->Prop} {K:St->(Nat->Value)->Prop} (k:∀ Z,P Z->∀ g,K Z g):∀ (g:Nat->Value) (Z:St),P Z->K Z g:=fun g Z h=>k Z h g
theorem kz0 {P:St->Prop} {K:St->(Nat->Value)->Prop} (k:∀ Z,P Z->∀ g,K Z g):∀ (t:Unit) (g:Nat->Value) (Z:St),P Z->K Z g:=fun t g Z h=>k Z h g
theorem kz1 {T0:Type} {P:T0->St->Prop} {K:T0->St->(Nat->Value)->Prop} (k:∀ a0 Z,P a0 Z->∀ g,K a0 Z g):∀ (t:T0) (g:Nat->Value) (Z:St),P t Z->K t Z g:=fun t g Z h=>k t Z h g
theorem kz2 {T0 T1:Type} {P:T0->T1->St->Prop} {K:T0->T1->St->(Nat->Value)->Prop} (k:∀ a0 a1 Z,P a0 a1 Z->∀ g,K a0 a1 Z g):∀ (t:T0 × T1) (g:Nat->Value) (Z:St),P t.1 t.2 Z->K t.1 t.2 Z g:=fun t g Z h=>k t.1 t.2 Z h g
theorem kz3 {T0 T1 T2:Type} {P:T0->T1->T2->St->Prop} {K:T0->T1->T2->St->(Nat->Value)->Prop} (k:∀ a0 a1 a2 Z,P a0 a1 a2 Z->∀ g,K a0 a1 a2 Z g):∀ (t:T0 × T1 × T2) (g:Nat->Value) (Z:St),P t.1 t.2.1 t.2.2 Z->K t.1 t.2.1 t.2.2 Z g:=fun t g Z h=>k t.1 t.2.1 t.2.2 Z h g
theorem zS:wI Tryz.prog 3=some false:=by kernel_rfl
theorem vG:yV Tryz.prog 3=some 1:=by kernel_rfl
theorem agg4:wI Tryz.prog 4=some false:=by kernel_rfl
theorem agg5:wI Tryz.prog 5=some false:=by kernel_rfl
theorem zCU:wI Tryz.prog 22=some false:=by kernel_rfl
theorem zHG:wI Tryz.prog 23=some false:=by kernel_rfl
theorem zCT:wI Tryz.prog 25=some true:=by kernel_rfl
theorem uN:yV Tryz.prog 25=some 6:=by kernel_rfl
theorem yS:wI Tryz.prog 26=some false:=by kernel_rfl
theorem yQT:yV Tryz.prog 26=some 1:=by kernel_rfl
theorem zBB:wI Tryz.prog 31=some false:=by kernel_rfl
theorem size31:yV Tryz.prog 31=some 1:=by kernel_rfl
theorem uV:wI Tryz.prog 32=some false:=by kernel_rfl
theorem size32:yV Tryz.prog 32=some 1:=by kernel_rfl
theorem xM:wI Tryz.prog 34=some true:=by kernel_rfl
theorem yT:yV Tryz.prog 34=some 6:=by kernel_rfl
theorem yPP:wI Tryz.prog 36=some false:=by kernel_rfl
theorem yQS:yV Tryz.prog 36=some 1:=by kernel_rfl
theorem agg45:wI Tryz.prog 45=some true:=by kernel_rfl
theorem yGH:yV Tryz.prog 45=some 3:=by kernel_rfl
theorem agg76:wI Tryz.prog 76=some true:=by kernel_rfl
theorem uY:yV Tryz.prog 76=some 6:=by kernel_rfl
theorem zOU:wI Tryz.prog 85=some true:=by kernel_rfl
theorem vX:yV Tryz.prog 85=some 5:=by kernel_rfl
theorem agg86:wI Tryz.prog 86=some false:=by kernel_rfl
theorem yFP:wI Tryz.prog 88=some true:=by kernel_rfl
theorem zFZ:yV Tryz.prog 88=some 6:=by kernel_rfl
theorem agg89:wI Tryz.prog 89=some false:=by kernel_rfl
theorem agg92:wI Tryz.prog 92=some true:=by kernel_rfl
theorem zKB:yV Tryz.prog 92=some 5:=by kernel_rfl
theorem zCS:wI Tryz.prog 98=some true:=by kernel_rfl
theorem xX:yV Tryz.prog 98=some 6:=by kernel_rfl
theorem agg99:wI Tryz.prog 99=some false:=by kernel_rfl
theorem agg105:wI Tryz.prog 105=some false:=by kernel_rfl
theorem vN:wI Tryz.prog 107=some true:=by kernel_rfl
theorem xB:yV Tryz.prog 107=some 4:=by kernel_rfl
theorem agg109:wI Tryz.prog 109=some true:=by kernel_rfl
theorem yGI:yV Tryz.prog 109=some 24:=by kernel_rfl
theorem yWR:wI Tryz.prog 116=some false:=by kernel_rfl
theorem zPQ:wI Tryz.prog 118=some true:=by kernel_rfl
theorem zCW:yV Tryz.prog 118=some 2:=by kernel_rfl
theorem uG:wI Tryz.prog 125=some false:=by kernel_rfl
theorem agg126:wI Tryz.prog 126=some false:=by kernel_rfl
theorem yJD:wI Tryz.prog 130=some true:=by kernel_rfl
theorem vR:yV Tryz.prog 130=some 8:=by kernel_rfl
theorem agg133:wI Tryz.prog 133=some true:=by kernel_rfl
theorem size133:yV Tryz.prog 133=some 25:=by kernel_rfl
theorem agg143:wI Tryz.prog 143=some false:=by kernel_rfl
theorem size143:yV Tryz.prog 143=some 1:=by kernel_rfl
theorem agg144:wI Tryz.prog 144=some false:=by kernel_rfl
theorem size144:yV Tryz.prog 144=some 1:=by kernel_rfl
theorem agg164:wI Tryz.prog 164=some false:=by kernel_rfl
theorem yJC:wI Tryz.prog 166=some false:=by kernel_rfl
theorem zVL:yV Tryz.prog 166=some 1:=by kernel_rfl
theorem ai {a b:Prop} (h:a) (k:b):a/\b:=And.intro h k
abbrev iV (n:Int):Value:=.int .i64 n
abbrev I6a (n:Int):Prop:=-9223372036854775808<=n/\n<=9223372036854775807
abbrev zLq (s:St) (t:Nat) (a:Addr) (v:Value):Prop:=(a.block<s.next/\zN RD v=true)/\zB Tryz.prog s t a=some v
abbrev qe (b o:Nat):Addr:=⟨b,o,none⟩
abbrev pz (a:Addr):Value:=.pointer (some a)
abbrev pt (b o:Nat):Value:=.pointer (some ⟨b,o,none⟩)
abbrev qf (l:List Value):Value:=.agg ⟨l⟩
abbrev lz (s:St) (t:Nat) (a:Addr) (v:Value):Prop:=zB Tryz.prog s t a=some v
abbrev lNa:=List (Nat × Value)
abbrev vPa:=Value->St->Prop
abbrev lVa:=List Value
abbrev oAa:=Option Addr
def kZ (R:Nat->Rec) (c:Code) (p:List Nat) (K:Exit->Fr->St->List Ans->Prop) (e:Exit) (n:Nat) (l:List (Nat × Value)) (Z:St):Prop:=∀ g:Nat->Value,∃ an,Hid (kAt Tryz.prog R none c p K e ⟨Fm n (ov l g),[]⟩ Z an)
end Go.Proofs.YtgfiniccfpfplaaGreat
