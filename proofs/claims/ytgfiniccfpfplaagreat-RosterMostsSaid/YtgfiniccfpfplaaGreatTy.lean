
import Derived.Test.YtgfiniccfpfplaaGreatOk
import Derived.Test.YtgfiniccfpfplaaGreatLayC
namespace Go.Proofs.YtgfiniccfpfplaaGreat
open Go Go.Lay
@[simp,reducible] def zN (x0 x1 x2 x3:Int):List Value:=[.int .i64 x0,.int .i64 x1,.int .i64 x2,.int .i64 x3]
@[simp,reducible] def zF (x0 x1 x2 x3 x4:Int):List Value:=[.int .i64 x0,.int .i64 x1,.int .i64 x2,.int .i64 x3,.int .i64 x4]
@[simp,reducible] def zL (x0 x1 x2 x3 x4 x5:Int):List Value:=[.int .i64 x0,.int .i64 x1,.int .i64 x2,.int .i64 x3,.int .i64 x4,.int .i64 x5]
@[simp,reducible] def ints7 (x0 x1 x2 x3 x4 x5 x6:Int):List Value:=[.int .i64 x0,.int .i64 x1,.int .i64 x2,.int .i64 x3,.int .i64 x4,.int .i64 x5,.int .i64 x6]
@[simp,reducible] def ints8 (x0 x1 x2 x3 x4 x5 x6 x7:Int):List Value:=[.int .i64 x0,.int .i64 x1,.int .i64 x2,.int .i64 x3,.int .i64 x4,.int .i64 x5,.int .i64 x6,.int .i64 x7]
@[simp,reducible] def ints9 (x0 x1 x2 x3 x4 x5 x6 x7 x8:Int):List Value:=[.int .i64 x0,.int .i64 x1,.int .i64 x2,.int .i64 x3,.int .i64 x4,.int .i64 x5,.int .i64 x6,.int .i64 x7,.int .i64 x8]
@[simp,reducible] def ints10 (x0 x1 x2 x3 x4 x5 x6 x7 x8 x9:Int):List Value:=[.int .i64 x0,.int .i64 x1,.int .i64 x2,.int .i64 x3,.int .i64 x4,.int .i64 x5,.int .i64 x6,.int .i64 x7,.int .i64 x8,.int .i64 x9]
@[simp,reducible] def ints11 (x0 x1 x2 x3 x4 x5 x6 x7 x8 x9 x10:Int):List Value:=[.int .i64 x0,.int .i64 x1,.int .i64 x2,.int .i64 x3,.int .i64 x4,.int .i64 x5,.int .i64 x6,.int .i64 x7,.int .i64 x8,.int .i64 x9,.int .i64 x10]
@[simp,reducible] def ints12 (x0 x1 x2 x3 x4 x5 x6 x7 x8 x9 x10 x11:Int):List Value:=[.int .i64 x0,.int .i64 x1,.int .i64 x2,.int .i64 x3,.int .i64 x4,.int .i64 x5,.int .i64 x6,.int .i64 x7,.int .i64 x8,.int .i64 x9,.int .i64 x10,.int .i64 x11]
@[simp,reducible] def ints15 (x0 x1 x2 x3 x4 x5 x6 x7 x8 x9 x10 x11 x12 x13 x14:Int):List Value:=[.int .i64 x0,.int .i64 x1,.int .i64 x2,.int .i64 x3,.int .i64 x4,.int .i64 x5,.int .i64 x6,.int .i64 x7,.int .i64 x8,.int .i64 x9,.int .i64 x10,.int .i64 x11,.int .i64 x12,.int .i64 x13,.int .i64 x14]
@[simp,reducible] def ints24 (x0 x1 x2 x3 x4 x5 x6 x7 x8 x9 x10 x11 x12 x13 x14 x15 x16 x17 x18 x19 x20 x21 x22 x23:Int):List Value:=[.int .i64 x0,.int .i64 x1,.int .i64 x2,.int .i64 x3,.int .i64 x4,.int .i64 x5,.int .i64 x6,.int .i64 x7,.int .i64 x8,.int .i64 x9,.int .i64 x10,.int .i64 x11,.int .i64 x12,.int .i64 x13,.int .i64 x14,.int .i64 x15,.int .i64 x16,.int .i64 x17,.int .i64 x18,.int .i64 x19,.int .i64 x20,.int .i64 x21,.int .i64 x22,.int .i64 x23]
@[simp,reducible] def ints25 (x0 x1 x2 x3 x4 x5 x6 x7 x8 x9 x10 x11 x12 x13 x14 x15 x16 x17 x18 x19 x20 x21 x22 x23 x24:Int):List Value:=[.int .i64 x0,.int .i64 x1,.int .i64 x2,.int .i64 x3,.int .i64 x4,.int .i64 x5,.int .i64 x6,.int .i64 x7,.int .i64 x8,.int .i64 x9,.int .i64 x10,.int .i64 x11,.int .i64 x12,.int .i64 x13,.int .i64 x14,.int .i64 x15,.int .i64 x16,.int .i64 x17,.int .i64 x18,.int .i64 x19,.int .i64 x20,.int .i64 x21,.int .i64 x22,.int .i64 x23,.int .i64 x24]
@[simp,reducible] def rcd (k a b:Int):List Value:=[.int .u8 k,.int .i64 a,.int .i64 b]
@[simp,reducible] def zK (p:Option Addr) (l c:Nat) (q:Option Addr) (m d:Nat) (r:Option Addr) (n e:Nat) (x y z:Int):List Value:=[.slice p l c,.slice q m d,.slice r n e,.int .i64 x,.int .i64 y,.int .i64 z]
@[simp,reducible] def wkc (a:Int) (p:Option Addr) (l c:Nat) (q:Option Addr) (m d:Nat) (x y z:Int):List Value:=[.int .i64 a,.slice p l c,.slice q m d,.int .i64 x,.int .i64 y,.int .i64 z]
abbrev Ix (i:Int) (n:Nat):Prop:=0≤i∧i<(n:Int)
abbrev I6 (n:Int):Prop:=-9223372036854775808≤n∧n≤9223372036854775807
theorem nlt (n i j:Nat) (h:Nat.blt i j=true):n+i<n+j:=Nat.add_lt_add_left (Nat.le_of_ble_eq_true h) n
theorem xL {b n:Nat} (h:b<n) (j:Nat):b<n+j:=Nat.lt_of_lt_of_le h (Nat.le_add_right n j)
theorem nle {a b:Nat} (h:Nat.ble a b=true):a≤b:=Nat.le_of_ble_eq_true h
theorem nne (n i j:Nat) (h:Nat.beq i j=false):n+i≠n+j:=fun e=>by rw [Nat.add_left_cancel e,Nat.beq_refl] at h;cases h
theorem zOQ {n l c:Nat} {p:Option Addr} (h:∀ a,p=some a→a.block<n) (j:Nat):yT RD (n+j) (.slice p l c)=true:=yP fun a e=>xL (h a e) j
theorem w64 {n:Int} (h:-9223372036854775808≤n∧n≤9223372036854775807):zNB .i64 n=n:=wrap64 h.1 h.2
theorem an2 {A0 A1 A2:Prop} (a0:A0) (a1:A1) (a2:A2):A0∧A1∧A2:=⟨a0,a1,a2⟩
theorem an3 {A0 A1 A2 A3:Prop} (a0:A0) (a1:A1) (a2:A2) (a3:A3):A0∧A1∧A2∧A3:=⟨a0,a1,a2,a3⟩
theorem an4 {A0 A1 A2 A3 A4:Prop} (a0:A0) (a1:A1) (a2:A2) (a3:A3) (a4:A4):A0∧A1∧A2∧A3∧A4:=⟨a0,a1,a2,a3,a4⟩
theorem an5 {A0 A1 A2 A3 A4 A5:Prop} (a0:A0) (a1:A1) (a2:A2) (a3:A3) (a4:A4) (a5:A5):A0∧A1∧A2∧A3∧A4∧A5:=⟨a0,a1,a2,a3,a4,a5⟩
theorem an6 {A0 A1 A2 A3 A4 A5 A6:Prop} (a0:A0) (a1:A1) (a2:A2) (a3:A3) (a4:A4) (a5:A5) (a6:A6):A0∧A1∧A2∧A3∧A4∧A5∧A6:=⟨a0,a1,a2,a3,a4,a5,a6⟩
theorem zR:vK Tryz.prog 3=some false:=by kernel_rfl
theorem zAF:yX Tryz.prog 3=some 1:=by kernel_rfl
theorem yUT:vK Tryz.prog 4=some false:=by kernel_rfl
theorem wR:vK Tryz.prog 22=some false:=by kernel_rfl
theorem uN:vK Tryz.prog 23=some false:=by kernel_rfl
theorem wH:vK Tryz.prog 25=some true:=by kernel_rfl
theorem xI:yX Tryz.prog 25=some 6:=by kernel_rfl
theorem yV:vK Tryz.prog 26=some false:=by kernel_rfl
theorem yKV:yX Tryz.prog 26=some 1:=by kernel_rfl
theorem zEP:vK Tryz.prog 31=some false:=by kernel_rfl
theorem size31:yX Tryz.prog 31=some 1:=by kernel_rfl
theorem zEJ:vK Tryz.prog 32=some false:=by kernel_rfl
theorem size32:yX Tryz.prog 32=some 1:=by kernel_rfl
theorem zEO:vK Tryz.prog 34=some true:=by kernel_rfl
theorem zAI:yX Tryz.prog 34=some 6:=by kernel_rfl
theorem agg36:vK Tryz.prog 36=some false:=by kernel_rfl
theorem size36:yX Tryz.prog 36=some 1:=by kernel_rfl
theorem agg45:vK Tryz.prog 45=some true:=by kernel_rfl
theorem size45:yX Tryz.prog 45=some 3:=by kernel_rfl
theorem agg46:vK Tryz.prog 46=some true:=by kernel_rfl
theorem size46:yX Tryz.prog 46=some 3:=by kernel_rfl
theorem yBJ:vK Tryz.prog 76=some true:=by kernel_rfl
theorem uI:yX Tryz.prog 76=some 6:=by kernel_rfl
theorem zTF:vK Tryz.prog 85=some true:=by kernel_rfl
theorem zDB:yX Tryz.prog 85=some 5:=by kernel_rfl
theorem agg86:vK Tryz.prog 86=some false:=by kernel_rfl
theorem yJW:vK Tryz.prog 88=some true:=by kernel_rfl
theorem zQW:yX Tryz.prog 88=some 6:=by kernel_rfl
theorem agg89:vK Tryz.prog 89=some false:=by kernel_rfl
theorem agg92:vK Tryz.prog 92=some true:=by kernel_rfl
theorem zGT:yX Tryz.prog 92=some 5:=by kernel_rfl
theorem zEN:vK Tryz.prog 98=some true:=by kernel_rfl
theorem wS:yX Tryz.prog 98=some 6:=by kernel_rfl
theorem agg99:vK Tryz.prog 99=some false:=by kernel_rfl
theorem uO:vK Tryz.prog 107=some true:=by kernel_rfl
theorem xC:yX Tryz.prog 107=some 4:=by kernel_rfl
theorem agg109:vK Tryz.prog 109=some true:=by kernel_rfl
theorem yBZ:yX Tryz.prog 109=some 24:=by kernel_rfl
theorem agg116:vK Tryz.prog 116=some false:=by kernel_rfl
theorem zOR:vK Tryz.prog 118=some true:=by kernel_rfl
theorem zIM:yX Tryz.prog 118=some 2:=by kernel_rfl
theorem zAV:vK Tryz.prog 125=some false:=by kernel_rfl
theorem agg126:vK Tryz.prog 126=some false:=by kernel_rfl
theorem yEH:vK Tryz.prog 130=some true:=by kernel_rfl
theorem uX:yX Tryz.prog 130=some 8:=by kernel_rfl
theorem agg133:vK Tryz.prog 133=some true:=by kernel_rfl
theorem size133:yX Tryz.prog 133=some 25:=by kernel_rfl
theorem agg143:vK Tryz.prog 143=some false:=by kernel_rfl
theorem size143:yX Tryz.prog 143=some 1:=by kernel_rfl
theorem agg144:vK Tryz.prog 144=some false:=by kernel_rfl
theorem size144:yX Tryz.prog 144=some 1:=by kernel_rfl
theorem agg164:vK Tryz.prog 164=some false:=by kernel_rfl
theorem ai {a b:Prop} (h:a) (k:b):a∧b:=And.intro h k
abbrev iV (n:Int):Value:=.int .i64 n
abbrev I6a (n:Int):Prop:=-9223372036854775808≤n∧n≤9223372036854775807
end Go.Proofs.YtgfiniccfpfplaaGreat
