
import Derived.Test.YtffgfojabcbegaaOk
import Derived.Test.YtffgfojabcbegaaLayC
namespace Go.Proofs.Ytffgfojabcbegaa
open Go Go.Lay
@[simp, reducible] def ints4 (x0 x1 x2 x3 : Int) : List Value := [.int .i64 x0, .int .i64 x1, .int .i64 x2, .int .i64 x3]
@[simp, reducible] def zQ (x0 x1 x2 x3 x4 : Int) : List Value := [.int .i64 x0, .int .i64 x1, .int .i64 x2, .int .i64 x3, .int .i64 x4]
@[simp, reducible] def ints6 (x0 x1 x2 x3 x4 x5 : Int) : List Value := [.int .i64 x0, .int .i64 x1, .int .i64 x2, .int .i64 x3, .int .i64 x4, .int .i64 x5]
@[simp, reducible] def ints7 (x0 x1 x2 x3 x4 x5 x6 : Int) : List Value := [.int .i64 x0, .int .i64 x1, .int .i64 x2, .int .i64 x3, .int .i64 x4, .int .i64 x5, .int .i64 x6]
@[simp, reducible] def ints8 (x0 x1 x2 x3 x4 x5 x6 x7 : Int) : List Value := [.int .i64 x0, .int .i64 x1, .int .i64 x2, .int .i64 x3, .int .i64 x4, .int .i64 x5, .int .i64 x6, .int .i64 x7]
@[simp, reducible] def ints9 (x0 x1 x2 x3 x4 x5 x6 x7 x8 : Int) : List Value := [.int .i64 x0, .int .i64 x1, .int .i64 x2, .int .i64 x3, .int .i64 x4, .int .i64 x5, .int .i64 x6, .int .i64 x7, .int .i64 x8]
@[simp, reducible] def ints10 (x0 x1 x2 x3 x4 x5 x6 x7 x8 x9 : Int) : List Value := [.int .i64 x0, .int .i64 x1, .int .i64 x2, .int .i64 x3, .int .i64 x4, .int .i64 x5, .int .i64 x6, .int .i64 x7, .int .i64 x8, .int .i64 x9]
@[simp, reducible] def ints11 (x0 x1 x2 x3 x4 x5 x6 x7 x8 x9 x10 : Int) : List Value := [.int .i64 x0, .int .i64 x1, .int .i64 x2, .int .i64 x3, .int .i64 x4, .int .i64 x5, .int .i64 x6, .int .i64 x7, .int .i64 x8, .int .i64 x9, .int .i64 x10]
@[simp, reducible] def ints12 (x0 x1 x2 x3 x4 x5 x6 x7 x8 x9 x10 x11 : Int) : List Value := [.int .i64 x0, .int .i64 x1, .int .i64 x2, .int .i64 x3, .int .i64 x4, .int .i64 x5, .int .i64 x6, .int .i64 x7, .int .i64 x8, .int .i64 x9, .int .i64 x10, .int .i64 x11]
@[simp, reducible] def ints15 (x0 x1 x2 x3 x4 x5 x6 x7 x8 x9 x10 x11 x12 x13 x14 : Int) : List Value := [.int .i64 x0, .int .i64 x1, .int .i64 x2, .int .i64 x3, .int .i64 x4, .int .i64 x5, .int .i64 x6, .int .i64 x7, .int .i64 x8, .int .i64 x9, .int .i64 x10, .int .i64 x11, .int .i64 x12, .int .i64 x13, .int .i64 x14]
@[simp, reducible] def rcd (m s t k a b : Int) : List Value := [.int .i64 m, .int .i64 s, .int .i64 t, .int .u8 k, .int .i64 a, .int .i64 b]
@[simp, reducible] def yI (m s t k a b m1 s1 t1 k1 a1 b1 : Int) (p : Option Addr) (l c : Nat) : List Value := [.int .i64 m, .int .i64 s, .int .i64 t, .int .u8 k, .int .i64 a, .int .i64 b, .int .i64 m1, .int .i64 s1, .int .i64 t1, .int .u8 k1, .int .i64 a1, .int .i64 b1, .slice p l c]
theorem zP : zCC Try.prog 3 = some false := by kernel_rfl
theorem yWE : xA Try.prog 3 = some 1 := by kernel_rfl
theorem zDV : zCC Try.prog 5 = some false := by kernel_rfl
theorem agg22 : zCC Try.prog 22 = some false := by kernel_rfl
theorem agg25 : zCC Try.prog 25 = some false := by kernel_rfl
theorem yJV : xA Try.prog 25 = some 1 := by kernel_rfl
theorem zPB : zCC Try.prog 28 = some false := by kernel_rfl
theorem size28 : xA Try.prog 28 = some 1 := by kernel_rfl
theorem yIU : zCC Try.prog 35 = some false := by kernel_rfl
theorem yAT : xA Try.prog 35 = some 1 := by kernel_rfl
theorem yIT : zCC Try.prog 52 = some true := by kernel_rfl
theorem zEN : xA Try.prog 52 = some 2 := by kernel_rfl
theorem zGJ : zCC Try.prog 59 = some true := by kernel_rfl
theorem uT : xA Try.prog 59 = some 6 := by kernel_rfl
theorem yRA : zCC Try.prog 70 = some true := by kernel_rfl
theorem zIW : xA Try.prog 70 = some 5 := by kernel_rfl
theorem zAT : zCC Try.prog 79 = some true := by kernel_rfl
theorem yH : xA Try.prog 79 = some 6 := by kernel_rfl
theorem agg93 : zCC Try.prog 93 = some true := by kernel_rfl
theorem zNV : xA Try.prog 93 = some 13 := by kernel_rfl
theorem agg103 : zCC Try.prog 103 = some false := by kernel_rfl
theorem zWJ : zCC Try.prog 105 = some false := by kernel_rfl
theorem yDT : zCC Try.prog 110 = some true := by kernel_rfl
theorem zIX : xA Try.prog 110 = some 2 := by kernel_rfl
theorem yDS : zCC Try.prog 145 = some false := by kernel_rfl
theorem zSO : xA Try.prog 145 = some 1 := by kernel_rfl
theorem ai {a b : Prop} (h : a) (k : b) : a ∧ b := And.intro h k
abbrev iV (n : Int) : Value := .int .i64 n
end Go.Proofs.Ytffgfojabcbegaa
