
import Derived.Test.YtffgfojabcbegaaOk
import Derived.Test.YtffgfojabcbegaaLayC
namespace Go.Proofs.Ytffgfojabcbegaa
open Go Go.Lay
@[simp, reducible] def ints4 (x0 x1 x2 x3 : Int) : List Value := [.int .i64 x0, .int .i64 x1, .int .i64 x2, .int .i64 x3]
@[simp, reducible] def zI (x0 x1 x2 x3 x4 : Int) : List Value := [.int .i64 x0, .int .i64 x1, .int .i64 x2, .int .i64 x3, .int .i64 x4]
@[simp, reducible] def ints6 (x0 x1 x2 x3 x4 x5 : Int) : List Value := [.int .i64 x0, .int .i64 x1, .int .i64 x2, .int .i64 x3, .int .i64 x4, .int .i64 x5]
@[simp, reducible] def ints7 (x0 x1 x2 x3 x4 x5 x6 : Int) : List Value := [.int .i64 x0, .int .i64 x1, .int .i64 x2, .int .i64 x3, .int .i64 x4, .int .i64 x5, .int .i64 x6]
@[simp, reducible] def ints8 (x0 x1 x2 x3 x4 x5 x6 x7 : Int) : List Value := [.int .i64 x0, .int .i64 x1, .int .i64 x2, .int .i64 x3, .int .i64 x4, .int .i64 x5, .int .i64 x6, .int .i64 x7]
@[simp, reducible] def ints9 (x0 x1 x2 x3 x4 x5 x6 x7 x8 : Int) : List Value := [.int .i64 x0, .int .i64 x1, .int .i64 x2, .int .i64 x3, .int .i64 x4, .int .i64 x5, .int .i64 x6, .int .i64 x7, .int .i64 x8]
@[simp, reducible] def ints10 (x0 x1 x2 x3 x4 x5 x6 x7 x8 x9 : Int) : List Value := [.int .i64 x0, .int .i64 x1, .int .i64 x2, .int .i64 x3, .int .i64 x4, .int .i64 x5, .int .i64 x6, .int .i64 x7, .int .i64 x8, .int .i64 x9]
@[simp, reducible] def ints11 (x0 x1 x2 x3 x4 x5 x6 x7 x8 x9 x10 : Int) : List Value := [.int .i64 x0, .int .i64 x1, .int .i64 x2, .int .i64 x3, .int .i64 x4, .int .i64 x5, .int .i64 x6, .int .i64 x7, .int .i64 x8, .int .i64 x9, .int .i64 x10]
@[simp, reducible] def ints12 (x0 x1 x2 x3 x4 x5 x6 x7 x8 x9 x10 x11 : Int) : List Value := [.int .i64 x0, .int .i64 x1, .int .i64 x2, .int .i64 x3, .int .i64 x4, .int .i64 x5, .int .i64 x6, .int .i64 x7, .int .i64 x8, .int .i64 x9, .int .i64 x10, .int .i64 x11]
@[simp, reducible] def ints15 (x0 x1 x2 x3 x4 x5 x6 x7 x8 x9 x10 x11 x12 x13 x14 : Int) : List Value := [.int .i64 x0, .int .i64 x1, .int .i64 x2, .int .i64 x3, .int .i64 x4, .int .i64 x5, .int .i64 x6, .int .i64 x7, .int .i64 x8, .int .i64 x9, .int .i64 x10, .int .i64 x11, .int .i64 x12, .int .i64 x13, .int .i64 x14]
@[simp, reducible] def rcd (m s t k a b : Int) : List Value := [.int .i64 m, .int .i64 s, .int .i64 t, .int .u8 k, .int .i64 a, .int .i64 b]
@[simp, reducible] def yQ (m s t k a b m1 s1 t1 k1 a1 b1 : Int) (p : Option Addr) (l c : Nat) : List Value := [.int .i64 m, .int .i64 s, .int .i64 t, .int .u8 k, .int .i64 a, .int .i64 b, .int .i64 m1, .int .i64 s1, .int .i64 t1, .int .u8 k1, .int .i64 a1, .int .i64 b1, .slice p l c]
theorem zP : zCE Try.prog 3 = some false := by kernel_rfl
theorem zQQ : xI Try.prog 3 = some 1 := by kernel_rfl
theorem zAB : zCE Try.prog 5 = some false := by kernel_rfl
theorem agg22 : zCE Try.prog 22 = some false := by kernel_rfl
theorem agg25 : zCE Try.prog 25 = some false := by kernel_rfl
theorem yJZ : xI Try.prog 25 = some 1 := by kernel_rfl
theorem yAQ : zCE Try.prog 28 = some false := by kernel_rfl
theorem size28 : xI Try.prog 28 = some 1 := by kernel_rfl
theorem yJH : zCE Try.prog 35 = some false := by kernel_rfl
theorem yBE : xI Try.prog 35 = some 1 := by kernel_rfl
theorem agg57 : zCE Try.prog 57 = some true := by kernel_rfl
theorem zKO : xI Try.prog 57 = some 5 := by kernel_rfl
theorem zCT : zCE Try.prog 59 = some true := by kernel_rfl
theorem xP : xI Try.prog 59 = some 6 := by kernel_rfl
theorem yRR : zCE Try.prog 70 = some true := by kernel_rfl
theorem zHB : xI Try.prog 70 = some 5 := by kernel_rfl
theorem zDE : zCE Try.prog 79 = some true := by kernel_rfl
theorem xC : xI Try.prog 79 = some 6 := by kernel_rfl
theorem agg93 : zCE Try.prog 93 = some true := by kernel_rfl
theorem zOA : xI Try.prog 93 = some 13 := by kernel_rfl
theorem agg103 : zCE Try.prog 103 = some false := by kernel_rfl
theorem zWV : zCE Try.prog 105 = some false := by kernel_rfl
theorem yEC : zCE Try.prog 110 = some true := by kernel_rfl
theorem zJE : xI Try.prog 110 = some 2 := by kernel_rfl
theorem yEB : zCE Try.prog 145 = some false := by kernel_rfl
theorem zSN : xI Try.prog 145 = some 1 := by kernel_rfl
theorem ai {a b : Prop} (h : a) (k : b) : a ∧ b := And.intro h k
abbrev iV (n : Int) : Value := .int .i64 n
abbrev I6 (n : Int) : Prop := -9223372036854775808 ≤ n ∧ n ≤ 9223372036854775807
end Go.Proofs.Ytffgfojabcbegaa
