
import Derived.Test.YtmdopblmkkameaaOk
import Derived.Test.YtmdopblmkkameaaLayC
namespace Go.Proofs.Ytmdopblmkkameaa
open Go Go.Lay
@[simp, reducible] def ints4 (x0 x1 x2 x3 : Int) : List Value := [.int .i64 x0, .int .i64 x1, .int .i64 x2, .int .i64 x3]
@[simp, reducible] def ints5 (x0 x1 x2 x3 x4 : Int) : List Value := [.int .i64 x0, .int .i64 x1, .int .i64 x2, .int .i64 x3, .int .i64 x4]
@[simp, reducible] def zA (x0 x1 x2 x3 x4 x5 : Int) : List Value := [.int .i64 x0, .int .i64 x1, .int .i64 x2, .int .i64 x3, .int .i64 x4, .int .i64 x5]
@[simp, reducible] def ints7 (x0 x1 x2 x3 x4 x5 x6 : Int) : List Value := [.int .i64 x0, .int .i64 x1, .int .i64 x2, .int .i64 x3, .int .i64 x4, .int .i64 x5, .int .i64 x6]
@[simp, reducible] def ints8 (x0 x1 x2 x3 x4 x5 x6 x7 : Int) : List Value := [.int .i64 x0, .int .i64 x1, .int .i64 x2, .int .i64 x3, .int .i64 x4, .int .i64 x5, .int .i64 x6, .int .i64 x7]
@[simp, reducible] def ints9 (x0 x1 x2 x3 x4 x5 x6 x7 x8 : Int) : List Value := [.int .i64 x0, .int .i64 x1, .int .i64 x2, .int .i64 x3, .int .i64 x4, .int .i64 x5, .int .i64 x6, .int .i64 x7, .int .i64 x8]
@[simp, reducible] def ints10 (x0 x1 x2 x3 x4 x5 x6 x7 x8 x9 : Int) : List Value := [.int .i64 x0, .int .i64 x1, .int .i64 x2, .int .i64 x3, .int .i64 x4, .int .i64 x5, .int .i64 x6, .int .i64 x7, .int .i64 x8, .int .i64 x9]
@[simp, reducible] def ints11 (x0 x1 x2 x3 x4 x5 x6 x7 x8 x9 x10 : Int) : List Value := [.int .i64 x0, .int .i64 x1, .int .i64 x2, .int .i64 x3, .int .i64 x4, .int .i64 x5, .int .i64 x6, .int .i64 x7, .int .i64 x8, .int .i64 x9, .int .i64 x10]
@[simp, reducible] def ints12 (x0 x1 x2 x3 x4 x5 x6 x7 x8 x9 x10 x11 : Int) : List Value := [.int .i64 x0, .int .i64 x1, .int .i64 x2, .int .i64 x3, .int .i64 x4, .int .i64 x5, .int .i64 x6, .int .i64 x7, .int .i64 x8, .int .i64 x9, .int .i64 x10, .int .i64 x11]
@[simp, reducible] def ints15 (x0 x1 x2 x3 x4 x5 x6 x7 x8 x9 x10 x11 x12 x13 x14 : Int) : List Value := [.int .i64 x0, .int .i64 x1, .int .i64 x2, .int .i64 x3, .int .i64 x4, .int .i64 x5, .int .i64 x6, .int .i64 x7, .int .i64 x8, .int .i64 x9, .int .i64 x10, .int .i64 x11, .int .i64 x12, .int .i64 x13, .int .i64 x14]
theorem yD : zBB Try.prog 3 = some false := by kernel_rfl
theorem size3 : xE Try.prog 3 = some 1 := by kernel_rfl
theorem agg4 : zBB Try.prog 4 = some false := by kernel_rfl
theorem size4 : xE Try.prog 4 = some 1 := by kernel_rfl
theorem zAN : zBB Try.prog 22 = some false := by kernel_rfl
theorem size22 : xE Try.prog 22 = some 1 := by kernel_rfl
theorem wE : zBB Try.prog 23 = some false := by kernel_rfl
theorem wT : zBB Try.prog 25 = some true := by kernel_rfl
theorem xJ : xE Try.prog 25 = some 4 := by kernel_rfl
theorem zEB : zBB Try.prog 32 = some false := by kernel_rfl
theorem size32 : xE Try.prog 32 = some 1 := by kernel_rfl
theorem wB : zBB Try.prog 34 = some true := by kernel_rfl
theorem yY : xE Try.prog 34 = some 4 := by kernel_rfl
theorem zBU : zBB Try.prog 41 = some false := by kernel_rfl
theorem agg46 : zBB Try.prog 46 = some false := by kernel_rfl
theorem agg53 : zBB Try.prog 53 = some true := by kernel_rfl
theorem zAL : xE Try.prog 53 = some 6 := by kernel_rfl
theorem zCP : zBB Try.prog 79 = some true := by kernel_rfl
theorem vQ : xE Try.prog 79 = some 6 := by kernel_rfl
theorem agg81 : zBB Try.prog 81 = some false := by kernel_rfl
theorem size81 : xE Try.prog 81 = some 1 := by kernel_rfl
theorem agg84 : zBB Try.prog 84 = some true := by kernel_rfl
theorem size84 : xE Try.prog 84 = some 12 := by kernel_rfl
theorem agg93 : zBB Try.prog 93 = some false := by kernel_rfl
theorem size93 : xE Try.prog 93 = some 1 := by kernel_rfl
theorem agg103 : zBB Try.prog 103 = some false := by kernel_rfl
theorem agg108 : zBB Try.prog 108 = some false := by kernel_rfl
theorem size108 : xE Try.prog 108 = some 1 := by kernel_rfl
theorem agg114 : zBB Try.prog 114 = some false := by kernel_rfl
theorem ai {a b : Prop} (h : a) (k : b) : a ∧ b := And.intro h k
abbrev iV (n : Int) : Value := .int .i64 n
@[simp, reducible] def tQ (a b : Int) (p : Option Addr) (l c : Nat) (q : Option Addr) (m d : Nat) : List Value := [iV a, iV b, .slice p l c, .slice q m d]
end Go.Proofs.Ytmdopblmkkameaa
