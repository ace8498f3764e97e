
import Derived.Test.YthcdddbghldmiaaOk
import Derived.Test.YthcdddbghldmiaaLayC
namespace Go.Proofs.Ythcdddbghldmiaa
open Go Go.Lay
@[simp, reducible] def ints4 (x0 x1 x2 x3 : Int) : List Value := [.int .i64 x0, .int .i64 x1, .int .i64 x2, .int .i64 x3]
@[simp, reducible] def ints5 (x0 x1 x2 x3 x4 : Int) : List Value := [.int .i64 x0, .int .i64 x1, .int .i64 x2, .int .i64 x3, .int .i64 x4]
@[simp, reducible] def ints6 (x0 x1 x2 x3 x4 x5 : Int) : List Value := [.int .i64 x0, .int .i64 x1, .int .i64 x2, .int .i64 x3, .int .i64 x4, .int .i64 x5]
@[simp, reducible] def ints7 (x0 x1 x2 x3 x4 x5 x6 : Int) : List Value := [.int .i64 x0, .int .i64 x1, .int .i64 x2, .int .i64 x3, .int .i64 x4, .int .i64 x5, .int .i64 x6]
@[simp, reducible] def ints8 (x0 x1 x2 x3 x4 x5 x6 x7 : Int) : List Value := [.int .i64 x0, .int .i64 x1, .int .i64 x2, .int .i64 x3, .int .i64 x4, .int .i64 x5, .int .i64 x6, .int .i64 x7]
@[simp, reducible] def ints9 (x0 x1 x2 x3 x4 x5 x6 x7 x8 : Int) : List Value := [.int .i64 x0, .int .i64 x1, .int .i64 x2, .int .i64 x3, .int .i64 x4, .int .i64 x5, .int .i64 x6, .int .i64 x7, .int .i64 x8]
@[simp, reducible] def ints10 (x0 x1 x2 x3 x4 x5 x6 x7 x8 x9 : Int) : List Value := [.int .i64 x0, .int .i64 x1, .int .i64 x2, .int .i64 x3, .int .i64 x4, .int .i64 x5, .int .i64 x6, .int .i64 x7, .int .i64 x8, .int .i64 x9]
@[simp, reducible] def ints11 (x0 x1 x2 x3 x4 x5 x6 x7 x8 x9 x10 : Int) : List Value := [.int .i64 x0, .int .i64 x1, .int .i64 x2, .int .i64 x3, .int .i64 x4, .int .i64 x5, .int .i64 x6, .int .i64 x7, .int .i64 x8, .int .i64 x9, .int .i64 x10]
@[simp, reducible] def ints12 (x0 x1 x2 x3 x4 x5 x6 x7 x8 x9 x10 x11 : Int) : List Value := [.int .i64 x0, .int .i64 x1, .int .i64 x2, .int .i64 x3, .int .i64 x4, .int .i64 x5, .int .i64 x6, .int .i64 x7, .int .i64 x8, .int .i64 x9, .int .i64 x10, .int .i64 x11]
theorem agg3 : aggT Try.prog 3 = some false := by kernel_rfl
theorem size3 : sizeT Try.prog 3 = some 1 := by kernel_rfl
theorem agg22 : aggT Try.prog 22 = some false := by kernel_rfl
theorem agg23 : aggT Try.prog 23 = some false := by kernel_rfl
theorem agg25 : aggT Try.prog 25 = some true := by kernel_rfl
theorem size25 : sizeT Try.prog 25 = some 2 := by kernel_rfl
theorem agg28 : aggT Try.prog 28 = some false := by kernel_rfl
theorem size28 : sizeT Try.prog 28 = some 1 := by kernel_rfl
theorem agg32 : aggT Try.prog 32 = some false := by kernel_rfl
theorem size32 : sizeT Try.prog 32 = some 1 := by kernel_rfl
theorem agg33 : aggT Try.prog 33 = some false := by kernel_rfl
theorem size33 : sizeT Try.prog 33 = some 1 := by kernel_rfl
theorem agg35 : aggT Try.prog 35 = some true := by kernel_rfl
theorem size35 : sizeT Try.prog 35 = some 2 := by kernel_rfl
theorem agg39 : aggT Try.prog 39 = some true := by kernel_rfl
theorem size39 : sizeT Try.prog 39 = some 5 := by kernel_rfl
theorem agg47 : aggT Try.prog 47 = some true := by kernel_rfl
theorem size47 : sizeT Try.prog 47 = some 2 := by kernel_rfl
theorem agg50 : aggT Try.prog 50 = some true := by kernel_rfl
theorem size50 : sizeT Try.prog 50 = some 2 := by kernel_rfl
theorem agg52 : aggT Try.prog 52 = some true := by kernel_rfl
theorem size52 : sizeT Try.prog 52 = some 9 := by kernel_rfl
theorem agg59 : aggT Try.prog 59 = some false := by kernel_rfl
theorem agg94 : aggT Try.prog 94 = some true := by kernel_rfl
theorem size94 : sizeT Try.prog 94 = some 2 := by kernel_rfl
theorem agg95 : aggT Try.prog 95 = some true := by kernel_rfl
theorem size95 : sizeT Try.prog 95 = some 2 := by kernel_rfl
theorem agg97 : aggT Try.prog 97 = some true := by kernel_rfl
theorem size97 : sizeT Try.prog 97 = some 9 := by kernel_rfl
theorem agg99 : aggT Try.prog 99 = some false := by kernel_rfl
theorem agg112 : aggT Try.prog 112 = some true := by kernel_rfl
theorem size112 : sizeT Try.prog 112 = some 6 := by kernel_rfl
theorem agg117 : aggT Try.prog 117 = some false := by kernel_rfl
theorem size117 : sizeT Try.prog 117 = some 1 := by kernel_rfl
theorem agg125 : aggT Try.prog 125 = some true := by kernel_rfl
theorem size125 : sizeT Try.prog 125 = some 2 := by kernel_rfl
theorem agg134 : aggT Try.prog 134 = some false := by kernel_rfl
theorem agg137 : aggT Try.prog 137 = some false := by kernel_rfl
theorem agg140 : aggT Try.prog 140 = some false := by kernel_rfl
theorem size140 : sizeT Try.prog 140 = some 1 := by kernel_rfl
theorem agg143 : aggT Try.prog 143 = some true := by kernel_rfl
theorem size143 : sizeT Try.prog 143 = some 6 := by kernel_rfl
theorem agg145 : aggT Try.prog 145 = some false := by kernel_rfl
theorem size145 : sizeT Try.prog 145 = some 1 := by kernel_rfl
theorem ai {a b : Prop} (h : a) (k : b) : a ∧ b := And.intro h k
abbrev iV (n : Int) : Value := .int .i64 n
end Go.Proofs.Ythcdddbghldmiaa
