
import Derived.Test.YthcdddbghldmiaaOk
import Derived.Test.YthcdddbghldmiaaLayC
namespace Go.Proofs.Ythcdddbghldmiaa
open Go Go.Lay
@[simp, reducible] def ints4 (x0 x1 x2 x3 : Int) : List Value := [.int .i64 x0, .int .i64 x1, .int .i64 x2, .int .i64 x3]
@[simp, reducible] def ints5 (x0 x1 x2 x3 x4 : Int) : List Value := [.int .i64 x0, .int .i64 x1, .int .i64 x2, .int .i64 x3, .int .i64 x4]
@[simp, reducible] def ints6 (x0 x1 x2 x3 x4 x5 : Int) : List Value := [.int .i64 x0, .int .i64 x1, .int .i64 x2, .int .i64 x3, .int .i64 x4, .int .i64 x5]
@[simp, reducible] def ints7 (x0 x1 x2 x3 x4 x5 x6 : Int) : List Value := [.int .i64 x0, .int .i64 x1, .int .i64 x2, .int .i64 x3, .int .i64 x4, .int .i64 x5, .int .i64 x6]
@[simp, reducible] def ints8 (x0 x1 x2 x3 x4 x5 x6 x7 : Int) : List Value := [.int .i64 x0, .int .i64 x1, .int .i64 x2, .int .i64 x3, .int .i64 x4, .int .i64 x5, .int .i64 x6, .int .i64 x7]
@[simp, reducible] def ints9 (x0 x1 x2 x3 x4 x5 x6 x7 x8 : Int) : List Value := [.int .i64 x0, .int .i64 x1, .int .i64 x2, .int .i64 x3, .int .i64 x4, .int .i64 x5, .int .i64 x6, .int .i64 x7, .int .i64 x8]
@[simp, reducible] def ints10 (x0 x1 x2 x3 x4 x5 x6 x7 x8 x9 : Int) : List Value := [.int .i64 x0, .int .i64 x1, .int .i64 x2, .int .i64 x3, .int .i64 x4, .int .i64 x5, .int .i64 x6, .int .i64 x7, .int .i64 x8, .int .i64 x9]
@[simp, reducible] def ints11 (x0 x1 x2 x3 x4 x5 x6 x7 x8 x9 x10 : Int) : List Value := [.int .i64 x0, .int .i64 x1, .int .i64 x2, .int .i64 x3, .int .i64 x4, .int .i64 x5, .int .i64 x6, .int .i64 x7, .int .i64 x8, .int .i64 x9, .int .i64 x10]
@[simp, reducible] def ints12 (x0 x1 x2 x3 x4 x5 x6 x7 x8 x9 x10 x11 : Int) : List Value := [.int .i64 x0, .int .i64 x1, .int .i64 x2, .int .i64 x3, .int .i64 x4, .int .i64 x5, .int .i64 x6, .int .i64 x7, .int .i64 x8, .int .i64 x9, .int .i64 x10, .int .i64 x11]
theorem agg3 : aggT Try.prog 3 = some false := by kernel_rfl
theorem size3 : sizeT Try.prog 3 = some 1 := by kernel_rfl
theorem agg7 : aggT Try.prog 7 = some true := by kernel_rfl
theorem size7 : sizeT Try.prog 7 = some 4 := by kernel_rfl
theorem agg8 : aggT Try.prog 8 = some true := by kernel_rfl
theorem size8 : sizeT Try.prog 8 = some 4 := by kernel_rfl
theorem agg13 : aggT Try.prog 13 = some true := by kernel_rfl
theorem size13 : sizeT Try.prog 13 = some 2 := by kernel_rfl
theorem agg14 : aggT Try.prog 14 = some true := by kernel_rfl
theorem size14 : sizeT Try.prog 14 = some 2 := by kernel_rfl
theorem agg18 : aggT Try.prog 18 = some true := by kernel_rfl
theorem size18 : sizeT Try.prog 18 = some 1 := by kernel_rfl
theorem agg19 : aggT Try.prog 19 = some true := by kernel_rfl
theorem size19 : sizeT Try.prog 19 = some 1 := by kernel_rfl
theorem agg22 : aggT Try.prog 22 = some false := by kernel_rfl
theorem agg23 : aggT Try.prog 23 = some false := by kernel_rfl
theorem agg24 : aggT Try.prog 24 = some true := by kernel_rfl
theorem size24 : sizeT Try.prog 24 = some 2 := by kernel_rfl
theorem agg25 : aggT Try.prog 25 = some true := by kernel_rfl
theorem size25 : sizeT Try.prog 25 = some 2 := by kernel_rfl
theorem agg28 : aggT Try.prog 28 = some false := by kernel_rfl
theorem size28 : sizeT Try.prog 28 = some 1 := by kernel_rfl
theorem agg32 : aggT Try.prog 32 = some false := by kernel_rfl
theorem size32 : sizeT Try.prog 32 = some 1 := by kernel_rfl
theorem agg33 : aggT Try.prog 33 = some false := by kernel_rfl
theorem size33 : sizeT Try.prog 33 = some 1 := by kernel_rfl
theorem agg34 : aggT Try.prog 34 = some true := by kernel_rfl
theorem size34 : sizeT Try.prog 34 = some 2 := by kernel_rfl
theorem agg35 : aggT Try.prog 35 = some true := by kernel_rfl
theorem size35 : sizeT Try.prog 35 = some 2 := by kernel_rfl
theorem agg39 : aggT Try.prog 39 = some true := by kernel_rfl
theorem size39 : sizeT Try.prog 39 = some 5 := by kernel_rfl
theorem agg46 : aggT Try.prog 46 = some true := by kernel_rfl
theorem size46 : sizeT Try.prog 46 = some 2 := by kernel_rfl
theorem agg47 : aggT Try.prog 47 = some true := by kernel_rfl
theorem size47 : sizeT Try.prog 47 = some 2 := by kernel_rfl
theorem agg49 : aggT Try.prog 49 = some true := by kernel_rfl
theorem size49 : sizeT Try.prog 49 = some 2 := by kernel_rfl
theorem agg50 : aggT Try.prog 50 = some true := by kernel_rfl
theorem size50 : sizeT Try.prog 50 = some 2 := by kernel_rfl
theorem agg51 : aggT Try.prog 51 = some true := by kernel_rfl
theorem size51 : sizeT Try.prog 51 = some 9 := by kernel_rfl
theorem agg52 : aggT Try.prog 52 = some true := by kernel_rfl
theorem size52 : sizeT Try.prog 52 = some 9 := by kernel_rfl
theorem agg59 : aggT Try.prog 59 = some false := by kernel_rfl
theorem agg63 : aggT Try.prog 63 = some true := by kernel_rfl
theorem size63 : sizeT Try.prog 63 = some 2 := by kernel_rfl
theorem agg64 : aggT Try.prog 64 = some true := by kernel_rfl
theorem size64 : sizeT Try.prog 64 = some 2 := by kernel_rfl
theorem agg71 : aggT Try.prog 71 = some true := by kernel_rfl
theorem size71 : sizeT Try.prog 71 = some 2 := by kernel_rfl
theorem agg86 : aggT Try.prog 86 = some true := by kernel_rfl
theorem size86 : sizeT Try.prog 86 = some 2 := by kernel_rfl
theorem agg94 : aggT Try.prog 94 = some true := by kernel_rfl
theorem size94 : sizeT Try.prog 94 = some 2 := by kernel_rfl
theorem agg95 : aggT Try.prog 95 = some true := by kernel_rfl
theorem size95 : sizeT Try.prog 95 = some 2 := by kernel_rfl
theorem agg96 : aggT Try.prog 96 = some true := by kernel_rfl
theorem size96 : sizeT Try.prog 96 = some 9 := by kernel_rfl
theorem agg97 : aggT Try.prog 97 = some true := by kernel_rfl
theorem size97 : sizeT Try.prog 97 = some 9 := by kernel_rfl
theorem agg99 : aggT Try.prog 99 = some false := by kernel_rfl
theorem agg102 : aggT Try.prog 102 = some true := by kernel_rfl
theorem size102 : sizeT Try.prog 102 = some 12 := by kernel_rfl
theorem agg103 : aggT Try.prog 103 = some true := by kernel_rfl
theorem size103 : sizeT Try.prog 103 = some 12 := by kernel_rfl
theorem agg104 : aggT Try.prog 104 = some true := by kernel_rfl
theorem size104 : sizeT Try.prog 104 = some 15 := by kernel_rfl
theorem agg105 : aggT Try.prog 105 = some true := by kernel_rfl
theorem size105 : sizeT Try.prog 105 = some 15 := by kernel_rfl
theorem agg107 : aggT Try.prog 107 = some false := by kernel_rfl
theorem agg109 : aggT Try.prog 109 = some true := by kernel_rfl
theorem size109 : sizeT Try.prog 109 = some 1 := by kernel_rfl
theorem agg110 : aggT Try.prog 110 = some true := by kernel_rfl
theorem size110 : sizeT Try.prog 110 = some 1 := by kernel_rfl
theorem agg112 : aggT Try.prog 112 = some true := by kernel_rfl
theorem size112 : sizeT Try.prog 112 = some 6 := by kernel_rfl
theorem agg124 : aggT Try.prog 124 = some true := by kernel_rfl
theorem size124 : sizeT Try.prog 124 = some 2 := by kernel_rfl
theorem agg125 : aggT Try.prog 125 = some true := by kernel_rfl
theorem size125 : sizeT Try.prog 125 = some 2 := by kernel_rfl
theorem agg134 : aggT Try.prog 134 = some false := by kernel_rfl
theorem agg137 : aggT Try.prog 137 = some false := by kernel_rfl
theorem agg140 : aggT Try.prog 140 = some false := by kernel_rfl
theorem size140 : sizeT Try.prog 140 = some 1 := by kernel_rfl
theorem agg142 : aggT Try.prog 142 = some true := by kernel_rfl
theorem size142 : sizeT Try.prog 142 = some 6 := by kernel_rfl
theorem agg143 : aggT Try.prog 143 = some true := by kernel_rfl
theorem size143 : sizeT Try.prog 143 = some 6 := by kernel_rfl
theorem agg145 : aggT Try.prog 145 = some false := by kernel_rfl
theorem size145 : sizeT Try.prog 145 = some 1 := by kernel_rfl
theorem agg149 : aggT Try.prog 149 = some true := by kernel_rfl
theorem size149 : sizeT Try.prog 149 = some 4 := by kernel_rfl
theorem agg150 : aggT Try.prog 150 = some true := by kernel_rfl
theorem size150 : sizeT Try.prog 150 = some 4 := by kernel_rfl
theorem agg151 : aggT Try.prog 151 = some true := by kernel_rfl
theorem size151 : sizeT Try.prog 151 = some 0 := by kernel_rfl
theorem agg152 : aggT Try.prog 152 = some true := by kernel_rfl
theorem size152 : sizeT Try.prog 152 = some 0 := by kernel_rfl
theorem agg153 : aggT Try.prog 153 = some true := by kernel_rfl
theorem size153 : sizeT Try.prog 153 = some 0 := by kernel_rfl
theorem agg161 : aggT Try.prog 161 = some true := by kernel_rfl
theorem size161 : sizeT Try.prog 161 = some 11 := by kernel_rfl
theorem agg162 : aggT Try.prog 162 = some true := by kernel_rfl
theorem size162 : sizeT Try.prog 162 = some 11 := by kernel_rfl
theorem ai {a b : Prop} (h : a) (k : b) : a ∧ b := And.intro h k
abbrev iV (n : Int) : Value := .int .i64 n
end Go.Proofs.Ythcdddbghldmiaa
