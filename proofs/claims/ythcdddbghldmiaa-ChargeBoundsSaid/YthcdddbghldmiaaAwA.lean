
import Derived.Test.YthcdddbghldmiaaOk
import Derived.Test.YthcdddbghldmiaaLayC
namespace Go.Proofs.Ythcdddbghldmiaa.Aw
open Go Go.Lay
set_option maxRecDepth 100000
def b1 : Blk := .cells [.int .i64 5, .int .i64 3, .int .i64 5, .int .i64 1, .int .i64 5, .int .i64 2] 2 [(0, 6)] 1 false
def b2 : Blk := .cells [.int .i64 0, .int .i64 2, .int .i64 4, .int .i64 20, .int .i64 2, .int .i64 6, .int .i64 9, .int .i64 8, .int .i64 10, .int .i64 1, .int .i64 3, .int .i64 3, .int .i64 20, .int .i64 2, .int .i64 5, .int .i64 5, .int .i64 4, .int .i64 6] 9 [(0, 18)] 1 false
def b3 : Blk := .cells [.int .i64 6, .int .i64 3] 1 [(1, 2), (0, 1)] 2 false
def b4 : Blk := .cells [.int .i64 2, .int .i64 4, .int .i64 0] 1 [(0, 3)] 1 false
def b5 : Blk := .cells [.slice (some ⟨16, 0, none⟩) 3 3, .slice (some ⟨19, 0, none⟩) 3 3] 1 [(1, 2), (0, 1)] 2 false
def b6 : Blk := .cells [.int .i64 0, .int .i64 1, .int .i64 2] 1 [(0, 3)] 1 false
def b7 : Blk := .cells [.int .i64 3, .int .i64 2] 1 [(0, 2)] 1 false
def b8 : Blk := .cells [.int .i64 0, .int .i64 1, .int .i64 0] 1 [(0, 3)] 1 false
def b9 : Blk := .cells [.int .i64 6, .int .i64 3] 1 [(0, 2)] 1 false
def s0 : St := ⟨.leaf, 0, 0⟩
def s1 : St := ⟨(ins .leaf [(1, b1), (2, b2)]), 3, 0⟩
def s2 : St := ⟨s1.heap, 3, 3⟩
def s3 : St := ⟨(ins s1.heap [(6, b3)]), 9, 3⟩
def s4 : St := ⟨s3.heap, 9, 9⟩
def s5 : St := ⟨(ins s3.heap [(10, b1), (11, b2)]), 12, 9⟩
def s6 : St := ⟨s5.heap, 12, 12⟩
def s7 : St := ⟨(ins s5.heap [(16, b4), (18, b5), (19, b6)]), 383, 12⟩
def s8 : St := ⟨s7.heap, 383, 383⟩
def s9 : St := ⟨(ins s7.heap [(384, b1), (385, b2)]), 386, 383⟩
def s10 : St := ⟨(ins .leaf [(16, b4), (18, b5), (19, b6), (384, b1), (385, b2)]), 386, 386⟩
def s11 : St := ⟨s9.heap, 386, 386⟩
def s12 : St := ⟨(ins s9.heap [(387, b1), (388, b2)]), 389, 386⟩
def s13 : St := ⟨(ins .leaf [(387, b1), (388, b2), (389, b7), (390, b8)]), 391, 391⟩
def s14 : St := ⟨(ins .leaf [(6, b3), (391, b9)]), 392, 392⟩
end Go.Proofs.Ythcdddbghldmiaa.Aw
