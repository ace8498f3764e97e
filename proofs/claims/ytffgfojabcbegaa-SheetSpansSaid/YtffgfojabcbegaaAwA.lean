
import Derived.Test.YtffgfojabcbegaaOk
import Derived.Test.YtffgfojabcbegaaLayC
namespace Go.Proofs.Ytffgfojabcbegaa.Aw
open Go Go.Lay
set_option maxRecDepth 100000
def b1 : Blk := .cells [.int .i64 5, .int .i64 1, .int .i64 10, .int .u8 1, .int .i64 20, .int .i64 0, .int .i64 5, .int .i64 2, .int .i64 15, .int .u8 0, .int .i64 1, .int .i64 300, .int .i64 5, .int .i64 4, .int .i64 18, .int .u8 0, .int .i64 2, .int .i64 200, .int .i64 5, .int .i64 5, .int .i64 30, .int .u8 2, .int .i64 3, .int .i64 900, .int .i64 5, .int .i64 6, .int .i64 40, .int .u8 1, .int .i64 50, .int .i64 0, .int .i64 5, .int .i64 7, .int .i64 41, .int .u8 2, .int .i64 3, .int .i64 900] 6 [(0, 36)] 1 false
def b2 : Blk := .cells [.int .i64 5, .int .i64 0, .int .i64 5, .int .i64 1, .int .i64 400] 5 [(0, 5)] 1 false
def b3 : Blk := .cells [.int .i64 20, .int .i64 20, .int .i64 24, .int .i64 26, .int .i64 26, .int .i64 30, .int .i64 38, .int .i64 42, .int .i64 50, .int .i64 50, .int .i64 50, .int .i64 52] 2 [(5, 12), (4, 10), (3, 8), (2, 6), (1, 4), (0, 2)] 6 false
def b4 : Blk := .cells [.int .i64 0, .int .i64 1, .int .i64 0, .int .u8 0, .int .i64 1, .int .i64 2] 6 [(0, 6)] 1 false
def b5 : Blk := .cells [.int .u8 126, .int .u8 6, .int .u8 0, .int .u8 1, .int .u8 0, .int .u8 0, .int .u8 1, .int .u8 2, .int .u8 10, .int .u8 51] 1 [(0, 10)] 1 false
def b6 : Blk := .cells [.int .i64 20, .int .i64 20, .int .i64 24, .int .i64 26, .int .i64 26, .int .i64 30, .int .i64 38, .int .i64 42, .int .i64 50, .int .i64 50, .int .i64 50, .int .i64 52] 1 [(0, 12)] 1 false
def s0 : St := ⟨.leaf, 0, 0⟩
def s1 : St := ⟨(ins .leaf [(0, b1)]), 1, 0⟩
def s2 : St := ⟨s1.heap, 1, 1⟩
def s3 : St := ⟨(ins s1.heap [(53, b2)]), 60, 1⟩
def s4 : St := ⟨s3.heap, 60, 60⟩
def s5 : St := ⟨(ins s3.heap [(60, b1)]), 61, 60⟩
def s6 : St := ⟨s5.heap, 61, 61⟩
def s7 : St := ⟨(ins s5.heap [(109, b3)]), 175, 61⟩
def s8 : St := ⟨(ins s7.heap [(175, b4)]), 176, 176⟩
def s9 : St := ⟨(ins s8.heap [(222, b5)]), 223, 176⟩
def s10 : St := ⟨(ins .leaf [(109, b3), (223, b6)]), 224, 224⟩
end Go.Proofs.Ytffgfojabcbegaa.Aw
