import Derived.Test.YtffgfojabcbegaaDoorOk
import Derived.Test.YtffgfojabcbegaaDoorLayC
set_option maxRecDepth 100000
namespace Go.Proofs.YtffgfojabcbegaaDoor.Aw
open Go Go.Lay
def b1 : Blk := .cells [.int .i64 5, .int .i64 1, .int .i64 10, .int .u8 1, .int .i64 20, .int .i64 0, .int .i64 5, .int .i64 2, .int .i64 15, .int .u8 0, .int .i64 1, .int .i64 300, .int .i64 5, .int .i64 4, .int .i64 18, .int .u8 0, .int .i64 2, .int .i64 200, .int .i64 5, .int .i64 5, .int .i64 30, .int .u8 2, .int .i64 3, .int .i64 900, .int .i64 5, .int .i64 6, .int .i64 40, .int .u8 1, .int .i64 50, .int .i64 0, .int .i64 5, .int .i64 7, .int .i64 41, .int .u8 2, .int .i64 3, .int .i64 900] 6 [(0, 36)] 1 false
def b2 : Blk := .cells [.int .i64 5, .int .i64 0, .int .i64 5, .int .i64 1, .int .i64 400] 5 [(0, 5)] 1 false
def b3 : Blk := .cells [.int .i64 20, .int .i64 20, .int .i64 24, .int .i64 26, .int .i64 26, .int .i64 30, .int .i64 38, .int .i64 42, .int .i64 50, .int .i64 50, .int .i64 50, .int .i64 52] 2 [(5, 12), (4, 10), (3, 8), (2, 6), (1, 4), (0, 2)] 6 false
def b4 : Blk := .cells [.int .i64 0, .int .i64 1, .int .i64 0, .int .u8 0, .int .i64 1, .int .i64 2] 6 [(0, 6)] 1 false
def b5 : Blk := .cells [.int .u8 126, .int .u8 6, .int .u8 0, .int .u8 1, .int .u8 0, .int .u8 0, .int .u8 1, .int .u8 2, .int .u8 10, .int .u8 51] 1 [(0, 10)] 1 false
def b6 : Blk := .cells [.int .i64 20, .int .i64 20, .int .i64 24, .int .i64 26, .int .i64 26, .int .i64 30, .int .i64 38, .int .i64 42, .int .i64 50, .int .i64 50, .int .i64 50, .int .i64 52] 1 [(0, 12)] 1 false
def s0 : St := ⟨.leaf, 0, 0⟩
def s1 : St := ⟨(ins .leaf [(0, b1)]), 1, 0⟩
def s2 : St := ⟨s1.heap, 1, 1⟩
def s3 : St := ⟨(ins s1.heap [(53, b2)]), 60, 1⟩
def s4 : St := ⟨s3.heap, 60, 60⟩
def s5 : St := ⟨(ins s3.heap [(60, b1)]), 61, 60⟩
def s6 : St := ⟨s5.heap, 61, 61⟩
def s7 : St := ⟨(ins s5.heap [(109, b3)]), 175, 61⟩
def s8 : St := ⟨(ins s7.heap [(175, b4)]), 176, 176⟩
def s9 : St := ⟨(ins s8.heap [(222, b5)]), 223, 176⟩
def s10 : St := ⟨(ins .leaf [(109, b3), (223, b6)]), 224, 224⟩
def e1 : Ent := ⟨false, 17, [], s0, .slice (some ⟨0, 0, none⟩) 6 6, s1⟩
def e2 : Ent := ⟨false, 19, [.slice (some ⟨0, 0, none⟩) 6 6], s2, .tuple ⟨[.slice (some ⟨53, 0, none⟩) 1 9223372036854775809, .int .i64 0]⟩, s3⟩
def e3 : Ent := ⟨false, 17, [], s4, .slice (some ⟨60, 0, none⟩) 6 6, s5⟩
def e4 : Ent := ⟨false, 16, [.slice (some ⟨60, 0, none⟩) 6 6, .int .i64 200], s6, .tuple ⟨[.slice (some ⟨109, 0, some 5⟩) 6 9223372036854775814, .int .i64 0]⟩, s7⟩
def e5 : Ent := ⟨false, 13, [.slice (some ⟨175, 0, none⟩) 1 1], s8, .tuple ⟨[.slice (some ⟨222, 0, none⟩) 10 9223372036854775818, .int .i64 0]⟩, s9⟩
def e6 : Ent := ⟨true, 18, [.slice (some ⟨109, 0, some 5⟩) 6 9223372036854775814, .slice (some ⟨223, 0, none⟩) 12 12], s10, .bool true, s10⟩
def tbl1 : List Ent := [e1, e2, e3, e4, e5, e6]
theorem e1_ok : EntSnd Tryd.prog e1 := ent_full prog_ok tbl_nil 100000 (by kernel_rfl)
theorem e2_ok : EntSnd Tryd.prog e2 := ent_full prog_ok tbl_nil 100000 (by kernel_rfl)
theorem e3_ok : EntSnd Tryd.prog e3 := ent_full prog_ok tbl_nil 100000 (by kernel_rfl)
theorem e4_ok : EntSnd Tryd.prog e4 := ent_full prog_ok tbl_nil 100000 (by kernel_rfl)
theorem e5_ok : EntSnd Tryd.prog e5 := ent_full prog_ok tbl_nil 100000 (by kernel_rfl)
theorem e6_ok : EntSnd Tryd.prog e6 := ent_pure prog_ok tbl_nil 100000 (by kernel_rfl)
theorem tbl1_ok : TblSnd Tryd.prog tbl1 := tbl_cons e1_ok (tbl_cons e2_ok (tbl_cons e3_ok (tbl_cons e4_ok (tbl_cons e5_ok (tbl_cons e6_ok (tbl_nil))))))
theorem shut : ShutF Tryd.prog 7 := closed_of prog_ok tbl1_ok (N := 100000) (by kernel_rfl)
end Go.Proofs.YtffgfojabcbegaaDoor.Aw
