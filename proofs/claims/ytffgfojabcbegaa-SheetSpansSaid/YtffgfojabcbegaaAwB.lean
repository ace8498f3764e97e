
import Derived.Test.YtffgfojabcbegaaAwA
namespace Go.Proofs.Ytffgfojabcbegaa.Aw
open Go Go.Lay
set_option maxRecDepth 100000
def e1 : Ent := ⟨false, 34, [], s0, .slice (some ⟨0, 0, none⟩) 6 6, s1⟩
def e2 : Ent := ⟨false, 18, [.slice (some ⟨0, 0, none⟩) 6 6], s2, .tuple ⟨[.slice (some ⟨53, 0, none⟩) 1 9223372036854775809, .int .i64 0]⟩, s3⟩
def e3 : Ent := ⟨false, 34, [], s4, .slice (some ⟨60, 0, none⟩) 6 6, s5⟩
def e4 : Ent := ⟨false, 23, [.slice (some ⟨60, 0, none⟩) 6 6, .int .i64 200], s6, .tuple ⟨[.slice (some ⟨109, 0, some 5⟩) 6 9223372036854775814, .int .i64 0]⟩, s7⟩
def e5 : Ent := ⟨false, 13, [.slice (some ⟨175, 0, none⟩) 1 1], s8, .tuple ⟨[.slice (some ⟨222, 0, none⟩) 10 9223372036854775818, .int .i64 0]⟩, s9⟩
def e6 : Ent := ⟨true, 35, [.slice (some ⟨109, 0, some 5⟩) 6 9223372036854775814, .slice (some ⟨223, 0, none⟩) 12 12], s10, .bool true, s10⟩
def tbl1 : List Ent := [e1, e2, e3, e4, e5, e6]
end Go.Proofs.Ytffgfojabcbegaa.Aw
