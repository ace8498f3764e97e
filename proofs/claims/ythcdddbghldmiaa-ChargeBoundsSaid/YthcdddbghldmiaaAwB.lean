
import Derived.Test.YthcdddbghldmiaaAwA
namespace Go.Proofs.Ythcdddbghldmiaa.Aw
open Go Go.Lay
set_option maxRecDepth 100000
def e1 : Ent := ⟨false, 49, [], s0, .agg ⟨[.slice (some ⟨1, 0, none⟩) 3 3, .slice (some ⟨2, 0, none⟩) 2 2]⟩, s1⟩
def e2 : Ent := ⟨false, 29, [.agg ⟨[.slice (some ⟨1, 0, none⟩) 3 3, .slice (some ⟨2, 0, none⟩) 2 2]⟩], s2, .tuple ⟨[.slice (some ⟨6, 0, some 1⟩) 2 9223372036854775810, .int .i64 0]⟩, s3⟩
def e3 : Ent := ⟨false, 49, [], s4, .agg ⟨[.slice (some ⟨10, 0, none⟩) 3 3, .slice (some ⟨11, 0, none⟩) 2 2]⟩, s5⟩
def e4 : Ent := ⟨false, 18, [.agg ⟨[.slice (some ⟨10, 0, none⟩) 3 3, .slice (some ⟨11, 0, none⟩) 2 2]⟩], s6, .tuple ⟨[.slice (some ⟨18, 0, some 1⟩) 2 9223372036854775810, .int .i64 15, .int .i64 0]⟩, s7⟩
def e5 : Ent := ⟨false, 49, [], s8, .agg ⟨[.slice (some ⟨384, 0, none⟩) 3 3, .slice (some ⟨385, 0, none⟩) 2 2]⟩, s9⟩
def e6 : Ent := ⟨true, 32, [.agg ⟨[.slice (some ⟨384, 0, none⟩) 3 3, .slice (some ⟨385, 0, none⟩) 2 2]⟩, .slice (some ⟨18, 0, some 1⟩) 2 9223372036854775810], s10, .tuple ⟨[.int .i64 15, .int .i64 0]⟩, s10⟩
def e7 : Ent := ⟨false, 49, [], s11, .agg ⟨[.slice (some ⟨387, 0, none⟩) 3 3, .slice (some ⟨388, 0, none⟩) 2 2]⟩, s12⟩
def e8 : Ent := ⟨true, 39, [.agg ⟨[.slice (some ⟨387, 0, none⟩) 3 3, .slice (some ⟨388, 0, none⟩) 2 2]⟩, .slice (some ⟨389, 0, none⟩) 2 2, .slice (some ⟨390, 0, none⟩) 3 3], s13, .tuple ⟨[.int .i64 15, .int .i64 0]⟩, s13⟩
def e9 : Ent := ⟨true, 38, [.slice (some ⟨6, 0, some 1⟩) 2 9223372036854775810, .slice (some ⟨391, 0, none⟩) 2 2], s14, .bool true, s14⟩
def tbl1 : List Ent := [e1, e2, e3, e4, e5, e6, e7, e8, e9]
end Go.Proofs.Ythcdddbghldmiaa.Aw
