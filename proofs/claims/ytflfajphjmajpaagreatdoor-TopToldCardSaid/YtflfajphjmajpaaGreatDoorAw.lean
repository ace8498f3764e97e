import Derived.Test.YtflfajphjmajpaaGreatDoorOk
import Derived.Test.YtflfajphjmajpaaGreatDoorLayC
set_option maxRecDepth 100000
namespace Go.Proofs.YtflfajphjmajpaaGreatDoor.Aw
open Go Go.Lay
def b1:Blk:=.cells [.int .i64 5] 1 [(0,1)] 1 false
def b2:Blk:=.cells [.int .i64 9] 1 [(0,1)] 1 false
def b3:Blk:=.cells [.int .i64 1,.int .i64 0,.int .i64 0,.int .i64 0] 1 [(0,4)] 1 false
def b4:Blk:=.cells [.int .i64 0] 1 [(0,1)] 1 false
def b5:Blk:=.cells [.slice (some ⟨13,0,none⟩) 1 9223372036854775809,.slice none 0 0,.slice none 0 0,.slice none 0 0] 1 [(3,4),(2,3),(1,2),(0,1)] 4 false
def b6:Blk:=.cells [.int .i64 0,.int .i64 2,.int .i64 0,.int .u8 2,.int .i64 1,.int .i64 5] 6 [(0,6)] 1 false
def b7:Blk:=.cells [.int .i64 0,.int .i64 0,.int .i64 2,.int .i64 1,.int .i64 5] 5 [(0,5)] 1 false
def s0:St:=⟨(ins .leaf [(0,b1),(1,b2),(2,b2),(3,b3)]),4,4⟩
def s1:St:=⟨(ins s0.heap [(13,b4),(15,b5)]),19,4⟩
def s2:St:=⟨(ins s1.heap [(19,b6)]),20,20⟩
def s3:St:=⟨(ins s2.heap [(40,b7)]),41,20⟩
def e1:Ent:=⟨false,8,[.agg ⟨[.int .i64 1,.slice (some ⟨0,0,none⟩) 1 1,.slice (some ⟨1,0,none⟩) 1 1,.slice (some ⟨2,0,none⟩) 1 1,.int .i64 0]⟩,.slice none 0 0,.slice (some ⟨3,0,none⟩) 4 4],s0,.tuple ⟨[.slice (some ⟨15,0,some 3⟩) 4 9223372036854775812,.int .i64 0]⟩,s1⟩
def e2:Ent:=⟨false,14,[.slice (some ⟨19,0,none⟩) 1 1],s2,.tuple ⟨[.slice (some ⟨40,0,none⟩) 1 9223372036854775809,.int .i64 0]⟩,s3⟩
def xXH:List Ent:=[e1,e2]
theorem xWY:yBT Tryz.prog e1:=yNR zVH yHH 100000 (by kernel_rfl)
theorem xWX:yBT Tryz.prog e2:=yNR zVH yHH 100000 (by kernel_rfl)
theorem xOP:zOH Tryz.prog xXH:=yKC xWY (yKC xWX (yHH))
theorem shut:ShutF Tryz.prog 6:=xEF zVH xOP (N:=100000) (by kernel_rfl)
end Go.Proofs.YtflfajphjmajpaaGreatDoor.Aw
