import Derived.Test.YtgfiniccfpfplaaOk
import Derived.Test.YtgfiniccfpfplaaLayC
set_option maxRecDepth 100000
namespace Go.Proofs.Ytgfiniccfpfplaa.Aw
open Go Go.Lay
def b1:Blk:=.cells [.int .i64 0,.int .i64 300,.int .i64 700,.int .i64 720,.int .i64 1,.int .i64 0,.int .i64 900,.int .i64 1300,.int .i64 1340,.int .i64 2,.int .i64 1,.int .i64 400,.int .i64 800,.int .i64 800,.int .i64 1,.int .i64 2,.int .i64 500,.int .i64 900,.int .i64 910,.int .i64 1] 5 [(0,20)] 1 false
def b2:Blk:=.cells [.int .i64 1,.int .i64 2] 1 [(0,2)] 1 false
def b3:Blk:=.cells [.int .i64 1] 1 [(0,1)] 1 false
def b4:Blk:=.cells [.int .i64 0] 1 [(0,1)] 1 false
def b5:Blk:=.cells [.int .i64 2] 1 [(0,1)] 1 false
def b6:Blk:=.cells [.slice (some ⟨2,0,none⟩) 2 2,.slice none 0 0,.slice (some ⟨3,0,none⟩) 1 1,.int .i64 (-700),.int .i64 0,.int .i64 0,.slice (some ⟨4,0,none⟩) 1 1,.slice (some ⟨5,0,none⟩) 1 1,.slice (some ⟨6,0,none⟩) 1 1,.int .i64 (-5000),.int .i64 0,.int .i64 0,.slice (some ⟨7,0,none⟩) 2 2,.slice none 0 0,.slice none 0 0,.int .i64 (-200),.int .i64 0,.int .i64 0] 6 [(0,18)] 1 false
def b7:Blk:=.cells [.int .i64 0,.int .i64 0,.int .i64 1,.int .i64 1] 1 [(0,4)] 1 false
def b8:Blk:=.cells [.int .i64 720,.int .i64 1340,.int .i64 800,.int .i64 910] 1 [(0,4)] 1 false
def b9:Blk:=.cells [.int .u8 2,.int .i64 0,.int .i64 1] 3 [(0,3)] 1 false
def b10:Blk:=.cells [.slice (some ⟨73,0,none⟩) 2 2,.slice none 0 0,.slice (some ⟨74,0,none⟩) 1 1,.int .i64 (-700),.int .i64 0,.int .i64 0,.slice (some ⟨75,0,none⟩) 1 1,.slice (some ⟨76,0,none⟩) 1 1,.slice (some ⟨77,0,none⟩) 1 1,.int .i64 (-5000),.int .i64 0,.int .i64 0,.slice (some ⟨78,0,none⟩) 2 2,.slice none 0 0,.slice none 0 0,.int .i64 (-200),.int .i64 0,.int .i64 0] 6 [(0,18)] 1 false
def b11:Blk:=.cells [.int .i64 0,.int .i64 2,.int .i64 1,.int .i64 0] 1 [(0,4)] 1 false
def b12:Blk:=.cells [.int .i64 1,.int .i64 1,.int .i64 0] 1 [(0,3)] 1 false
def b13:Blk:=.cells [.slice (some ⟨286,0,none⟩) 2 2,.slice none 0 0,.slice (some ⟨287,0,none⟩) 1 1,.int .i64 (-700),.int .i64 0,.int .i64 0,.slice (some ⟨288,0,none⟩) 1 1,.slice (some ⟨289,0,none⟩) 1 1,.slice (some ⟨290,0,none⟩) 1 1,.int .i64 (-5000),.int .i64 0,.int .i64 0,.slice (some ⟨291,0,none⟩) 2 2,.slice none 0 0,.slice none 0 0,.int .i64 (-200),.int .i64 0,.int .i64 0] 6 [(0,18)] 1 false
def b14:Blk:=.cells [.int .i64 0,.int .i64 1,.int .i64 2] 1 [(2,3),(1,2),(0,1)] 3 false
def b15:Blk:=.cells [.int .i64 0,.int .i64 1,.int .i64 2] 1 [(0,3)] 1 false
def s0:St:=⟨.leaf,0,0⟩
def s1:St:=⟨(ins .leaf [(1,b1),(2,b2),(3,b3),(4,b3),(5,b4),(6,b5),(7,b2),(8,b6)]),9,0⟩
def s2:St:=⟨(ins s1.heap [(9,b7)]),10,10⟩
def s3:St:=⟨(ins s2.heap [(10,b8)]),11,10⟩
def s4:St:=⟨s3.heap,11,11⟩
def s5:St:=⟨(ins s3.heap [(36,b9)]),71,11⟩
def s6:St:=⟨s5.heap,71,71⟩
def s7:St:=⟨(ins s5.heap [(72,b1),(73,b2),(74,b3),(75,b3),(76,b4),(77,b5),(78,b2),(79,b10)]),80,71⟩
def s8:St:=⟨s7.heap,80,80⟩
def s9:St:=⟨(ins s7.heap [(243,b11),(283,b12)]),284,80⟩
def s10:St:=⟨s9.heap,284,284⟩
def s11:St:=⟨(ins s9.heap [(285,b1),(286,b2),(287,b3),(288,b3),(289,b4),(290,b5),(291,b2),(292,b13)]),293,284⟩
def s12:St:=⟨(ins s11.heap [(293,b11)]),294,294⟩
def s13:St:=⟨(ins s12.heap [(298,b14)]),305,294⟩
def s14:St:=⟨(ins .leaf [(283,b12),(305,b12)]),306,306⟩
def s15:St:=⟨(ins .leaf [(298,b14),(306,b15)]),307,307⟩
def e1:Ent:=⟨false,15,[],s0,.agg ⟨[.int .i64 3,.slice (some ⟨1,0,none⟩) 4 4,.slice (some ⟨8,0,none⟩) 3 3,.int .i64 600,.int .i64 2,.int .i64 1200]⟩,s1⟩
def e2:Ent:=⟨false,16,[],s2,.slice (some ⟨10,0,none⟩) 4 4,s3⟩
def e3:Ent:=⟨false,11,[.agg ⟨[.int .i64 3,.slice (some ⟨1,0,none⟩) 4 4,.slice (some ⟨8,0,none⟩) 3 3,.int .i64 600,.int .i64 2,.int .i64 1200]⟩,.slice (some ⟨9,0,none⟩) 4 4,.slice (some ⟨10,0,none⟩) 4 4],s4,.tuple ⟨[.slice (some ⟨36,0,none⟩) 1 9223372036854775809,.int .i64 0]⟩,s5⟩
def e4:Ent:=⟨false,15,[],s6,.agg ⟨[.int .i64 3,.slice (some ⟨72,0,none⟩) 4 4,.slice (some ⟨79,0,none⟩) 3 3,.int .i64 600,.int .i64 2,.int .i64 1200]⟩,s7⟩
def e5:Ent:=⟨false,21,[.agg ⟨[.int .i64 3,.slice (some ⟨72,0,none⟩) 4 4,.slice (some ⟨79,0,none⟩) 3 3,.int .i64 600,.int .i64 2,.int .i64 1200]⟩],s8,.tuple ⟨[.slice (some ⟨243,0,none⟩) 4 4,.slice (some ⟨283,0,none⟩) 3 9223372036854775811,.int .i64 0]⟩,s9⟩
def e6:Ent:=⟨false,15,[],s10,.agg ⟨[.int .i64 3,.slice (some ⟨285,0,none⟩) 4 4,.slice (some ⟨292,0,none⟩) 3 3,.int .i64 600,.int .i64 2,.int .i64 1200]⟩,s11⟩
def e7:Ent:=⟨false,17,[.agg ⟨[.int .i64 3,.slice (some ⟨285,0,none⟩) 4 4,.slice (some ⟨292,0,none⟩) 3 3,.int .i64 600,.int .i64 2,.int .i64 1200]⟩,.slice (some ⟨293,0,none⟩) 4 4,.int .i64 3],s12,.tuple ⟨[.slice (some ⟨298,0,some 2⟩) 3 9223372036854775811,.int .i64 0]⟩,s13⟩
def e8:Ent:=⟨true,19,[.slice (some ⟨283,0,none⟩) 3 9223372036854775811,.slice (some ⟨305,0,none⟩) 3 3],s14,.bool true,s14⟩
def e9:Ent:=⟨true,19,[.slice (some ⟨298,0,some 2⟩) 3 9223372036854775811,.slice (some ⟨306,0,none⟩) 3 3],s15,.bool true,s15⟩
def xXY:List Ent:=[e1,e2,e3,e4,e5,e6,e7,e8,e9]
theorem xXQ:zCC Try.prog e1:=zDX zAZ zCD 100000 (by kernel_rfl)
theorem xXP:zCC Try.prog e2:=zDX zAZ zCD 100000 (by kernel_rfl)
theorem xXO:zCC Try.prog e3:=zDX zAZ zCD 100000 (by kernel_rfl)
theorem xXN:zCC Try.prog e4:=zDX zAZ zCD 100000 (by kernel_rfl)
theorem xXM:zCC Try.prog e5:=zDX zAZ zCD 100000 (by kernel_rfl)
theorem xXL:zCC Try.prog e6:=zDX zAZ zCD 100000 (by kernel_rfl)
theorem xXK:zCC Try.prog e7:=zDX zAZ zCD 100000 (by kernel_rfl)
theorem xXJ:zCC Try.prog e8:=yNJ zAZ zCD 100000 (by kernel_rfl)
theorem xXI:zCC Try.prog e9:=yNJ zAZ zCD 100000 (by kernel_rfl)
theorem xOQ:zKI Try.prog xXY:=zAX xXQ (zAX xXP (zAX xXO (zAX xXN (zAX xXM (zAX xXL (zAX xXK (zAX xXJ (zAX xXI (zCD)))))))))
theorem shut:ShutF Try.prog 7:=xEJ zAZ xOQ (N:=100000) (by kernel_rfl)
end Go.Proofs.Ytgfiniccfpfplaa.Aw
