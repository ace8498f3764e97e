import Derived.Test.YtgfiniccfpfplaaGreatTy
import Derived.Test.YtgfiniccfpfplaaGreatUA
set_option linter.unusedVariables false
set_option maxRecDepth 20000
set_option linter.unusedSimpArgs false
namespace Go.Proofs.YtgfiniccfpfplaaGreat
open Go Go.Lay
open Tryz renaming prog -> Pg
section
noncomputable section
variable (data:oAa) (au:Addr) (ag aj:Nat) (a_1 hi b first:Int) (az:FuncId) (ao:lVa) (kB aH aG bU aY aC bb bT aQ bK aF a9 bV:Int) (t8_1:Bool) (q7:Bool->St->Prop) (q4:Int->Int->St->Prop) (q0:St->Prop) (Q:Int->St->Prop) (Z:St) (q2:vPa) (q5:Int->Int->St->Prop) (Nx Q6 Q2 Q4 q6 Q8:Int->St->Prop) (Q0 q1 q3:St->Prop) (Qr:Bool->St->Prop)
def yKG:Code:=(Code.part [1,0,0] (qh 106))
def zWY:lNa:=[(0,.slice data ag aj),(1,iV a_1),(2,iV b),(3,.func (.func az) ⟨[]⟩ ⟨ao⟩),(8,iV aG)]
def yPJ:Alt:=⟨Int,.normal,fun t=>zWY data ag aj a_1 b az ao t,fun t=>[],fun t Z=>Q t Z⟩
def yFX (data:oAa) (ag aj:Nat) (a_1 b:Int) (az:FuncId) (ao:lVa):lNa:=[]
def zMB:Alt:=⟨Unit,(.exit 0),fun t=>yFX data ag aj a_1 b az ao,fun t=>[],fun t Z=>q0 Z⟩
def yKH:Prop:=qi qj none yKG 53 (zWY data ag aj a_1 b az ao aG) [] [yPJ data ag aj a_1 b az ao Nx,zMB data ag aj a_1 b az ao Q0] Z
def xBX:Prop:=qk qj none yKG 53 (zWY data ag aj a_1 b az ao aG) [] [zMB data ag aj a_1 b az ao Q0] Z
def xBV:Code:=(Code.part [1,0,0,1,0,0,1,0,0] (qh 106))
def zQJ:lNa:=[(0,.slice data ag aj),(1,iV a_1),(2,iV b),(3,.func (.func az) ⟨[]⟩ ⟨ao⟩),(8,iV aG),(9,iV aQ)]
def xNU:Alt:=⟨Int,.normal,fun t=>zQJ data ag aj a_1 b az ao aG t,fun t=>[],fun t Z=>Q t Z⟩
def yFW:lNa:=[(0,.slice data ag aj),(1,iV a_1),(2,iV b),(3,.func (.func az) ⟨[]⟩ ⟨ao⟩),(8,iV aG)]
def zSL:Alt:=⟨Unit,(.exit 2),fun t=>yFW data ag aj a_1 b az ao aG,fun t=>[],fun t Z=>q0 Z⟩
def zWZ:Prop:=qi qj none xBV 53 (zQJ data ag aj a_1 b az ao aG aQ) [] [xNU data ag aj a_1 b az ao aG Nx,zSL data ag aj a_1 b az ao aG q1] Z
def xBW:Prop:=qk qj none xBV 53 (zQJ data ag aj a_1 b az ao aG aQ) [] [zSL data ag aj a_1 b az ao aG q1] Z
def yFY:Prop:=kZ qj yKG [1,0,0,1,0] (zGR 53 [yPJ data ag aj a_1 b az ao Nx,zMB data ag aj a_1 b az ao Q0]) (.exit 2) 53 (yFW data ag aj a_1 b az ao aG) Z
def yFZ:Prop:=kZ qj (qh 106) [1,0] (ql 106 q2) (.exit 0) 53 (yFX data ag aj a_1 b az ao) Z
def yMS:Code:=(Code.part [1,0,0] (qh 121))
def zJB:lNa:=[(0,.slice data ag aj),(2,iV hi),(3,iV first),(4,.func (.func az) ⟨[]⟩ ⟨ao⟩),(10,iV aC)]
def xDR:Alt:=⟨Int,.normal,fun t=>zJB data ag aj hi first az ao t,fun t=>[],fun t Z=>Q t Z⟩
def zYB (data:oAa) (ag aj:Nat) (hi first:Int) (az:FuncId) (ao:lVa):lNa:=[]
def zNS:Alt:=⟨Unit,(.exit 0),fun t=>zYB data ag aj hi first az ao,fun t=>[],fun t Z=>q0 Z⟩
def zYA (data:oAa) (ag aj:Nat) (hi first:Int) (az:FuncId) (ao:lVa):lNa:=[]
def zNR:Alt:=⟨Unit,.ret,fun t=>zYA data ag aj hi first az ao,fun t=>[],fun t Z=>q0 Z⟩
def zCH:Prop:=qi qj none yMS 82 (zJB data ag aj hi first az ao aC) [] [xDR data ag aj hi first az ao Nx,zNS data ag aj hi first az ao Q0,zNR data ag aj hi first az ao q3] Z
def yMT:Prop:=qk qj none yMS 82 (zJB data ag aj hi first az ao aC) [] [zNS data ag aj hi first az ao Q0,zNR data ag aj hi first az ao q3] Z
def zYD:Prop:=kZ qj (qh 121) [1,0] (ql 121 q2) (.exit 0) 82 (zYB data ag aj hi first az ao) Z
def zYC:Prop:=kZ qj (qh 121) [1,0] (ql 121 q2) .ret 82 (zYA data ag aj hi first az ao) Z
def yPV:Code:=(Code.part [1,1,1,0,1,0,0] (qh 107))
def zQR (data:oAa) (ag aj:Nat) (az:FuncId) (ao:lVa) (a_1 kB aH:Int):lNa:=[(0,.slice data ag aj),(3,.func (.func az) ⟨[]⟩ ⟨ao⟩),(8,iV a_1),(9,iV 0),(10,iV kB),(11,iV aH)]
def xGX (data:oAa) (ag aj:Nat) (az:FuncId) (ao:lVa) (a_1 kB:Int) (Q:Int->St->Prop):Alt:=⟨Int,.normal,fun t=>zQR data ag aj az ao a_1 kB t,fun t=>[],fun t Z=>Q t Z⟩
def yAK (data:oAa) (ag aj:Nat) (az:FuncId) (ao:lVa) (a_1 kB:Int):lNa:=[(0,.slice data ag aj),(3,.func (.func az) ⟨[]⟩ ⟨ao⟩),(8,iV a_1),(9,iV 0),(10,iV kB)]
def zOL (data:oAa) (ag aj:Nat) (az:FuncId) (ao:lVa) (a_1 kB:Int) (Q:St->Prop):Alt:=⟨Unit,(.exit 0),fun t=>yAK data ag aj az ao a_1 kB,fun t=>[],fun t Z=>Q Z⟩
def yAO (data:oAa) (ag aj:Nat) (az:FuncId) (ao:lVa) (a_1 kB aH:Int) (Z:St) (Nx:Int->St->Prop) (Q0:St->Prop):Prop:=qi qj none yPV 60 (zQR data ag aj az ao a_1 kB aH) [] [xGX data ag aj az ao a_1 kB Nx,zOL data ag aj az ao a_1 kB Q0] Z
def yPX (data:oAa) (ag aj:Nat) (az:FuncId) (ao:lVa) (a_1 kB aH:Int) (Z:St) (Q0:St->Prop):Prop:=qk qj none yPV 60 (zQR data ag aj az ao a_1 kB aH) [] [zOL data ag aj az ao a_1 kB Q0] Z
def yAM (data:oAa) (ag aj:Nat) (az:FuncId) (ao:lVa) (a_1 kB:Int) (Z:St) (Q:vPa):Prop:=kZ qj (qh 107) [1,1,1,0,1,0] (ql 107 Q) (.exit 0) 60 (yAK data ag aj az ao a_1 kB) Z
def yPU:Code:=(Code.part [1,1,1,1,1,0,0] (qh 107))
def zQQ (data:oAa) (ag aj:Nat) (az:FuncId) (ao:lVa) (a_1 dV:Int):lNa:=[(0,.slice data ag aj),(3,.func (.func az) ⟨[]⟩ ⟨ao⟩),(8,iV a_1),(9,iV 0),(12,iV dV)]
def xGW (data:oAa) (ag aj:Nat) (az:FuncId) (ao:lVa) (a_1:Int) (Q:Int->St->Prop):Alt:=⟨Int,.normal,fun t=>zQQ data ag aj az ao a_1 t,fun t=>[],fun t Z=>Q t Z⟩
def yAJ (data:oAa) (ag aj:Nat) (az:FuncId) (ao:lVa) (a_1:Int):lNa:=[]
def zOK (data:oAa) (ag aj:Nat) (az:FuncId) (ao:lVa) (a_1:Int) (Q:St->Prop):Alt:=⟨Unit,(.exit 2),fun t=>yAJ data ag aj az ao a_1,fun t=>[],fun t Z=>Q Z⟩
def yAN (data:oAa) (ag aj:Nat) (az:FuncId) (ao:lVa) (a_1 dV:Int) (Z:St) (Nx:Int->St->Prop) (Q2:St->Prop):Prop:=qi qj none yPU 60 (zQQ data ag aj az ao a_1 dV) [] [xGW data ag aj az ao a_1 Nx,zOK data ag aj az ao a_1 Q2] Z
def yPW (data:oAa) (ag aj:Nat) (az:FuncId) (ao:lVa) (a_1 dV:Int) (Z:St) (Q2:St->Prop):Prop:=qk qj none yPU 60 (zQQ data ag aj az ao a_1 dV) [] [zOK data ag aj az ao a_1 Q2] Z
def yAL (data:oAa) (ag aj:Nat) (az:FuncId) (ao:lVa) (a_1:Int) (Z:St) (Q:vPa):Prop:=kZ qj (qh 107) [1,1,1,1,1,0] (ql 107 Q) (.exit 2) 60 (yAJ data ag aj az ao a_1) Z
def zLT:Code:=(Code.part [1,1,1,0,0,0] (qh 112))
def zLS:lNa:=[(0,.slice (some au) ag aj),(1,iV a_1),(4,.func (.func az) ⟨[]⟩ ⟨ao⟩),(11,iV aH),(12,iV aY)]
def zOD:Alt:=⟨Int × Int,.normal,fun t=>zLS au ag aj a_1 az ao t.1 t.2,fun t=>[],fun t Z=>q4 t.1 t.2 Z⟩
def zUV (au:Addr) (ag aj:Nat) (a_1:Int) (az:FuncId) (ao:lVa) (aH:Int):lNa:=[(11,iV aH)]
def zCL:Alt:=⟨Int,(.exit 0),fun t=>zUV au ag aj a_1 az ao t,fun t=>[],fun t Z=>Q t Z⟩
def yFM:Prop:=qi qj none zLT 90 (zLS au ag aj a_1 az ao aH aY) [] [zOD au ag aj a_1 az ao q5,zCL au ag aj a_1 az ao q6] Z
def yFL:Prop:=qk qj none zLT 90 (zLS au ag aj a_1 az ao aH aY) [] [zCL au ag aj a_1 az ao q6] Z
def yFI:Code:=(Code.part [1,1,1,0,0,0,0,0,0,0] (qh 112))
def zGC:lNa:=[(0,.slice (some au) ag aj),(1,iV a_1),(4,.func (.func az) ⟨[]⟩ ⟨ao⟩),(11,iV bb),(12,iV aY)]
def yWF:Alt:=⟨Int,.normal,fun t=>zGC au ag aj a_1 az ao aY t,fun t=>[],fun t Z=>Q t Z⟩
def zUU:lNa:=[(0,.slice (some au) ag aj),(1,iV a_1),(4,.func (.func az) ⟨[]⟩ ⟨ao⟩),(11,iV bb),(12,iV aY)]
def zKA:Alt:=⟨Int,(.exit 2),fun t=>zUU au ag aj a_1 az ao aY t,fun t=>[],fun t Z=>Q t Z⟩
def zLV:Prop:=qi qj none yFI 90 (zGC au ag aj a_1 az ao aY bb) [] [yWF au ag aj a_1 az ao aY Nx,zKA au ag aj a_1 az ao aY Q2] Z
def yFK:Prop:=qk qj none yFI 90 (zGC au ag aj a_1 az ao aY bb) [] [zKA au ag aj a_1 az ao aY Q2] Z
def zUW:Prop:=kZ qj zLT [0,0,0] (zGR 90 [zOD au ag aj a_1 az ao q5,zCL au ag aj a_1 az ao q6]) (.exit 2) 90 (zUU au ag aj a_1 az ao aY bb) Z
def yFH:Code:=(Code.part [1,1,1,0,0,0,0,1,0,0,0] (qh 112))
def zGB:lNa:=[(0,.slice (some au) ag aj),(1,iV a_1),(4,.func (.func az) ⟨[]⟩ ⟨ao⟩),(11,iV bb),(12,iV bK)]
def yWE:Alt:=⟨Int,.normal,fun t=>zGB au ag aj a_1 az ao bb t,fun t=>[],fun t Z=>Q t Z⟩
def zUT:lNa:=[(0,.slice (some au) ag aj),(1,iV a_1),(4,.func (.func az) ⟨[]⟩ ⟨ao⟩),(11,iV bb),(12,iV bK)]
def zJZ:Alt:=⟨Int,(.exit 4),fun t=>zUT au ag aj a_1 az ao bb t,fun t=>[],fun t Z=>Q t Z⟩
def zLU:Prop:=qi qj none yFH 90 (zGB au ag aj a_1 az ao bb bK) [] [yWE au ag aj a_1 az ao bb Nx,zJZ au ag aj a_1 az ao bb Q4] Z
def yFJ:Prop:=qk qj none yFH 90 (zGB au ag aj a_1 az ao bb bK) [] [zJZ au ag aj a_1 az ao bb Q4] Z
def zKB:Prop:=kZ qj zLT [0,1,0,0] (zGR 90 [zOD au ag aj a_1 az ao q5,zCL au ag aj a_1 az ao q6]) (.exit 4) 90 (zUT au ag aj a_1 az ao bb bK) Z
def zUX:Prop:=kZ qj (qh 112) [1,1,1,0,0] (ql 112 q2) (.exit 0) 90 (zUV au ag aj a_1 az ao aH) Z
def xBE:Code:=(Code.part [1,1,1,0,0,0] (qh 113))
def zWR:lNa:=[(0,.slice (some au) ag aj),(1,iV a_1),(4,.func (.func az) ⟨[]⟩ ⟨ao⟩),(12,iV aY),(13,iV kB)]
def xMD:Alt:=⟨Int,.normal,fun t=>zWR au ag aj a_1 az ao kB t,fun t=>[],fun t Z=>Q t Z⟩
def yFD:lNa:=[(0,.slice (some au) ag aj),(1,iV a_1),(4,.func (.func az) ⟨[]⟩ ⟨ao⟩),(12,iV aY),(13,iV kB)]
def zSG:Alt:=⟨Int,(.exit 0),fun t=>yFD au ag aj a_1 az ao kB t,fun t=>[],fun t Z=>Q t Z⟩
def zWW:Prop:=qi qj none xBE 178 (zWR au ag aj a_1 az ao kB aY) [] [xMD au ag aj a_1 az ao kB Nx,zSG au ag aj a_1 az ao kB q6] Z
def xBJ:Prop:=qk qj none xBE 178 (zWR au ag aj a_1 az ao kB aY) [] [zSG au ag aj a_1 az ao kB q6] Z
def yFG:Prop:=kZ qj (qh 113) [1,1,1,0,0] (ql 113 q2) (.exit 0) 178 (yFD au ag aj a_1 az ao kB aY) Z
def xBD:Code:=(Code.part [1,1,1,1,0,0,0] (qh 113))
def zQB:lNa:=[(0,.slice (some au) ag aj),(1,iV a_1),(4,.func (.func az) ⟨[]⟩ ⟨ao⟩),(12,iV aY),(13,iV bT)]
def xMC:Alt:=⟨Int,.normal,fun t=>zQB au ag aj a_1 az ao aY t,fun t=>[],fun t Z=>Q t Z⟩
def yFC:lNa:=[(0,.slice (some au) ag aj),(1,iV a_1),(4,.func (.func az) ⟨[]⟩ ⟨ao⟩),(12,iV aY),(13,iV bT)]
def zSF:Alt:=⟨Int,(.exit 2),fun t=>yFC au ag aj a_1 az ao aY t,fun t=>[],fun t Z=>Q t Z⟩
def zWV:Prop:=qi qj none xBD 178 (zQB au ag aj a_1 az ao aY bT) [] [xMC au ag aj a_1 az ao aY Nx,zSF au ag aj a_1 az ao aY Q2] Z
def xBI:Prop:=qk qj none xBD 178 (zQB au ag aj a_1 az ao aY bT) [] [zSF au ag aj a_1 az ao aY Q2] Z
def zSI:Prop:=kZ qj (qh 113) [1,1,1,1,0,0] (ql 113 q2) (.exit 2) 178 (yFC au ag aj a_1 az ao aY bT) Z
def zWS:Code:=(Code.part [1,1,1,1,1,1,1,1,1,0,0,0] (qh 113))
def zWQ:lNa:=[(0,.slice (some au) ag aj),(1,iV a_1),(4,.func (.func az) ⟨[]⟩ ⟨ao⟩),(12,iV bK),(13,iV aF)]
def zZE:Alt:=⟨Int × Int,.normal,fun t=>zWQ au ag aj a_1 az ao t.1 t.2,fun t=>[],fun t Z=>q4 t.1 t.2 Z⟩
def yFB (au:Addr) (ag aj:Nat) (a_1:Int) (az:FuncId) (ao:lVa) (aF:Int):lNa:=[(0,.slice (some au) ag aj),(1,iV a_1),(13,iV aF)]
def zGA:Alt:=⟨Int,(.exit 4),fun t=>yFB au ag aj a_1 az ao t,fun t=>[],fun t Z=>Q t Z⟩
def xBK:Prop:=qi qj none zWS 178 (zWQ au ag aj a_1 az ao bK aF) [] [zZE au ag aj a_1 az ao q5,zGA au ag aj a_1 az ao Q4] Z
def xBH:Prop:=qk qj none zWS 178 (zWQ au ag aj a_1 az ao bK aF) [] [zGA au ag aj a_1 az ao Q4] Z
def xBC:Code:=(Code.part [1,1,1,1,1,1,1,1,1,0,0,0,0,0,0,0] (qh 113))
def zQA:lNa:=[(0,.slice (some au) ag aj),(1,iV a_1),(4,.func (.func az) ⟨[]⟩ ⟨ao⟩),(12,iV a9),(13,iV aF)]
def xMB:Alt:=⟨Int,.normal,fun t=>zQA au ag aj a_1 az ao aF t,fun t=>[],fun t Z=>Q t Z⟩
def yFA:lNa:=[(0,.slice (some au) ag aj),(1,iV a_1),(4,.func (.func az) ⟨[]⟩ ⟨ao⟩),(12,iV a9),(13,iV aF)]
def zSE:Alt:=⟨Int,(.exit 6),fun t=>yFA au ag aj a_1 az ao aF t,fun t=>[],fun t Z=>Q t Z⟩
def zWU:Prop:=qi qj none xBC 178 (zQA au ag aj a_1 az ao aF a9) [] [xMB au ag aj a_1 az ao aF Nx,zSE au ag aj a_1 az ao aF Q6] Z
def xBG:Prop:=qk qj none xBC 178 (zQA au ag aj a_1 az ao aF a9) [] [zSE au ag aj a_1 az ao aF Q6] Z
def yFE:Prop:=kZ qj zWS [0,0,0] (zGR 178 [zZE au ag aj a_1 az ao q5,zGA au ag aj a_1 az ao Q4]) (.exit 6) 178 (yFA au ag aj a_1 az ao aF a9) Z
def xBB:Code:=(Code.part [1,1,1,1,1,1,1,1,1,0,0,0,0,1,0,0,0] (qh 113))
def zPZ:lNa:=[(0,.slice (some au) ag aj),(1,iV a_1),(4,.func (.func az) ⟨[]⟩ ⟨ao⟩),(12,iV a9),(13,iV bV)]
def xMA:Alt:=⟨Int,.normal,fun t=>zPZ au ag aj a_1 az ao a9 t,fun t=>[],fun t Z=>Q t Z⟩
def yEZ:lNa:=[(0,.slice (some au) ag aj),(1,iV a_1),(4,.func (.func az) ⟨[]⟩ ⟨ao⟩),(12,iV a9),(13,iV bV)]
def zSD:Alt:=⟨Int,(.exit 8),fun t=>yEZ au ag aj a_1 az ao a9 t,fun t=>[],fun t Z=>Q t Z⟩
def zWT:Prop:=qi qj none xBB 178 (zPZ au ag aj a_1 az ao a9 bV) [] [xMA au ag aj a_1 az ao a9 Nx,zSD au ag aj a_1 az ao a9 Q8] Z
def xBF:Prop:=qk qj none xBB 178 (zPZ au ag aj a_1 az ao a9 bV) [] [zSD au ag aj a_1 az ao a9 Q8] Z
def zSH:Prop:=kZ qj zWS [0,1,0,0] (zGR 178 [zZE au ag aj a_1 az ao q5,zGA au ag aj a_1 az ao Q4]) (.exit 8) 178 (yEZ au ag aj a_1 az ao a9 bV) Z
def yFF:Prop:=kZ qj (qh 113) [1,1,1,1,1,1,1,1,1,0,0] (ql 113 q2) (.exit 4) 178 (yFB au ag aj a_1 az ao aF) Z
def zJX:Code:=(Code.part [1,1,0,1,0,0] (qh 111))
def zQD:lNa:=[(0,.slice data ag aj),(1,iV a_1),(2,iV b),(3,.func (.func az) ⟨[]⟩ ⟨ao⟩),(9,iV bU),(10,iV aC)]
def zLR:Alt:=⟨Int × Int,.normal,fun t=>zQD data ag aj a_1 b az ao t.1 t.2,fun t=>[],fun t Z=>q4 t.1 t.2 Z⟩
def zZJ (data:oAa) (ag aj:Nat) (a_1 b:Int) (az:FuncId) (ao:lVa):lNa:=[]
def zBN:Alt:=⟨Unit,(.exit 0),fun t=>zZJ data ag aj a_1 b az ao,fun t=>[],fun t Z=>q0 Z⟩
def zZI (data:oAa) (ag aj:Nat) (a_1 b:Int) (az:FuncId) (ao:lVa) (t8_1:Bool):lNa:=[(8,.bool t8_1)]
def zBM:Alt:=⟨Bool,.ret,fun t=>zZI data ag aj a_1 b az ao t,fun t=>[],fun t Z=>q7 t Z⟩
def zZN:Prop:=qi qj none zJX 141 (zQD data ag aj a_1 b az ao bU aC) [] [zLR data ag aj a_1 b az ao q5,zBN data ag aj a_1 b az ao Q0,zBM data ag aj a_1 b az ao Qr] Z
def yOU:Prop:=qk qj none zJX 141 (zQD data ag aj a_1 b az ao bU aC) [] [zBN data ag aj a_1 b az ao Q0,zBM data ag aj a_1 b az ao Qr] Z
def yOS:Code:=(Code.part [1,1,0,1,0,0,1,0,0,0,0,0] (qh 111))
def zJW:lNa:=[(0,.slice data ag aj),(1,iV a_1),(2,iV b),(3,.func (.func az) ⟨[]⟩ ⟨ao⟩),(9,iV aQ),(10,iV aC)]
def xGB:Alt:=⟨Int,.normal,fun t=>zJW data ag aj a_1 b az ao aC t,fun t=>[],fun t Z=>Q t Z⟩
def zZH:lNa:=[(0,.slice data ag aj),(1,iV a_1),(2,iV b),(3,.func (.func az) ⟨[]⟩ ⟨ao⟩),(9,iV aQ),(10,iV aC)]
def zOA:Alt:=⟨Int,(.exit 2),fun t=>zZH data ag aj a_1 b az ao aC t,fun t=>[],fun t Z=>Q t Z⟩
def zQG:Prop:=qi qj none yOS 141 (zJW data ag aj a_1 b az ao aC aQ) [] [xGB data ag aj a_1 b az ao aC Nx,zOA data ag aj a_1 b az ao aC Q2] Z
def yOT:Prop:=qk qj none yOS 141 (zJW data ag aj a_1 b az ao aC aQ) [] [zOA data ag aj a_1 b az ao aC Q2] Z
def zBO:Prop:=kZ qj zJX [1,0,0,0,0] (zGR 141 [zLR data ag aj a_1 b az ao q5,zBN data ag aj a_1 b az ao Q0,zBM data ag aj a_1 b az ao Qr]) (.exit 2) 141 (zZH data ag aj a_1 b az ao aC aQ) Z
def yOR:Code:=(Code.part [1,1,0,1,0,0,1,0,0,1,1,1,1,0,1,0,1,0,0] (qh 111))
def zQC (au:Addr) (ag aj:Nat) (a_1 b:Int) (az:FuncId) (ao:lVa) (aQ aC dz:Int):lNa:=[(0,.slice (some au) ag aj),(1,iV a_1),(2,iV b),(3,.func (.func az) ⟨[]⟩ ⟨ao⟩),(9,iV aQ),(10,iV aC),(11,iV dz)]
def xGA (au:Addr) (ag aj:Nat) (a_1 b:Int) (az:FuncId) (ao:lVa) (aQ aC:Int) (Q:Int->St->Prop):Alt:=⟨Int,.normal,fun t=>zQC au ag aj a_1 b az ao aQ aC t,fun t=>[],fun t Z=>Q t Z⟩
def zZG (au:Addr) (ag aj:Nat) (a_1 b:Int) (az:FuncId) (ao:lVa) (aQ aC:Int):lNa:=[(0,.slice (some au) ag aj),(1,iV a_1),(2,iV b),(3,.func (.func az) ⟨[]⟩ ⟨ao⟩),(9,iV aQ),(10,iV aC)]
def zNZ (au:Addr) (ag aj:Nat) (a_1 b:Int) (az:FuncId) (ao:lVa) (aQ aC:Int) (Q:St->Prop):Alt:=⟨Unit,(.exit 4),fun t=>zZG au ag aj a_1 b az ao aQ aC,fun t=>[],fun t Z=>Q Z⟩
def zQF (au:Addr) (ag aj:Nat) (a_1 b:Int) (az:FuncId) (ao:lVa) (aQ aC dz:Int) (Z:St) (Nx:Int->St->Prop) (Q4:St->Prop):Prop:=qi qj none yOR 141 (zQC au ag aj a_1 b az ao aQ aC dz) [] [xGA au ag aj a_1 b az ao aQ aC Nx,zNZ au ag aj a_1 b az ao aQ aC Q4] Z
def zZK (au:Addr) (ag aj:Nat) (a_1 b:Int) (az:FuncId) (ao:lVa) (aQ aC dz:Int) (Z:St) (Q4:St->Prop):Prop:=qk qj none yOR 141 (zQC au ag aj a_1 b az ao aQ aC dz) [] [zNZ au ag aj a_1 b az ao aQ aC Q4] Z
def zOC (data:oAa) (au:Addr) (ag aj:Nat) (a_1 b:Int) (az:FuncId) (ao:lVa) (aQ aC:Int) (Z:St) (Nx:Int->Int->St->Prop) (Q0:St->Prop) (Qr:Bool->St->Prop):Prop:=kZ qj zJX [1,0,0,1,1,1,1,0,1,0,1,0] (zGR 141 [zLR data ag aj a_1 b az ao Nx,zBN data ag aj a_1 b az ao Q0,zBM data ag aj a_1 b az ao Qr]) (.exit 4) 141 (zZG au ag aj a_1 b az ao aQ aC) Z
def yOQ:Code:=(Code.part [1,1,0,1,0,0,1,0,0,1,1,1,1,1,1,0,1,0,0] (qh 111))
def zJV (au:Addr) (ag aj:Nat) (a_1 b:Int) (az:FuncId) (ao:lVa) (aQ aC a9:Int):lNa:=[(0,.slice (some au) ag aj),(1,iV a_1),(2,iV b),(3,.func (.func az) ⟨[]⟩ ⟨ao⟩),(9,iV aQ),(10,iV aC),(12,iV a9)]
def xFZ (au:Addr) (ag aj:Nat) (a_1 b:Int) (az:FuncId) (ao:lVa) (aQ aC:Int) (Q:Int->St->Prop):Alt:=⟨Int,.normal,fun t=>zJV au ag aj a_1 b az ao aQ aC t,fun t=>[],fun t Z=>Q t Z⟩
def zZF (au:Addr) (ag aj:Nat) (a_1 b:Int) (az:FuncId) (ao:lVa) (aQ aC:Int):lNa:=[(0,.slice (some au) ag aj),(1,iV a_1),(2,iV b),(3,.func (.func az) ⟨[]⟩ ⟨ao⟩),(9,iV aQ),(10,iV aC)]
def zHK (au:Addr) (ag aj:Nat) (a_1 b:Int) (az:FuncId) (ao:lVa) (aQ aC:Int) (Q:St->Prop):Alt:=⟨Unit,(.exit 6),fun t=>zZF au ag aj a_1 b az ao aQ aC,fun t=>[],fun t Z=>Q Z⟩
def zQE (au:Addr) (ag aj:Nat) (a_1 b:Int) (az:FuncId) (ao:lVa) (aQ aC a9:Int) (Z:St) (Nx:Int->St->Prop) (Q6:St->Prop):Prop:=qi qj none yOQ 141 (zJV au ag aj a_1 b az ao aQ aC a9) [] [xFZ au ag aj a_1 b az ao aQ aC Nx,zHK au ag aj a_1 b az ao aQ aC Q6] Z
def zJY (au:Addr) (ag aj:Nat) (a_1 b:Int) (az:FuncId) (ao:lVa) (aQ aC a9:Int) (Z:St) (Q6:St->Prop):Prop:=qk qj none yOQ 141 (zJV au ag aj a_1 b az ao aQ aC a9) [] [zHK au ag aj a_1 b az ao aQ aC Q6] Z
def zOB (data:oAa) (au:Addr) (ag aj:Nat) (a_1 b:Int) (az:FuncId) (ao:lVa) (aQ aC:Int) (Z:St) (Nx:Int->Int->St->Prop) (Q0:St->Prop) (Qr:Bool->St->Prop):Prop:=kZ qj zJX [1,0,0,1,1,1,1,1,1,0,1,0] (zGR 141 [zLR data ag aj a_1 b az ao Nx,zBN data ag aj a_1 b az ao Q0,zBM data ag aj a_1 b az ao Qr]) (.exit 6) 141 (zZF au ag aj a_1 b az ao aQ aC) Z
def zZM:Prop:=kZ qj (qh 111) [1,1,0,1,0] (ql 111 q2) (.exit 0) 141 (zZJ data ag aj a_1 b az ao) Z
def zZL:Prop:=kZ qj (qh 111) [1,1,0,1,0] (ql 111 q2) .ret 141 (zZI data ag aj a_1 b az ao t8_1) Z
end
variable {data:oAa} {ag aj:Nat} {a_1 b aG aQ nS nV nW nU nH nI nJ hi first aC nE nG nA nB nD nF nK nM nP nQ nR nPB nQB nBE lo_1 kB aH dV aY bb bK nT nRB nFB nSB nTB nGB nJB nDB nEB nX nY nZ nAB dA n1 n2 n3 n4 n5 n6 bT nCC nBF nBG nDC nEC nFC aF a9 nCB nHB nUB nVB nWB nXB nBC bV nBH nBI nBJ nBK nBL nBM nBN nBp nBq nBr nBs nBt nBu nBv nBw nBx nBy nBz nB0 bU dz nKB nIB nGC nHC nIC nJC:Int} {az:FuncId} {ao:lVa} {Inv:Nat->Int->St->Prop} {Q0 P0 Pr P6:St->Prop} {Q2 Nx P2 Q4 P4 Q6 Q8 P8:Int->St->Prop} {au:Addr} {ZY ZZ Z ZW ZB ZQ ZA ZF ZKB ZR ZLB ZMB ZNB Z7 Z8 ZO ZAB ZOB ZPB ZQB ZRB ZSB ZTB ZS ZT ZUB ZVB:St} {Q:vPa} {Qr:Bool->St->Prop} {t8_1:Bool}
theorem yAC (hb:∀ k aG Z,Inv k aG Z->yKH data ag aj a_1 b az ao aG Z (NX1 Inv k) Q0):∀ k aG Z,Inv k aG Z->xBX data ag aj a_1 b az ao aG Z Q0 :=
 xF (ai (xX 0) trivial) hb
theorem yWU {Q2:St->Prop} (hb:∀ k aQ Z,Inv k aQ Z->zWZ data ag aj a_1 b az ao aG aQ Z (NX1 Inv k) Q2):∀ k aQ Z,Inv k aQ Z->xBW data ag aj a_1 b az ao aG aQ Z Q2 :=
 xF (ai (xX 2) trivial) hb
theorem xNR {Q2:St->Prop}:let y0:=rcd nS nV nW;let y1:=rcd nU nH nI;let y2:=zL au (Int.toNat (aQ-1)*3);let y3:=zL au (Int.toNat aQ*3);∀ (h1:lz Z 45 y3 (qf y0)) (h2:lz Z 45 y2 (qf y1)) (h3:qm az (qf y0::(qf y1)::ao) Z (iV nJ) Z) (h4:qn (evL [pz y3,qf y1]) Z (.store 45 (.tmp 0) (.tmp 1))=some (undef,ZY)) (h5:qn (evL [pz y2,qf y0]) ZY (.store 45 (.tmp 0) (.tmp 1))=some (undef,ZZ)) (nx:Nx (aQ-1) ZZ) (u1:a_1<aQ:=by omega) (u2:Ix aQ ag:=by omega) (u3:I6 (aQ-1):=by omega) (u4:Ix (aQ-1) ag:=by omega) (u5:nJ<0:=by omega),zWZ (some au) ag aj a_1 b az ao aG aQ Z Nx Q2 :=
 let y0:=rcd nS nV nW;let y1:=rcd nU nH nI;fun h1 h2 h3 h4 h5 nx u1 u2 u3 u4 u5=>kO 0 (aQ-1) [.g,.g,.b true,.g,.g,.g,.g,.i,.l (qf y0),.g,.g,.n (aQ-1),.i,.l (qf y1),.c (iV nJ) Z,.b true,.g,.g,.g,.g,.g,.n (aQ-1),.g,.g,.n (aQ-1),.i,.l (qf y1),.g,.g,.i,.l (qf y0),.i,.e undef ZY,.i,.e undef ZZ,.g,.n (aQ-1),.g] (fun _ f=>ai (zR u1) (an6 u2 h1 (w64 u3) u4 h2 h3 (an6 (zR u5) (w64 u3) (w64 u3) u4 h2 u2 (an6 h1 u2 h4 u4 h5 (w64 u3) f)))) nx
theorem xNQ {Q2:St->Prop} (h1:lz Z 45 (zL au (Int.toNat aQ*3)) (qf (rcd nS nV nW))) (h2:lz Z 45 (zL au (Int.toNat (aQ-1)*3)) (qf (rcd nU nH nI))) (h3:qm az (qf (rcd nS nV nW)::(qf (rcd nU nH nI))::ao) Z (iV nJ) Z) (nx:Q2 Z) (u1:a_1<aQ:=by omega) (u2:Ix aQ ag:=by omega) (u3:I6 (aQ-1):=by omega) (u4:Ix (aQ-1) ag:=by omega) (u5:¬ nJ<0:=by omega):zWZ (some au) ag aj a_1 b az ao aG aQ Z Nx Q2 :=
 kO 1 () [.g,.g,.b true,.g,.g,.g,.g,.i,.l (qf (rcd nS nV nW)),.g,.g,.n (aQ-1),.i,.l (qf (rcd nU nH nI)),.c (iV nJ) Z,.b false,.g] (fun _ f=>an2 (zR u1) u2 (an6 h1 (w64 u3) u4 h2 h3 (zT u5) f)) nx
theorem xNP {Q2:St->Prop} (nx:Q2 Z) (u1:¬ a_1<aQ:=by omega):zWZ data ag aj a_1 b az ao aG aQ Z Nx Q2 :=
 kO 1 () [.g,.g,.b false,.g,.g] (fun _ f=>ai (zT u1) f) nx
theorem xNS {P2:St->Prop} (hL:xBW data ag aj a_1 b az ao aG aG Z P2) (k2:∀ Z',P2 Z'->yFY data ag aj a_1 b az ao aG Z' Nx Q0) (u1:aG<b:=by omega):yKH data ag aj a_1 b az ao aG Z Nx Q0 :=
 zDG [.g,.g,.b true,.g,.g,.lf 53 (zQJ data ag aj a_1 b az ao aG aG) [zSL data ag aj a_1 b az ao aG P2]] (fun g=>kd (ai (zR u1) (ai (ai tt (ai (arf (zQJ data ag aj a_1 b az ao aG aG)) hL)) (ai (kz0 k2) trivial))))
theorem yPI (nx:Q0 Z) (u1:¬ aG<b:=by omega):yKH data ag aj a_1 b az ao aG Z Nx Q0 :=
 kO 1 () [.g,.g,.b false] (fun _ f=>ai (zT u1) f) nx
theorem yWT (nx:Nx (aG+1) Z) (u1:I6 (aG+1):=by omega):yFY data ag aj a_1 b az ao aG Z Nx Q0 :=
 sF 0 (aG+1) [.g,.n (aG+1),.g] (fun _ f=>ai (w64 u1) f) nx
theorem xBU (hL:xBX data ag aj a_1 b az ao (a_1+1) Z P0) (k0:∀ Z',P0 Z'->yFZ data ag aj a_1 b az ao Z' Q) (u1:I6 (a_1+1):=by omega):qg 106 [.slice data ag aj,iV a_1,iV b,.func (.func az) ⟨[]⟩ ⟨ao⟩] Z Q :=
 let s1:=zWY data ag aj a_1 b az ao (a_1+1);zG [.g,.n (a_1+1),.g,.lf 53 s1 [zMB data ag aj a_1 b az ao P0]] (kd (ai (w64 u1) (ai (ai tt (ai (arf s1) hL)) (ai (kz0 k0) trivial))))
theorem yAB (nx:Q (.tuple ⟨[]⟩) Z):yFZ data ag aj a_1 b az ao Z Q :=
 sK [] nx
theorem yMR {Qr:St->Prop} (hb:∀ k aC Z,Inv k aC Z->zCH data ag aj hi first az ao aC Z (NX1 Inv k) Q0 Qr):∀ k aC Z,Inv k aC Z->yMT data ag aj hi first az ao aC Z Q0 Qr :=
 xF (ai (xX 0) (ai zAR trivial)) hb
theorem xDQ {Qr:St->Prop} (nx:Q0 Z) (u1:I6 (2*aC):=by omega) (u2:I6 ((2*aC)+1):=by omega) (u3:hi<=((2*aC)+1):=by omega):zCH data ag aj hi first az ao aC Z Nx Q0 Qr :=
 kO 1 () [.g,.n (2*aC),.n ((2*aC)+1),.g,.g,.g,.b true] (fun _ f=>an3 (w64 u1) (w64 u2) (yE u3) f) nx
theorem xDP {Qr:St->Prop}:let s1:=(2*aC)+1;let s2:=first+(s1+1);let s3:=first+aC;let s4:=first+s1;let y0:=rcd nR nPB nQB;let y1:=rcd nM nP nQ;let y2:=zL au (Int.toNat s3*3);let y3:=zL au (Int.toNat s2*3);∀ (h1:lz Z 45 (zL au (Int.toNat s4*3)) (qf (rcd nE nG nA))) (h2:lz Z 45 (zL au (Int.toNat (s4+1)*3)) (qf (rcd nB nD nF))) (h3:qm az (qf (rcd nE nG nA)::(qf (rcd nB nD nF))::ao) Z (iV nK) Z) (h4:lz Z 45 y2 (qf y1)) (h5:lz Z 45 y3 (qf y0)) (h6:qm az (qf y1::(qf y0)::ao) Z (iV nBE) Z) (h7:qn (evL [pz y2,qf y0]) Z (.store 45 (.tmp 0) (.tmp 1))=some (undef,ZW)) (h8:qn (evL [pz y3,qf y1]) ZW (.store 45 (.tmp 0) (.tmp 1))=some (undef,ZB)) (nx:Nx (s1+1) ZB) (u1:I6 (2*aC):=by omega) (u2:I6 s1:=by omega) (u3:¬ hi<=s1:=by omega) (u4:I6 (s1+1):=by omega) (u5:(s1+1)<hi:=by omega) (u6:I6 s4:=by omega) (u7:Ix s4 ag:=by omega) (u8:I6 (s4+1):=by omega) (u9:Ix (s4+1) ag:=by omega) (u10:nK<0:=by omega) (u11:I6 s3:=by omega) (u12:Ix s3 ag:=by omega) (u13:I6 s2:=by omega) (u14:Ix s2 ag:=by omega) (u15:nBE<0:=by omega),zCH (some au) ag aj hi first az ao aC Z Nx Q0 Qr:=
 let s1:=(2*aC)+1;let s2:=first+(s1+1);let s3:=first+aC;let s4:=first+s1;let y0:=rcd nR nPB nQB;let y1:=rcd nM nP nQ;fun h1 h2 h3 h4 h5 h6 h7 h8 nx u1 u2 u3 u4 u5 u6 u7 u8 u9 u10 u11 u12 u13 u14 u15=>kO 0 (s1+1) [.g,.n (2*aC),.n s1,.g,.g,.g,.b false,.g,.n (s1+1),.g,.b true,.g,.g,.g,.g,.g,.n s4,.i,.l (qf (rcd nE nG nA)),.g,.g,.g,.n s4,.n (s4+1),.i,.l (qf (rcd nB nD nF)),.c (iV nK) Z,.b true,.g,.g,.n (s1+1),.g,.g,.g,.g,.g,.n s3,.i,.l (qf y1),.g,.g,.g,.n s2,.i,.l (qf y0),.c (iV nBE) Z,.b true,.g,.g,.g,.g,.n s3,.g,.g,.g,.n s2,.g,.g,.g,.n s2,.i,.l (qf y0),.g,.g,.g,.n s3,.i,.l (qf y1),.i,.e undef ZW,.i,.e undef ZB,.g,.g] (fun _ f=>an5 (w64 u1) (w64 u2) (yH u3) (w64 u4) (zR u5) (an6 (w64 u6) u7 h1 (w64 u6) (w64 u8) u9 (an6 h2 h3 (zR u10) (w64 u4) (w64 u11) u12 (an6 h4 (w64 u13) u14 h5 h6 (zR u15) (an6 (w64 u11) (w64 u13) (w64 u13) u14 h5 (w64 u11) (an6 u12 h4 u12 h7 u14 h8 f)))))) nx
theorem xDO {Qr:St->Prop}:let s1:=(2*aC)+1;let s2:=first+s1;∀ (h1:lz Z 45 (zL au (Int.toNat s2*3)) (qf (rcd nE nG nA))) (h2:lz Z 45 (zL au (Int.toNat (s2+1)*3)) (qf (rcd nB nD nF))) (h3:qm az (qf (rcd nE nG nA)::(qf (rcd nB nD nF))::ao) Z (iV nK) Z) (h4:lz Z 45 (zL au (Int.toNat (first+aC)*3)) (qf (rcd nM nP nQ))) (h5:lz Z 45 (zL au (Int.toNat (first+(s1+1))*3)) (qf (rcd nR nPB nQB))) (h6:qm az (qf (rcd nM nP nQ)::(qf (rcd nR nPB nQB))::ao) Z (iV nBE) Z) (nx:Qr Z) (u1:I6 (2*aC):=by omega) (u2:I6 s1:=by omega) (u3:¬ hi<=s1:=by omega) (u4:I6 (s1+1):=by omega) (u5:(s1+1)<hi:=by omega) (u6:I6 s2:=by omega) (u7:Ix s2 ag:=by omega) (u8:I6 (s2+1):=by omega) (u9:Ix (s2+1) ag:=by omega) (u10:nK<0:=by omega) (u11:I6 (first+aC):=by omega) (u12:Ix (first+aC) ag:=by omega) (u13:I6 (first+(s1+1)):=by omega) (u14:Ix (first+(s1+1)) ag:=by omega) (u15:¬ nBE<0:=by omega),zCH (some au) ag aj hi first az ao aC Z Nx Q0 Qr:=
 let s1:=(2*aC)+1;let s2:=first+s1;fun h1 h2 h3 h4 h5 h6 nx u1 u2 u3 u4 u5 u6 u7 u8 u9 u10 u11 u12 u13 u14 u15=>kO 2 () [.g,.n (2*aC),.n s1,.g,.g,.g,.b false,.g,.n (s1+1),.g,.b true,.g,.g,.g,.g,.g,.n s2,.i,.l (qf (rcd nE nG nA)),.g,.g,.g,.n s2,.n (s2+1),.i,.l (qf (rcd nB nD nF)),.c (iV nK) Z,.b true,.g,.g,.n (s1+1),.g,.g,.g,.g,.g,.n (first+aC),.i,.l (qf (rcd nM nP nQ)),.g,.g,.g,.n (first+(s1+1)),.i,.l (qf (rcd nR nPB nQB)),.c (iV nBE) Z,.b false,.g] (fun _ f=>an5 (w64 u1) (w64 u2) (yH u3) (w64 u4) (zR u5) (an6 (w64 u6) u7 h1 (w64 u6) (w64 u8) u9 (an6 h2 h3 (zR u10) (w64 u4) (w64 u11) u12 (an6 h4 (w64 u13) u14 h5 h6 (zT u15) f)))) nx
theorem xDN {Qr:St->Prop}:let s2:=(2*aC)+1;let s1:=first+s2;let s3:=first+aC;let y0:=rcd nE nG nA;let y1:=rcd nM nP nQ;let y2:=zL au (Int.toNat s1*3);let y3:=zL au (Int.toNat s3*3);∀ (h1:lz Z 45 y2 (qf y0)) (h2:lz Z 45 (zL au (Int.toNat (s1+1)*3)) (qf (rcd nB nD nF))) (h3:qm az (qf y0::(qf (rcd nB nD nF))::ao) Z (iV nK) Z) (h4:lz Z 45 y3 (qf y1)) (h5:qm az (qf y1::(qf y0)::ao) Z (iV nR) Z) (h6:qn (evL [pz y3,qf y0]) Z (.store 45 (.tmp 0) (.tmp 1))=some (undef,ZQ)) (h7:qn (evL [pz y2,qf y1]) ZQ (.store 45 (.tmp 0) (.tmp 1))=some (undef,ZA)) (nx:Nx s2 ZA) (u1:I6 (2*aC):=by omega) (u2:I6 s2:=by omega) (u3:¬ hi<=s2:=by omega) (u4:I6 (s2+1):=by omega) (u5:(s2+1)<hi:=by omega) (u6:I6 s1:=by omega) (u7:Ix s1 ag:=by omega) (u8:I6 (s1+1):=by omega) (u9:Ix (s1+1) ag:=by omega) (u10:¬ nK<0:=by omega) (u11:I6 s3:=by omega) (u12:Ix s3 ag:=by omega) (u13:nR<0:=by omega),zCH (some au) ag aj hi first az ao aC Z Nx Q0 Qr:=
 let s2:=(2*aC)+1;let s1:=first+s2;let s3:=first+aC;let y0:=rcd nE nG nA;let y1:=rcd nM nP nQ;fun h1 h2 h3 h4 h5 h6 h7 nx u1 u2 u3 u4 u5 u6 u7 u8 u9 u10 u11 u12 u13=>kO 0 s2 [.g,.n (2*aC),.n s2,.g,.g,.g,.b false,.g,.n (s2+1),.g,.b true,.g,.g,.g,.g,.g,.n s1,.i,.l (qf y0),.g,.g,.g,.n s1,.n (s1+1),.i,.l (qf (rcd nB nD nF)),.c (iV nK) Z,.b false,.g,.g,.g,.g,.g,.n s3,.i,.l (qf y1),.g,.g,.g,.n s1,.i,.l (qf y0),.c (iV nR) Z,.b true,.g,.g,.g,.g,.n s3,.g,.g,.g,.n s1,.g,.g,.g,.n s1,.i,.l (qf y0),.g,.g,.g,.n s3,.i,.l (qf y1),.i,.e undef ZQ,.i,.e undef ZA,.g,.g] (fun _ f=>an4 (w64 u1) (w64 u2) (yH u3) (w64 u4) (an6 (zR u5) (w64 u6) u7 h1 (w64 u6) (w64 u8) (an6 u9 h2 h3 (zT u10) (w64 u11) u12 (an6 h4 (w64 u6) u7 h1 h5 (zR u13) (an6 (w64 u11) (w64 u6) (w64 u6) u7 h1 (w64 u11) (an6 u12 h4 u12 h6 u7 h7 f)))))) nx
theorem xDM {Qr:St->Prop}:let s2:=2*aC;let s1:=first+(s2+1);let y0:=rcd nE nG nA;∀ (h1:lz Z 45 (zL au (Int.toNat s1*3)) (qf y0)) (h2:lz Z 45 (zL au (Int.toNat (s1+1)*3)) (qf (rcd nB nD nF))) (h3:qm az (qf y0::(qf (rcd nB nD nF))::ao) Z (iV nK) Z) (h4:lz Z 45 (zL au (Int.toNat (first+aC)*3)) (qf (rcd nM nP nQ))) (h5:qm az (qf (rcd nM nP nQ)::(qf y0)::ao) Z (iV nR) Z) (nx:Qr Z) (u1:I6 s2:=by omega) (u2:I6 (s2+1):=by omega) (u3:¬ hi<=(s2+1):=by omega) (u4:I6 ((s2+1)+1):=by omega) (u5:((s2+1)+1)<hi:=by omega) (u6:I6 s1:=by omega) (u7:Ix s1 ag:=by omega) (u8:I6 (s1+1):=by omega) (u9:Ix (s1+1) ag:=by omega) (u10:¬ nK<0:=by omega) (u11:I6 (first+aC):=by omega) (u12:Ix (first+aC) ag:=by omega) (u13:¬ nR<0:=by omega),zCH (some au) ag aj hi first az ao aC Z Nx Q0 Qr:=
 let s2:=2*aC;let s1:=first+(s2+1);let y0:=rcd nE nG nA;fun h1 h2 h3 h4 h5 nx u1 u2 u3 u4 u5 u6 u7 u8 u9 u10 u11 u12 u13=>kO 2 () [.g,.n s2,.n (s2+1),.g,.g,.g,.b false,.g,.n ((s2+1)+1),.g,.b true,.g,.g,.g,.g,.g,.n s1,.i,.l (qf y0),.g,.g,.g,.n s1,.n (s1+1),.i,.l (qf (rcd nB nD nF)),.c (iV nK) Z,.b false,.g,.g,.g,.g,.g,.n (first+aC),.i,.l (qf (rcd nM nP nQ)),.g,.g,.g,.n s1,.i,.l (qf y0),.c (iV nR) Z,.b false,.g] (fun _ f=>an4 (w64 u1) (w64 u2) (yH u3) (w64 u4) (an6 (zR u5) (w64 u6) u7 h1 (w64 u6) (w64 u8) (an6 u9 h2 h3 (zT u10) (w64 u11) u12 (an6 h4 (w64 u6) u7 h1 h5 (zT u13) f)))) nx
theorem xDL {Qr:St->Prop}:let s1:=(2*aC)+1;let s2:=first+aC;let s3:=first+s1;let y0:=rcd nE nG nA;let y1:=rcd nB nD nF;let y2:=zL au (Int.toNat s2*3);let y3:=zL au (Int.toNat s3*3);∀ (h1:lz Z 45 y2 (qf y0)) (h2:lz Z 45 y3 (qf y1)) (h3:qm az (qf y0::(qf y1)::ao) Z (iV nK) Z) (h4:qn (evL [pz y2,qf y1]) Z (.store 45 (.tmp 0) (.tmp 1))=some (undef,ZF)) (h5:qn (evL [pz y3,qf y0]) ZF (.store 45 (.tmp 0) (.tmp 1))=some (undef,ZKB)) (nx:Nx s1 ZKB) (u1:I6 (2*aC):=by omega) (u2:I6 s1:=by omega) (u3:¬ hi<=s1:=by omega) (u4:I6 (s1+1):=by omega) (u5:¬ (s1+1)<hi:=by omega) (u6:I6 s2:=by omega) (u7:Ix s2 ag:=by omega) (u8:I6 s3:=by omega) (u9:Ix s3 ag:=by omega) (u10:nK<0:=by omega),zCH (some au) ag aj hi first az ao aC Z Nx Q0 Qr:=
 let s1:=(2*aC)+1;let s2:=first+aC;let s3:=first+s1;let y0:=rcd nE nG nA;let y1:=rcd nB nD nF;fun h1 h2 h3 h4 h5 nx u1 u2 u3 u4 u5 u6 u7 u8 u9 u10=>kO 0 s1 [.g,.n (2*aC),.n s1,.g,.g,.g,.b false,.g,.n (s1+1),.g,.b false,.g,.g,.g,.g,.g,.g,.n s2,.i,.l (qf y0),.g,.g,.g,.n s3,.i,.l (qf y1),.c (iV nK) Z,.b true,.g,.g,.g,.g,.n s2,.g,.g,.g,.n s3,.g,.g,.g,.n s3,.i,.l (qf y1),.g,.g,.g,.n s2,.i,.l (qf y0),.i,.e undef ZF,.i,.e undef ZKB,.g,.g] (fun _ f=>ai (w64 u1) (an6 (w64 u2) (yH u3) (w64 u4) (zT u5) (w64 u6) u7 (an6 h1 (w64 u8) u9 h2 h3 (zR u10) (an6 (w64 u6) (w64 u8) (w64 u8) u9 h2 (w64 u6) (an6 u7 h1 u7 h4 u9 h5 f))))) nx
theorem xDK {Qr:St->Prop} (h1:lz Z 45 (zL au (Int.toNat (first+aC)*3)) (qf (rcd nE nG nA))) (h2:lz Z 45 (zL au (Int.toNat (first+((2*aC)+1))*3)) (qf (rcd nB nD nF))) (h3:qm az (qf (rcd nE nG nA)::(qf (rcd nB nD nF))::ao) Z (iV nK) Z) (nx:Qr Z) (u1:I6 (2*aC):=by omega) (u2:I6 ((2*aC)+1):=by omega) (u3:¬ hi<=((2*aC)+1):=by omega) (u4:I6 (((2*aC)+1)+1):=by omega) (u5:¬ (((2*aC)+1)+1)<hi:=by omega) (u6:I6 (first+aC):=by omega) (u7:Ix (first+aC) ag:=by omega) (u8:I6 (first+((2*aC)+1)):=by omega) (u9:Ix (first+((2*aC)+1)) ag:=by omega) (u10:¬ nK<0:=by omega):zCH (some au) ag aj hi first az ao aC Z Nx Q0 Qr :=
 let s1:=(2*aC)+1;kO 2 () [.g,.n (2*aC),.n s1,.g,.g,.g,.b false,.g,.n (s1+1),.g,.b false,.g,.g,.g,.g,.g,.g,.n (first+aC),.i,.l (qf (rcd nE nG nA)),.g,.g,.g,.n (first+s1),.i,.l (qf (rcd nB nD nF)),.c (iV nK) Z,.b false,.g] (fun _ f=>ai (w64 u1) (an6 (w64 u2) (yH u3) (w64 u4) (zT u5) (w64 u6) u7 (an6 h1 (w64 u8) u9 h2 h3 (zT u10) f))) nx
theorem xKB (hL:yMT data ag aj hi first az ao lo_1 Z P0 Pr) (k0:∀ Z',P0 Z'->zYD data ag aj hi first az ao Z' Q) (kr:∀ Z',Pr Z'->zYC data ag aj hi first az ao Z' Q):qg 121 [.slice data ag aj,iV lo_1,iV hi,iV first,.func (.func az) ⟨[]⟩ ⟨ao⟩] Z Q :=
 zG [.g,.g,.lf 82 (zJB data ag aj hi first az ao lo_1) [zNS data ag aj hi first az ao P0,zNR data ag aj hi first az ao Pr]] (kd (ai (ai tt (ai (arf (zJB data ag aj hi first az ao lo_1)) hL)) (ai (kz0 k0) (ai (kz0 kr) trivial))))
theorem yMQ (nx:Q (.tuple ⟨[]⟩) Z):zYD data ag aj hi first az ao Z Q :=
 sK [] nx
theorem yMP (nx:Q (.tuple ⟨[]⟩) Z):zYC data ag aj hi first az ao Z Q :=
 sK [] nx
theorem yPT (hb:∀ k aH Z,Inv k aH Z->yAO data ag aj az ao a_1 kB aH Z (NX1 Inv k) Q0):∀ k aH Z,Inv k aH Z->yPX data ag aj az ao a_1 kB aH Z Q0 :=
 xF (ai (xX 0) trivial) hb
theorem xGV (h1:qm 121 [.slice data ag aj,iV aH,iV kB,iV a_1,.func (.func az) ⟨[]⟩ ⟨ao⟩] Z (.tuple ⟨[]⟩) ZR) (nx:Nx (aH-1) ZR) (u1:0<=aH:=by omega) (u2:I6 (aH-1):=by omega):yAO data ag aj az ao a_1 kB aH Z Nx Q0 :=
 kO 0 (aH-1) [.g,.b true,.g,.g,.g,.g,.g,.c (.tuple ⟨[]⟩) ZR,.g,.n (aH-1),.g] (fun _ f=>an3 (yE u1) h1 (w64 u2) f) nx
theorem xGU (nx:Q0 Z) (u1:¬ 0<=aH:=by omega):yAO data ag aj az ao a_1 kB aH Z Nx Q0 :=
 kO 1 () [.g,.b false] (fun _ f=>ai (yH u1) f) nx
theorem xON (h1:IntKind.wrap .i64 (Int.tdiv ((b-a_1)-1) 2)=Int.tdiv ((b-a_1)-1) 2) (hL:yPX data ag aj az ao a_1 (b-a_1) (Int.tdiv ((b-a_1)-1) 2) Z P0) (k0:∀ Z',P0 Z'->yAM data ag aj az ao a_1 (b-a_1) Z' Q) (u1:I6 (b-a_1):=by omega) (u2:I6 ((b-a_1)-1):=by omega):qg 107 [.slice data ag aj,iV a_1,iV b,.func (.func az) ⟨[]⟩ ⟨ao⟩] Z Q :=
 let s1:=zQR data ag aj az ao a_1 (b-a_1) (Int.tdiv ((b-a_1)-1) 2);zG [.g,.g,.g,.g,.g,.n (b-a_1),.g,.g,.n ((b-a_1)-1),.n (Int.tdiv ((b-a_1)-1) 2),.g,.lf 60 s1 [zOL data ag aj az ao a_1 (b-a_1) P0]] (kd (an3 (w64 u1) (w64 u2) h1 (ai (ai tt (ai (arf s1) hL)) (ai (kz0 k0) trivial))))
theorem yPS {Q2:St->Prop} (hb:∀ k dV Z,Inv k dV Z->yAN data ag aj az ao a_1 dV Z (NX1 Inv k) Q2):∀ k dV Z,Inv k dV Z->yPW data ag aj az ao a_1 dV Z Q2 :=
 xF (ai (xX 2) trivial) hb
theorem xGT {Q2:St->Prop} (h1:lz Z 45 (zL au (Int.toNat (a_1+dV)*3)) (qf (rcd nS nV nW))) (h2:lz Z 45 (zL au (Int.toNat a_1*3)) (qf (rcd nU nH nI))) (h3:qn (evL [pz (zL au (Int.toNat a_1*3)),qf (rcd nS nV nW)]) Z (.store 45 (.tmp 0) (.tmp 1))=some (undef,ZLB)) (h4:qn (evL [pz (zL au (Int.toNat (a_1+dV)*3)),qf (rcd nU nH nI)]) ZLB (.store 45 (.tmp 0) (.tmp 1))=some (undef,ZY)) (h5:qm 121 [.slice (some au) ag aj,iV 0,iV dV,iV a_1,.func (.func az) ⟨[]⟩ ⟨ao⟩] ZY (.tuple ⟨[]⟩) ZZ) (nx:Nx (dV-1) ZZ) (u1:0<=dV:=by omega) (u2:I6 (a_1+dV):=by omega) (u3:Ix (a_1+dV) ag:=by omega) (u4:Ix a_1 ag:=by omega) (u5:I6 (dV-1):=by omega):yAN (some au) ag aj az ao a_1 dV Z Nx Q2 :=
 kO 0 (dV-1) [.g,.b true,.g,.g,.g,.g,.g,.n (a_1+dV),.g,.g,.g,.n (a_1+dV),.i,.l (qf (rcd nS nV nW)),.g,.g,.i,.l (qf (rcd nU nH nI)),.i,.e undef ZLB,.i,.e undef ZY,.g,.g,.g,.g,.g,.c (.tuple ⟨[]⟩) ZZ,.g,.n (dV-1),.g] (fun _ f=>ai (yE u1) (an6 (w64 u2) (w64 u2) u3 h1 u4 h2 (an6 u4 h3 u3 h4 h5 (w64 u5) f))) nx
theorem xGS {Q2:St->Prop} (nx:Q2 Z) (u1:¬ 0<=dV:=by omega):yAN data ag aj az ao a_1 dV Z Nx Q2 :=
 kO 1 () [.g,.b false] (fun _ f=>ai (yH u1) f) nx
theorem yPR {P2:St->Prop} (hL:yPW data ag aj az ao a_1 (kB-1) Z P2) (k2:∀ Z',P2 Z'->yAL data ag aj az ao a_1 Z' Q) (u1:I6 (kB-1):=by omega):yAM data ag aj az ao a_1 kB Z Q :=
 let s1:=zQQ data ag aj az ao a_1 (kB-1);sK [.g,.n (kB-1),.g,.lf 60 s1 [zOK data ag aj az ao a_1 P2]] (ai (w64 u1) (ai (ai tt (ai (arf s1) hL)) (ai (kz0 k2) trivial)))
theorem yPQ (nx:Q (.tuple ⟨[]⟩) Z):yAL data ag aj az ao a_1 Z Q :=
 sK [] nx
theorem yJP {Inv:Nat->Int->Int->St->Prop} {Q0:Int->St->Prop} (hb:∀ k aH aY Z,Inv k aH aY Z->yFM au ag aj a_1 az ao aH aY Z (NX2 Inv k) Q0):∀ k aH aY Z,Inv k aH aY Z->yFL au ag aj a_1 az ao aH aY Z Q0 :=
 zEB (ai (xX 0) trivial) hb
theorem yJO (hb:∀ k bb Z,Inv k bb Z->zLV au ag aj a_1 az ao aY bb Z (NX1 Inv k) Q2):∀ k bb Z,Inv k bb Z->yFK au ag aj a_1 az ao aY bb Z Q2 :=
 xF (ai (xX 2) trivial) hb
theorem yWC (h1:lz Z 45 (zL au (Int.toNat a_1*3)) (qf (rcd nS nV nW))) (h2:lz Z 45 (zL au (Int.toNat bb*3)) (qf (rcd nU nH nI))) (h3:qm az (qf (rcd nS nV nW)::(qf (rcd nU nH nI))::ao) Z (iV nJ) Z) (nx:Q2 bb Z) (u1:bb<=aY:=by omega) (u2:Ix a_1 ag:=by omega) (u3:Ix bb ag:=by omega) (u4:nJ<0:=by omega):zLV au ag aj a_1 az ao aY bb Z Nx Q2 :=
 kO 1 bb [.g,.g,.b true,.g,.g,.g,.g,.i,.l (qf (rcd nS nV nW)),.g,.g,.i,.l (qf (rcd nU nH nI)),.c (iV nJ) Z,.b true,.g,.g] (fun _ f=>ai (yE u1) (an6 u2 h1 u3 h2 h3 (zR u4) f)) nx
theorem yWB (h1:lz Z 45 (zL au (Int.toNat a_1*3)) (qf (rcd nS nV nW))) (h2:lz Z 45 (zL au (Int.toNat bb*3)) (qf (rcd nU nH nI))) (h3:qm az (qf (rcd nS nV nW)::(qf (rcd nU nH nI))::ao) Z (iV nJ) Z) (nx:Nx (bb+1) Z) (u1:bb<=aY:=by omega) (u2:Ix a_1 ag:=by omega) (u3:Ix bb ag:=by omega) (u4:¬ nJ<0:=by omega) (u5:I6 (bb+1):=by omega):zLV au ag aj a_1 az ao aY bb Z Nx Q2 :=
 kO 0 (bb+1) [.g,.g,.b true,.g,.g,.g,.g,.i,.l (qf (rcd nS nV nW)),.g,.g,.i,.l (qf (rcd nU nH nI)),.c (iV nJ) Z,.b false,.g,.g,.g,.n (bb+1),.g] (fun _ f=>an2 (yE u1) u2 (an6 h1 u3 h2 h3 (zT u4) (w64 u5) f)) nx
theorem yWA (nx:Q2 bb Z) (u1:¬ bb<=aY:=by omega):zLV au ag aj a_1 az ao aY bb Z Nx Q2 :=
 kO 1 bb [.g,.g,.b false,.g,.g] (fun _ f=>ai (yH u1) f) nx
theorem yWD {Nx:Int->Int->St->Prop} {Q0:Int->St->Prop} (hL:yFK au ag aj a_1 az ao aY aH Z P2) (k2:∀ i11_2' Z',P2 i11_2' Z'->zUW au ag aj a_1 az ao aY i11_2' Z' Nx Q0):yFM au ag aj a_1 az ao aH aY Z Nx Q0 :=
 zDG [.lf 90 (zGC au ag aj a_1 az ao aY aH) [zKA au ag aj a_1 az ao aY P2]] (fun g=>kd (ai (ai tt (ai (arf (zGC au ag aj a_1 az ao aY aH)) hL)) (ai (kz1 k2) trivial)))
theorem yJN (hb:∀ k bK Z,Inv k bK Z->zLU au ag aj a_1 az ao bb bK Z (NX1 Inv k) Q4):∀ k bK Z,Inv k bK Z->yFJ au ag aj a_1 az ao bb bK Z Q4 :=
 xF (ai (xX 4) trivial) hb
theorem yVZ (h1:lz Z 45 (zL au (Int.toNat a_1*3)) (qf (rcd nT nRB nFB))) (h2:lz Z 45 (zL au (Int.toNat bK*3)) (qf (rcd nSB nTB nGB))) (h3:qm az (qf (rcd nT nRB nFB)::(qf (rcd nSB nTB nGB))::ao) Z (iV nJB) Z) (nx:Nx (bK-1) Z) (u1:bb<=bK:=by omega) (u2:Ix a_1 ag:=by omega) (u3:Ix bK ag:=by omega) (u4:nJB<0:=by omega) (u5:I6 (bK-1):=by omega):zLU au ag aj a_1 az ao bb bK Z Nx Q4 :=
 kO 0 (bK-1) [.g,.g,.b true,.g,.g,.g,.g,.i,.l (qf (rcd nT nRB nFB)),.g,.g,.i,.l (qf (rcd nSB nTB nGB)),.c (iV nJB) Z,.b true,.g,.g,.n (bK-1),.g] (fun _ f=>an2 (yE u1) u2 (an6 h1 u3 h2 h3 (zR u4) (w64 u5) f)) nx
theorem yVY (h1:lz Z 45 (zL au (Int.toNat a_1*3)) (qf (rcd nT nRB nFB))) (h2:lz Z 45 (zL au (Int.toNat bK*3)) (qf (rcd nSB nTB nGB))) (h3:qm az (qf (rcd nT nRB nFB)::(qf (rcd nSB nTB nGB))::ao) Z (iV nJB) Z) (nx:Q4 bK Z) (u1:bb<=bK:=by omega) (u2:Ix a_1 ag:=by omega) (u3:Ix bK ag:=by omega) (u4:¬ nJB<0:=by omega):zLU au ag aj a_1 az ao bb bK Z Nx Q4 :=
 kO 1 bK [.g,.g,.b true,.g,.g,.g,.g,.i,.l (qf (rcd nT nRB nFB)),.g,.g,.i,.l (qf (rcd nSB nTB nGB)),.c (iV nJB) Z,.b false,.g] (fun _ f=>ai (yE u1) (an6 u2 h1 u3 h2 h3 (zT u4) f)) nx
theorem yVX (nx:Q4 bK Z) (u1:¬ bb<=bK:=by omega):zLU au ag aj a_1 az ao bb bK Z Nx Q4 :=
 kO 1 bK [.g,.g,.b false,.g,.g] (fun _ f=>ai (yH u1) f) nx
theorem yJL {Nx:Int->Int->St->Prop} {Q0:Int->St->Prop} (hL:yFJ au ag aj a_1 az ao bb aY Z P4) (k4:∀ i12_3' Z',P4 i12_3' Z'->zKB au ag aj a_1 az ao bb i12_3' Z' Nx Q0):zUW au ag aj a_1 az ao aY bb Z Nx Q0 :=
 sK [.lf 90 (zGB au ag aj a_1 az ao bb aY) [zJZ au ag aj a_1 az ao bb P4]] (ai (ai tt (ai (arf (zGB au ag aj a_1 az ao bb aY)) hL)) (ai (kz1 k4) trivial))
theorem yJK {Nx:Int->Int->St->Prop} {Q0:Int->St->Prop} (nx:Q0 bb Z) (u1:bK<bb:=by omega):zKB au ag aj a_1 az ao bb bK Z Nx Q0 :=
 sF 1 bb [.g,.g,.b true] (fun _ f=>ai (zR u1) f) nx
theorem yJJ {Nx:Int->Int->St->Prop} {Q0:Int->St->Prop} (h1:lz Z 45 (zL au (Int.toNat bK*3)) (qf (rcd nDB nEB nX))) (h2:lz Z 45 (zL au (Int.toNat bb*3)) (qf (rcd nY nZ nAB))) (h3:qn (evL [pz (zL au (Int.toNat bb*3)),qf (rcd nDB nEB nX)]) Z (.store 45 (.tmp 0) (.tmp 1))=some (undef,ZMB)) (h4:qn (evL [pz (zL au (Int.toNat bK*3)),qf (rcd nY nZ nAB)]) ZMB (.store 45 (.tmp 0) (.tmp 1))=some (undef,ZNB)) (nx:Nx (bb+1) (bK-1) ZNB) (u1:¬ bK<bb:=by omega) (u2:Ix bK ag:=by omega) (u3:Ix bb ag:=by omega) (u4:I6 (bb+1):=by omega) (u5:I6 (bK-1):=by omega):zKB au ag aj a_1 az ao bb bK Z Nx Q0 :=
 sF 0 (bb+1,bK-1) [.g,.g,.b false,.g,.g,.g,.g,.g,.g,.i,.l (qf (rcd nDB nEB nX)),.g,.g,.i,.l (qf (rcd nY nZ nAB)),.i,.e undef ZMB,.i,.e undef ZNB,.g,.n (bb+1),.g,.g,.n (bK-1),.g] (fun _ f=>an5 (zT u1) u2 h1 u3 h2 (an6 u3 h3 u2 h4 (w64 u4) (w64 u5) f)) nx
theorem xGC {P0:Int->St->Prop} (h1:lz Z 45 (zL au (Int.toNat dA*3)) (qf (rcd n1 n2 n3))) (h2:lz Z 45 (zL au (Int.toNat a_1*3)) (qf (rcd n4 n5 n6))) (h3:qn (evL [pz (zL au (Int.toNat a_1*3)),qf (rcd n1 n2 n3)]) Z (.store 45 (.tmp 0) (.tmp 1))=some (undef,Z7)) (h4:qn (evL [pz (zL au (Int.toNat dA*3)),qf (rcd n4 n5 n6)]) Z7 (.store 45 (.tmp 0) (.tmp 1))=some (undef,Z8)) (hL:yFL au ag aj a_1 az ao (a_1+1) (b-1) Z8 P0) (k0:∀ i11_1' Z',P0 i11_1' Z'->zUX au ag aj a_1 az ao i11_1' Z' Q) (u1:Ix dA ag:=by omega) (u2:Ix a_1 ag:=by omega) (u3:I6 (a_1+1):=by omega) (u4:I6 (b-1):=by omega):qg 112 [.slice (some au) ag aj,iV a_1,iV b,iV dA,.func (.func az) ⟨[]⟩ ⟨ao⟩] Z Q :=
 let s1:=zLS au ag aj a_1 az ao (a_1+1) (b-1);zG [.g,.g,.g,.g,.g,.g,.g,.i,.l (qf (rcd n1 n2 n3)),.g,.g,.i,.l (qf (rcd n4 n5 n6)),.i,.e undef Z7,.i,.e undef Z8,.g,.n (a_1+1),.g,.n (b-1),.g,.g,.lf 90 s1 [zCL au ag aj a_1 az ao P0]] (kd (an4 u1 h1 u2 h2 (an6 u2 h3 u1 h4 (w64 u3) (w64 u4) (ai (ai tt (ai (arf s1) hL)) (ai (kz1 k0) trivial)))))
theorem yJM (nx:Q (iV aH) Z):zUX au ag aj a_1 az ao aH Z Q :=
 sK [.g,.g] nx
theorem yVV {Q0:Int->St->Prop} (hb:∀ k aY Z,Inv k aY Z->zWW au ag aj a_1 az ao kB aY Z (NX1 Inv k) Q0):∀ k aY Z,Inv k aY Z->xBJ au ag aj a_1 az ao kB aY Z Q0 :=
 xF (ai (xX 0) trivial) hb
theorem xLZ {Q0:Int->St->Prop} (h1:lz Z 45 (zL au (Int.toNat aY*3)) (qf (rcd nE nG nA))) (h2:lz Z 45 (zL au (Int.toNat a_1*3)) (qf (rcd nB nD nF))) (h3:qm az (qf (rcd nE nG nA)::(qf (rcd nB nD nF))::ao) Z (iV nK) Z) (nx:Nx (aY+1) Z) (u1:aY<=kB:=by omega) (u2:Ix aY ag:=by omega) (u3:Ix a_1 ag:=by omega) (u4:nK<0:=by omega) (u5:I6 (aY+1):=by omega):zWW au ag aj a_1 az ao kB aY Z Nx Q0 :=
 kO 0 (aY+1) [.g,.g,.b true,.g,.g,.g,.g,.i,.l (qf (rcd nE nG nA)),.g,.g,.i,.l (qf (rcd nB nD nF)),.c (iV nK) Z,.b true,.g,.g,.n (aY+1),.g] (fun _ f=>an2 (yE u1) u2 (an6 h1 u3 h2 h3 (zR u4) (w64 u5) f)) nx
theorem xLY {Q0:Int->St->Prop} (h1:lz Z 45 (zL au (Int.toNat aY*3)) (qf (rcd nE nG nA))) (h2:lz Z 45 (zL au (Int.toNat a_1*3)) (qf (rcd nB nD nF))) (h3:qm az (qf (rcd nE nG nA)::(qf (rcd nB nD nF))::ao) Z (iV nK) Z) (nx:Q0 aY Z) (u1:aY<=kB:=by omega) (u2:Ix aY ag:=by omega) (u3:Ix a_1 ag:=by omega) (u4:¬ nK<0:=by omega):zWW au ag aj a_1 az ao kB aY Z Nx Q0 :=
 kO 1 aY [.g,.g,.b true,.g,.g,.g,.g,.i,.l (qf (rcd nE nG nA)),.g,.g,.i,.l (qf (rcd nB nD nF)),.c (iV nK) Z,.b false,.g] (fun _ f=>ai (yE u1) (an6 u2 h1 u3 h2 h3 (zT u4) f)) nx
theorem xLX {Q0:Int->St->Prop} (nx:Q0 aY Z) (u1:¬ aY<=kB:=by omega):zWW au ag aj a_1 az ao kB aY Z Nx Q0 :=
 kO 1 aY [.g,.g,.b false,.g,.g] (fun _ f=>ai (yH u1) f) nx
theorem xTN {P0:Int->St->Prop} (h1:lz Z 45 (zL au (Int.toNat dA*3)) (qf (rcd n1 n2 n3))) (h2:lz Z 45 (zL au (Int.toNat a_1*3)) (qf (rcd n4 n5 n6))) (h3:qn (evL [pz (zL au (Int.toNat a_1*3)),qf (rcd n1 n2 n3)]) Z (.store 45 (.tmp 0) (.tmp 1))=some (undef,Z7)) (h4:qn (evL [pz (zL au (Int.toNat dA*3)),qf (rcd n4 n5 n6)]) Z7 (.store 45 (.tmp 0) (.tmp 1))=some (undef,Z8)) (hL:xBJ au ag aj a_1 az ao (b-1) (a_1+1) Z8 P0) (k0:∀ i12_1' Z',P0 i12_1' Z'->yFG au ag aj a_1 az ao (b-1) i12_1' Z' Q) (u1:Ix dA ag:=by omega) (u2:Ix a_1 ag:=by omega) (u3:I6 (a_1+1):=by omega) (u4:I6 (b-1):=by omega):qg 113 [.slice (some au) ag aj,iV a_1,iV b,iV dA,.func (.func az) ⟨[]⟩ ⟨ao⟩] Z Q :=
 let s1:=zWR au ag aj a_1 az ao (b-1) (a_1+1);zG [.g,.g,.g,.g,.g,.g,.g,.g,.i,.l (qf (rcd n1 n2 n3)),.g,.g,.i,.l (qf (rcd n4 n5 n6)),.i,.e undef Z7,.i,.e undef Z8,.g,.n (a_1+1),.g,.n (b-1),.g,.g,.lf 178 s1 [zSG au ag aj a_1 az ao (b-1) P0]] (kd (an4 u1 h1 u2 h2 (an6 u2 h3 u1 h4 (w64 u3) (w64 u4) (ai (ai tt (ai (arf s1) hL)) (ai (kz1 k0) trivial)))))
theorem yVU (hb:∀ k bT Z,Inv k bT Z->zWV au ag aj a_1 az ao aY bT Z (NX1 Inv k) Q2):∀ k bT Z,Inv k bT Z->xBI au ag aj a_1 az ao aY bT Z Q2 :=
 xF (ai (xX 2) trivial) hb
theorem xLW (h1:lz Z 45 (zL au (Int.toNat bT*3)) (qf (rcd nS nV nW))) (h2:lz Z 45 (zL au (Int.toNat a_1*3)) (qf (rcd nU nH nI))) (h3:qm az (qf (rcd nS nV nW)::(qf (rcd nU nH nI))::ao) Z (iV nJ) Z) (nx:Q2 bT Z) (u1:aY<=bT:=by omega) (u2:Ix bT ag:=by omega) (u3:Ix a_1 ag:=by omega) (u4:nJ<0:=by omega):zWV au ag aj a_1 az ao aY bT Z Nx Q2 :=
 kO 1 bT [.g,.g,.b true,.g,.g,.g,.g,.i,.l (qf (rcd nS nV nW)),.g,.g,.i,.l (qf (rcd nU nH nI)),.c (iV nJ) Z,.b true,.g,.g] (fun _ f=>ai (yE u1) (an6 u2 h1 u3 h2 h3 (zR u4) f)) nx
theorem xLV (h1:lz Z 45 (zL au (Int.toNat bT*3)) (qf (rcd nS nV nW))) (h2:lz Z 45 (zL au (Int.toNat a_1*3)) (qf (rcd nU nH nI))) (h3:qm az (qf (rcd nS nV nW)::(qf (rcd nU nH nI))::ao) Z (iV nJ) Z) (nx:Nx (bT-1) Z) (u1:aY<=bT:=by omega) (u2:Ix bT ag:=by omega) (u3:Ix a_1 ag:=by omega) (u4:¬ nJ<0:=by omega) (u5:I6 (bT-1):=by omega):zWV au ag aj a_1 az ao aY bT Z Nx Q2 :=
 kO 0 (bT-1) [.g,.g,.b true,.g,.g,.g,.g,.i,.l (qf (rcd nS nV nW)),.g,.g,.i,.l (qf (rcd nU nH nI)),.c (iV nJ) Z,.b false,.g,.g,.g,.n (bT-1),.g] (fun _ f=>an2 (yE u1) u2 (an6 h1 u3 h2 h3 (zT u4) (w64 u5) f)) nx
theorem xLU (nx:Q2 bT Z) (u1:¬ aY<=bT:=by omega):zWV au ag aj a_1 az ao aY bT Z Nx Q2 :=
 kO 1 bT [.g,.g,.b false,.g,.g] (fun _ f=>ai (yH u1) f) nx
theorem yVQ (hL:xBI au ag aj a_1 az ao aY kB Z P2) (k2:∀ i13_2' Z',P2 i13_2' Z'->zSI au ag aj a_1 az ao aY i13_2' Z' Q):yFG au ag aj a_1 az ao kB aY Z Q :=
 sK [.lf 178 (zQB au ag aj a_1 az ao aY kB) [zSF au ag aj a_1 az ao aY P2]] (ai (ai tt (ai (arf (zQB au ag aj a_1 az ao aY kB)) hL)) (ai (kz1 k2) trivial))
theorem yVP (h1:lz Z 45 (zL au (Int.toNat a_1*3)) (qf (rcd nCC nBF nBG))) (h2:lz Z 45 (zL au (Int.toNat bT*3)) (qf (rcd nDC nEC nFC))) (h3:qn (evL [pz (zL au (Int.toNat bT*3)),qf (rcd nCC nBF nBG)]) Z (.store 45 (.tmp 0) (.tmp 1))=some (undef,ZO)) (h4:qn (evL [pz (zL au (Int.toNat a_1*3)),qf (rcd nDC nEC nFC)]) ZO (.store 45 (.tmp 0) (.tmp 1))=some (undef,ZAB)) (nx:Q (.tuple ⟨[iV bT,.bool true]⟩) ZAB) (u1:bT<aY:=by omega) (u2:Ix a_1 ag:=by omega) (u3:Ix bT ag:=by omega):zSI au ag aj a_1 az ao aY bT Z Q :=
 sK [.g,.g,.b true,.g,.g,.g,.g,.g,.g,.i,.l (qf (rcd nCC nBF nBG)),.g,.g,.i,.l (qf (rcd nDC nEC nFC)),.i,.e undef ZO,.i,.e undef ZAB,.g,.g,.g] (an3 (zR u1) u2 h1 (an6 u3 h2 u3 h3 u2 h4 nx))
theorem yVT {Inv:Nat->Int->Int->St->Prop} (hb:∀ k bK aF Z,Inv k bK aF Z->xBK au ag aj a_1 az ao bK aF Z (NX2 Inv k) Q4):∀ k bK aF Z,Inv k bK aF Z->xBH au ag aj a_1 az ao bK aF Z Q4 :=
 zEB (ai (xX 4) trivial) hb
theorem yVS (hb:∀ k a9 Z,Inv k a9 Z->zWU au ag aj a_1 az ao aF a9 Z (NX1 Inv k) Q6):∀ k a9 Z,Inv k a9 Z->xBG au ag aj a_1 az ao aF a9 Z Q6 :=
 xF (ai (xX 6) trivial) hb
theorem xLS (h1:lz Z 45 (zL au (Int.toNat a9*3)) (qf (rcd nCB nHB nUB))) (h2:lz Z 45 (zL au (Int.toNat a_1*3)) (qf (rcd nVB nWB nXB))) (h3:qm az (qf (rcd nCB nHB nUB)::(qf (rcd nVB nWB nXB))::ao) Z (iV nBC) Z) (nx:Nx (a9+1) Z) (u1:a9<=aF:=by omega) (u2:Ix a9 ag:=by omega) (u3:Ix a_1 ag:=by omega) (u4:nBC<0:=by omega) (u5:I6 (a9+1):=by omega):zWU au ag aj a_1 az ao aF a9 Z Nx Q6 :=
 kO 0 (a9+1) [.g,.g,.b true,.g,.g,.g,.g,.i,.l (qf (rcd nCB nHB nUB)),.g,.g,.i,.l (qf (rcd nVB nWB nXB)),.c (iV nBC) Z,.b true,.g,.g,.n (a9+1),.g] (fun _ f=>an2 (yE u1) u2 (an6 h1 u3 h2 h3 (zR u4) (w64 u5) f)) nx
theorem xLR (h1:lz Z 45 (zL au (Int.toNat a9*3)) (qf (rcd nCB nHB nUB))) (h2:lz Z 45 (zL au (Int.toNat a_1*3)) (qf (rcd nVB nWB nXB))) (h3:qm az (qf (rcd nCB nHB nUB)::(qf (rcd nVB nWB nXB))::ao) Z (iV nBC) Z) (nx:Q6 a9 Z) (u1:a9<=aF:=by omega) (u2:Ix a9 ag:=by omega) (u3:Ix a_1 ag:=by omega) (u4:¬ nBC<0:=by omega):zWU au ag aj a_1 az ao aF a9 Z Nx Q6 :=
 kO 1 a9 [.g,.g,.b true,.g,.g,.g,.g,.i,.l (qf (rcd nCB nHB nUB)),.g,.g,.i,.l (qf (rcd nVB nWB nXB)),.c (iV nBC) Z,.b false,.g] (fun _ f=>ai (yE u1) (an6 u2 h1 u3 h2 h3 (zT u4) f)) nx
theorem xLQ (nx:Q6 a9 Z) (u1:¬ a9<=aF:=by omega):zWU au ag aj a_1 az ao aF a9 Z Nx Q6 :=
 kO 1 a9 [.g,.g,.b false,.g,.g] (fun _ f=>ai (yH u1) f) nx
theorem xLT {Nx:Int->Int->St->Prop} {P6:Int->St->Prop} (hL:xBG au ag aj a_1 az ao aF bK Z P6) (k6:∀ i12_4' Z',P6 i12_4' Z'->yFE au ag aj a_1 az ao aF i12_4' Z' Nx Q4):xBK au ag aj a_1 az ao bK aF Z Nx Q4 :=
 zDG [.lf 178 (zQA au ag aj a_1 az ao aF bK) [zSE au ag aj a_1 az ao aF P6]] (fun g=>kd (ai (ai tt (ai (arf (zQA au ag aj a_1 az ao aF bK)) hL)) (ai (kz1 k6) trivial)))
theorem yVR (hb:∀ k bV Z,Inv k bV Z->zWT au ag aj a_1 az ao a9 bV Z (NX1 Inv k) Q8):∀ k bV Z,Inv k bV Z->xBF au ag aj a_1 az ao a9 bV Z Q8 :=
 xF (ai (xX 8) trivial) hb
theorem xLP (h1:lz Z 45 (zL au (Int.toNat bV*3)) (qf (rcd nBH nBI nBJ))) (h2:lz Z 45 (zL au (Int.toNat a_1*3)) (qf (rcd nBK nBL nBM))) (h3:qm az (qf (rcd nBH nBI nBJ)::(qf (rcd nBK nBL nBM))::ao) Z (iV nBN) Z) (nx:Q8 bV Z) (u1:a9<=bV:=by omega) (u2:Ix bV ag:=by omega) (u3:Ix a_1 ag:=by omega) (u4:nBN<0:=by omega):zWT au ag aj a_1 az ao a9 bV Z Nx Q8 :=
 kO 1 bV [.g,.g,.b true,.g,.g,.g,.g,.i,.l (qf (rcd nBH nBI nBJ)),.g,.g,.i,.l (qf (rcd nBK nBL nBM)),.c (iV nBN) Z,.b true,.g,.g] (fun _ f=>ai (yE u1) (an6 u2 h1 u3 h2 h3 (zR u4) f)) nx
theorem xLO (h1:lz Z 45 (zL au (Int.toNat bV*3)) (qf (rcd nBH nBI nBJ))) (h2:lz Z 45 (zL au (Int.toNat a_1*3)) (qf (rcd nBK nBL nBM))) (h3:qm az (qf (rcd nBH nBI nBJ)::(qf (rcd nBK nBL nBM))::ao) Z (iV nBN) Z) (nx:Nx (bV-1) Z) (u1:a9<=bV:=by omega) (u2:Ix bV ag:=by omega) (u3:Ix a_1 ag:=by omega) (u4:¬ nBN<0:=by omega) (u5:I6 (bV-1):=by omega):zWT au ag aj a_1 az ao a9 bV Z Nx Q8 :=
 kO 0 (bV-1) [.g,.g,.b true,.g,.g,.g,.g,.i,.l (qf (rcd nBH nBI nBJ)),.g,.g,.i,.l (qf (rcd nBK nBL nBM)),.c (iV nBN) Z,.b false,.g,.g,.g,.n (bV-1),.g] (fun _ f=>an2 (yE u1) u2 (an6 h1 u3 h2 h3 (zT u4) (w64 u5) f)) nx
theorem xLN (nx:Q8 bV Z) (u1:¬ a9<=bV:=by omega):zWT au ag aj a_1 az ao a9 bV Z Nx Q8 :=
 kO 1 bV [.g,.g,.b false,.g,.g] (fun _ f=>ai (yH u1) f) nx
theorem yVM {Nx:Int->Int->St->Prop} (hL:xBF au ag aj a_1 az ao a9 aF Z P8) (k8:∀ i13_5' Z',P8 i13_5' Z'->zSH au ag aj a_1 az ao a9 i13_5' Z' Nx Q4):yFE au ag aj a_1 az ao aF a9 Z Nx Q4 :=
 sK [.lf 178 (zPZ au ag aj a_1 az ao a9 aF) [zSD au ag aj a_1 az ao a9 P8]] (ai (ai tt (ai (arf (zPZ au ag aj a_1 az ao a9 aF)) hL)) (ai (kz1 k8) trivial))
theorem yVL {Nx:Int->Int->St->Prop} (nx:Q4 bV Z) (u1:bV<a9:=by omega):zSH au ag aj a_1 az ao a9 bV Z Nx Q4 :=
 sF 1 bV [.g,.g,.b true] (fun _ f=>ai (zR u1) f) nx
theorem yVK {Nx:Int->Int->St->Prop} (h1:lz Z 45 (zL au (Int.toNat bV*3)) (qf (rcd nBp nBq nBr))) (h2:lz Z 45 (zL au (Int.toNat a9*3)) (qf (rcd nBs nBt nBu))) (h3:qn (evL [pz (zL au (Int.toNat a9*3)),qf (rcd nBp nBq nBr)]) Z (.store 45 (.tmp 0) (.tmp 1))=some (undef,ZOB)) (h4:qn (evL [pz (zL au (Int.toNat bV*3)),qf (rcd nBs nBt nBu)]) ZOB (.store 45 (.tmp 0) (.tmp 1))=some (undef,ZPB)) (nx:Nx (a9+1) (bV-1) ZPB) (u1:¬ bV<a9:=by omega) (u2:Ix bV ag:=by omega) (u3:Ix a9 ag:=by omega) (u4:I6 (a9+1):=by omega) (u5:I6 (bV-1):=by omega):zSH au ag aj a_1 az ao a9 bV Z Nx Q4 :=
 sF 0 (a9+1,bV-1) [.g,.g,.b false,.g,.g,.g,.g,.g,.g,.i,.l (qf (rcd nBp nBq nBr)),.g,.g,.i,.l (qf (rcd nBs nBt nBu)),.i,.e undef ZOB,.i,.e undef ZPB,.g,.n (a9+1),.g,.g,.n (bV-1),.g] (fun _ f=>an5 (zT u1) u2 h1 u3 h2 (an6 u3 h3 u2 h4 (w64 u4) (w64 u5) f)) nx
theorem yVO (h1:lz Z 45 (zL au (Int.toNat bT*3)) (qf (rcd nCC nBF nBG))) (h2:lz Z 45 (zL au (Int.toNat aY*3)) (qf (rcd nDC nEC nFC))) (h3:qn (evL [pz (zL au (Int.toNat aY*3)),qf (rcd nCC nBF nBG)]) Z (.store 45 (.tmp 0) (.tmp 1))=some (undef,ZO)) (h4:qn (evL [pz (zL au (Int.toNat bT*3)),qf (rcd nDC nEC nFC)]) ZO (.store 45 (.tmp 0) (.tmp 1))=some (undef,ZAB)) (hL:xBH au ag aj a_1 az ao (aY+1) (bT-1) ZAB P4) (k4:∀ i13_3' Z',P4 i13_3' Z'->yFF au ag aj a_1 az ao i13_3' Z' Q) (u1:¬ bT<aY:=by omega) (u2:Ix bT ag:=by omega) (u3:Ix aY ag:=by omega) (u4:I6 (aY+1):=by omega) (u5:I6 (bT-1):=by omega):zSI au ag aj a_1 az ao aY bT Z Q :=
 let s1:=zWQ au ag aj a_1 az ao (aY+1) (bT-1);sK [.g,.g,.b false,.g,.g,.g,.g,.g,.g,.i,.l (qf (rcd nCC nBF nBG)),.g,.g,.i,.l (qf (rcd nDC nEC nFC)),.i,.e undef ZO,.i,.e undef ZAB,.g,.n (aY+1),.g,.g,.n (bT-1),.g,.lf 178 s1 [zGA au ag aj a_1 az ao P4]] (an5 (zT u1) u2 h1 u3 h2 (an6 u3 h3 u2 h4 (w64 u4) (w64 u5) (ai (ai tt (ai (arf s1) hL)) (ai (kz1 k4) trivial))))
theorem yVN (h1:lz Z 45 (zL au (Int.toNat a_1*3)) (qf (rcd nBv nBw nBx))) (h2:lz Z 45 (zL au (Int.toNat aF*3)) (qf (rcd nBy nBz nB0))) (h3:qn (evL [pz (zL au (Int.toNat aF*3)),qf (rcd nBv nBw nBx)]) Z (.store 45 (.tmp 0) (.tmp 1))=some (undef,ZQB)) (h4:qn (evL [pz (zL au (Int.toNat a_1*3)),qf (rcd nBy nBz nB0)]) ZQB (.store 45 (.tmp 0) (.tmp 1))=some (undef,ZRB)) (nx:Q (.tuple ⟨[iV aF,.bool false]⟩) ZRB) (u1:Ix a_1 ag:=by omega) (u2:Ix aF ag:=by omega):yFF au ag aj a_1 az ao aF Z Q :=
 sK [.g,.g,.g,.g,.g,.g,.i,.l (qf (rcd nBv nBw nBx)),.g,.g,.i,.l (qf (rcd nBy nBz nB0)),.i,.e undef ZQB,.i,.e undef ZRB,.g,.g,.g] (an2 u1 h1 (an6 u2 h2 u2 h3 u1 h4 nx))
theorem yOP {Inv:Nat->Int->Int->St->Prop} (hb:∀ k bU aC Z,Inv k bU aC Z->zZN data ag aj a_1 b az ao bU aC Z (NX2 Inv k) Q0 Qr):∀ k bU aC Z,Inv k bU aC Z->yOU data ag aj a_1 b az ao bU aC Z Q0 Qr :=
 zEB (ai (xX 0) (ai zAR trivial)) hb
theorem yOO (hb:∀ k aQ Z,Inv k aQ Z->zQG data ag aj a_1 b az ao aC aQ Z (NX1 Inv k) Q2):∀ k aQ Z,Inv k aQ Z->yOT data ag aj a_1 b az ao aC aQ Z Q2 :=
 xF (ai (xX 2) trivial) hb
theorem xFW (h1:lz Z 45 (zL au (Int.toNat aQ*3)) (qf (rcd nS nV nW))) (h2:lz Z 45 (zL au (Int.toNat (aQ-1)*3)) (qf (rcd nU nH nI))) (h3:qm az (qf (rcd nS nV nW)::(qf (rcd nU nH nI))::ao) Z (iV nJ) Z) (nx:Q2 aQ Z) (u1:aQ<b:=by omega) (u2:Ix aQ ag:=by omega) (u3:I6 (aQ-1):=by omega) (u4:Ix (aQ-1) ag:=by omega) (u5:nJ<0:=by omega):zQG (some au) ag aj a_1 b az ao aC aQ Z Nx Q2 :=
 kO 1 aQ [.g,.g,.b true,.g,.g,.g,.g,.i,.l (qf (rcd nS nV nW)),.g,.g,.n (aQ-1),.i,.l (qf (rcd nU nH nI)),.c (iV nJ) Z,.b true,.g,.g] (fun _ f=>an2 (zR u1) u2 (an6 h1 (w64 u3) u4 h2 h3 (zR u5) f)) nx
theorem xFV (h1:lz Z 45 (zL au (Int.toNat aQ*3)) (qf (rcd nS nV nW))) (h2:lz Z 45 (zL au (Int.toNat (aQ-1)*3)) (qf (rcd nU nH nI))) (h3:qm az (qf (rcd nS nV nW)::(qf (rcd nU nH nI))::ao) Z (iV nJ) Z) (nx:Nx (aQ+1) Z) (u1:aQ<b:=by omega) (u2:Ix aQ ag:=by omega) (u3:I6 (aQ-1):=by omega) (u4:Ix (aQ-1) ag:=by omega) (u5:¬ nJ<0:=by omega) (u6:I6 (aQ+1):=by omega):zQG (some au) ag aj a_1 b az ao aC aQ Z Nx Q2 :=
 kO 0 (aQ+1) [.g,.g,.b true,.g,.g,.g,.g,.i,.l (qf (rcd nS nV nW)),.g,.g,.n (aQ-1),.i,.l (qf (rcd nU nH nI)),.c (iV nJ) Z,.b false,.g,.g,.g,.n (aQ+1),.g] (fun _ f=>an3 (zR u1) u2 h1 (an6 (w64 u3) u4 h2 h3 (zT u5) (w64 u6) f)) nx
theorem xFU (nx:Q2 aQ Z) (u1:¬ aQ<b:=by omega):zQG data ag aj a_1 b az ao aC aQ Z Nx Q2 :=
 kO 1 aQ [.g,.g,.b false,.g,.g] (fun _ f=>ai (zT u1) f) nx
theorem xFY {Nx:Int->Int->St->Prop} (hL:yOT data ag aj a_1 b az ao aC bU Z P2) (k2:∀ i9_2' Z',P2 i9_2' Z'->zBO data ag aj a_1 b az ao aC i9_2' Z' Nx Q0 Qr) (u1:aC<5:=by omega):zZN data ag aj a_1 b az ao bU aC Z Nx Q0 Qr :=
 zDG [.g,.b true,.lf 141 (zJW data ag aj a_1 b az ao aC bU) [zOA data ag aj a_1 b az ao aC P2]] (fun g=>kd (ai (zR u1) (ai (ai tt (ai (arf (zJW data ag aj a_1 b az ao aC bU)) hL)) (ai (kz1 k2) trivial))))
theorem xFX {Nx:Int->Int->St->Prop} (nx:Q0 Z) (u1:¬ aC<5:=by omega):zZN data ag aj a_1 b az ao bU aC Z Nx Q0 Qr :=
 kO 1 () [.g,.b false] (fun _ f=>ai (zT u1) f) nx
theorem yOI {Nx:Int->Int->St->Prop} (nx:Qr true Z) (u1:aQ=b:=by omega):zBO data ag aj a_1 b az ao aC aQ Z Nx Q0 Qr :=
 sF 2 true [.g,.g,.b true,.g] (fun _ f=>ai (xK u1) f) nx
theorem yOH {Nx:Int->Int->St->Prop} (nx:Qr false Z) (u1:¬ aQ=b:=by omega) (u2:I6 (b-a_1):=by omega) (u3:(b-a_1)<50:=by omega):zBO data ag aj a_1 b az ao aC aQ Z Nx Q0 Qr :=
 sF 2 false [.g,.g,.b false,.g,.g,.n (b-a_1),.b true,.g] (fun _ f=>an3 (xH u1) (w64 u2) (zR u3) f) nx
theorem yON {Q4:St->Prop} (hb:∀ k dz Z,Inv k dz Z->zQF au ag aj a_1 b az ao aQ aC dz Z (NX1 Inv k) Q4):∀ k dz Z,Inv k dz Z->zZK au ag aj a_1 b az ao aQ aC dz Z Q4 :=
 xF (ai (xX 4) trivial) hb
theorem xFT {Q4:St->Prop}:let y0:=rcd nSB nTB nGB;let y1:=rcd nT nRB nFB;let y2:=zL au (Int.toNat (dz-1)*3);let y3:=zL au (Int.toNat dz*3);∀ (h1:lz Z 45 y3 (qf y1)) (h2:lz Z 45 y2 (qf y0)) (h3:qm az (qf y1::(qf y0)::ao) Z (iV nJB) Z) (h4:qn (evL [pz y3,qf y0]) Z (.store 45 (.tmp 0) (.tmp 1))=some (undef,ZSB)) (h5:qn (evL [pz y2,qf y1]) ZSB (.store 45 (.tmp 0) (.tmp 1))=some (undef,ZTB)) (nx:Nx (dz-1) ZTB) (u1:1<=dz:=by omega) (u2:Ix dz ag:=by omega) (u3:I6 (dz-1):=by omega) (u4:Ix (dz-1) ag:=by omega) (u5:nJB<0:=by omega),zQF au ag aj a_1 b az ao aQ aC dz Z Nx Q4 :=
 let s1:=dz-1;let y0:=rcd nSB nTB nGB;let y1:=rcd nT nRB nFB;fun h1 h2 h3 h4 h5 nx u1 u2 u3 u4 u5=>kO 0 s1 [.g,.b true,.g,.g,.g,.i,.l (qf y1),.g,.g,.n s1,.i,.l (qf y0),.c (iV nJB) Z,.b true,.g,.g,.g,.g,.g,.n s1,.g,.g,.n s1,.i,.l (qf y0),.g,.g,.i,.l (qf y1),.i,.e undef ZSB,.i,.e undef ZTB,.g,.n s1,.g] (fun _ f=>ai (yE u1) (an6 u2 h1 (w64 u3) u4 h2 h3 (an6 (zR u5) (w64 u3) (w64 u3) u4 h2 u2 (an6 h1 u2 h4 u4 h5 (w64 u3) f)))) nx
theorem xFS {Q4:St->Prop} (h1:lz Z 45 (zL au (Int.toNat dz*3)) (qf (rcd nT nRB nFB))) (h2:lz Z 45 (zL au (Int.toNat (dz-1)*3)) (qf (rcd nSB nTB nGB))) (h3:qm az (qf (rcd nT nRB nFB)::(qf (rcd nSB nTB nGB))::ao) Z (iV nJB) Z) (nx:Q4 Z) (u1:1<=dz:=by omega) (u2:Ix dz ag:=by omega) (u3:I6 (dz-1):=by omega) (u4:Ix (dz-1) ag:=by omega) (u5:¬ nJB<0:=by omega):zQF au ag aj a_1 b az ao aQ aC dz Z Nx Q4 :=
 kO 1 () [.g,.b true,.g,.g,.g,.i,.l (qf (rcd nT nRB nFB)),.g,.g,.n (dz-1),.i,.l (qf (rcd nSB nTB nGB)),.c (iV nJB) Z,.b false,.g] (fun _ f=>an2 (yE u1) u2 (an6 h1 (w64 u3) u4 h2 h3 (zT u5) f)) nx
theorem xFR {Q4:St->Prop} (nx:Q4 Z) (u1:¬ 1<=dz:=by omega):zQF au ag aj a_1 b az ao aQ aC dz Z Nx Q4 :=
 kO 1 () [.g,.b false] (fun _ f=>ai (yH u1) f) nx
theorem yOG {Nx:Int->Int->St->Prop} {P4:St->Prop} (h1:lz Z 45 (zL au (Int.toNat (aQ-1)*3)) (qf (rcd nKB nIB nGC))) (h2:lz Z 45 (zL au (Int.toNat aQ*3)) (qf (rcd nHC nIC nJC))) (h3:qn (evL [pz (zL au (Int.toNat aQ*3)),qf (rcd nKB nIB nGC)]) Z (.store 45 (.tmp 0) (.tmp 1))=some (undef,ZS)) (h4:qn (evL [pz (zL au (Int.toNat (aQ-1)*3)),qf (rcd nHC nIC nJC)]) ZS (.store 45 (.tmp 0) (.tmp 1))=some (undef,ZT)) (hL:zZK au ag aj a_1 b az ao aQ aC (aQ-1) ZT P4) (k4:∀ Z',P4 Z'->zOC (some au) au ag aj a_1 b az ao aQ aC Z' Nx Q0 Qr) (u1:¬ aQ=b:=by omega) (u2:I6 (b-a_1):=by omega) (u3:¬ (b-a_1)<50:=by omega) (u4:I6 (aQ-1):=by omega) (u5:Ix (aQ-1) ag:=by omega) (u6:Ix aQ ag:=by omega) (u7:I6 (aQ-a_1):=by omega) (u8:2<=(aQ-a_1):=by omega):zBO (some au) ag aj a_1 b az ao aC aQ Z Nx Q0 Qr :=
 let s1:=zQC au ag aj a_1 b az ao aQ aC (aQ-1);sK [.g,.g,.b false,.g,.g,.n (b-a_1),.b false,.g,.g,.g,.g,.n (aQ-1),.g,.g,.n (aQ-1),.i,.l (qf (rcd nKB nIB nGC)),.g,.g,.i,.l (qf (rcd nHC nIC nJC)),.i,.e undef ZS,.i,.e undef ZT,.g,.g,.n (aQ-a_1),.b true,.g,.n (aQ-1),.g,.lf 141 s1 [zNZ au ag aj a_1 b az ao aQ aC P4]] (an4 (xH u1) (w64 u2) (zT u3) (w64 u4) (an6 (w64 u4) u5 h1 u6 h2 u6 (an6 h3 u5 h4 (w64 u7) (yE u8) (w64 u4) (ai (ai tt (ai (arf s1) hL)) (ai (kz0 k4) trivial)))))
theorem yOM {Q6:St->Prop} (hb:∀ k a9 Z,Inv k a9 Z->zQE au ag aj a_1 b az ao aQ aC a9 Z (NX1 Inv k) Q6):∀ k a9 Z,Inv k a9 Z->zJY au ag aj a_1 b az ao aQ aC a9 Z Q6 :=
 xF (ai (xX 6) trivial) hb
theorem xFQ {Q6:St->Prop}:let y0:=rcd nCB nHB nUB;let y1:=rcd nVB nWB nXB;let y2:=zL au (Int.toNat (a9-1)*3);let y3:=zL au (Int.toNat a9*3);∀ (h1:lz Z 45 y3 (qf y0)) (h2:lz Z 45 y2 (qf y1)) (h3:qm az (qf y0::(qf y1)::ao) Z (iV nBC) Z) (h4:qn (evL [pz y3,qf y1]) Z (.store 45 (.tmp 0) (.tmp 1))=some (undef,ZUB)) (h5:qn (evL [pz y2,qf y0]) ZUB (.store 45 (.tmp 0) (.tmp 1))=some (undef,ZVB)) (nx:Nx (a9+1) ZVB) (u1:a9<b:=by omega) (u2:Ix a9 ag:=by omega) (u3:I6 (a9-1):=by omega) (u4:Ix (a9-1) ag:=by omega) (u5:nBC<0:=by omega) (u6:I6 (a9+1):=by omega),zQE au ag aj a_1 b az ao aQ aC a9 Z Nx Q6 :=
 let s1:=a9-1;let y0:=rcd nCB nHB nUB;let y1:=rcd nVB nWB nXB;fun h1 h2 h3 h4 h5 nx u1 u2 u3 u4 u5 u6=>kO 0 (a9+1) [.g,.g,.b true,.g,.g,.g,.i,.l (qf y0),.g,.g,.n s1,.i,.l (qf y1),.c (iV nBC) Z,.b true,.g,.g,.g,.g,.g,.n s1,.g,.g,.n s1,.i,.l (qf y1),.g,.g,.i,.l (qf y0),.i,.e undef ZUB,.i,.e undef ZVB,.g,.n (a9+1),.g] (fun _ f=>ai (zR u1) (an6 u2 h1 (w64 u3) u4 h2 h3 (an6 (zR u5) (w64 u3) (w64 u3) u4 h2 u2 (an6 h1 u2 h4 u4 h5 (w64 u6) f)))) nx
theorem xFP {Q6:St->Prop} (h1:lz Z 45 (zL au (Int.toNat a9*3)) (qf (rcd nCB nHB nUB))) (h2:lz Z 45 (zL au (Int.toNat (a9-1)*3)) (qf (rcd nVB nWB nXB))) (h3:qm az (qf (rcd nCB nHB nUB)::(qf (rcd nVB nWB nXB))::ao) Z (iV nBC) Z) (nx:Q6 Z) (u1:a9<b:=by omega) (u2:Ix a9 ag:=by omega) (u3:I6 (a9-1):=by omega) (u4:Ix (a9-1) ag:=by omega) (u5:¬ nBC<0:=by omega):zQE au ag aj a_1 b az ao aQ aC a9 Z Nx Q6 :=
 kO 1 () [.g,.g,.b true,.g,.g,.g,.i,.l (qf (rcd nCB nHB nUB)),.g,.g,.n (a9-1),.i,.l (qf (rcd nVB nWB nXB)),.c (iV nBC) Z,.b false,.g] (fun _ f=>an2 (zR u1) u2 (an6 h1 (w64 u3) u4 h2 h3 (zT u5) f)) nx
theorem xFO {Q6:St->Prop} (nx:Q6 Z) (u1:¬ a9<b:=by omega):zQE au ag aj a_1 b az ao aQ aC a9 Z Nx Q6 :=
 kO 1 () [.g,.g,.b false] (fun _ f=>ai (zT u1) f) nx
theorem yOF {Nx:Int->Int->St->Prop} (h1:lz Z 45 (zL au (Int.toNat (aQ-1)*3)) (qf (rcd nKB nIB nGC))) (h2:lz Z 45 (zL au (Int.toNat aQ*3)) (qf (rcd nHC nIC nJC))) (h3:qn (evL [pz (zL au (Int.toNat aQ*3)),qf (rcd nKB nIB nGC)]) Z (.store 45 (.tmp 0) (.tmp 1))=some (undef,ZS)) (h4:qn (evL [pz (zL au (Int.toNat (aQ-1)*3)),qf (rcd nHC nIC nJC)]) ZS (.store 45 (.tmp 0) (.tmp 1))=some (undef,ZT)) (hL:zJY au ag aj a_1 b az ao aQ aC (aQ+1) ZT P6) (k6:∀ Z',P6 Z'->zOB (some au) au ag aj a_1 b az ao aQ aC Z' Nx Q0 Qr) (u1:¬ aQ=b:=by omega) (u2:I6 (b-a_1):=by omega) (u3:¬ (b-a_1)<50:=by omega) (u4:I6 (aQ-1):=by omega) (u5:Ix (aQ-1) ag:=by omega) (u6:Ix aQ ag:=by omega) (u7:I6 (aQ-a_1):=by omega) (u8:¬ 2<=(aQ-a_1):=by omega) (u9:I6 (b-aQ):=by omega) (u10:2<=(b-aQ):=by omega) (u11:I6 (aQ+1):=by omega):zBO (some au) ag aj a_1 b az ao aC aQ Z Nx Q0 Qr :=
 let s1:=zJV au ag aj a_1 b az ao aQ aC (aQ+1);sK [.g,.g,.b false,.g,.g,.n (b-a_1),.b false,.g,.g,.g,.g,.n (aQ-1),.g,.g,.n (aQ-1),.i,.l (qf (rcd nKB nIB nGC)),.g,.g,.i,.l (qf (rcd nHC nIC nJC)),.i,.e undef ZS,.i,.e undef ZT,.g,.g,.n (aQ-a_1),.b false,.g,.g,.n (b-aQ),.b true,.g,.n (aQ+1),.g,.lf 141 s1 [zHK au ag aj a_1 b az ao aQ aC P6]] (an6 (xH u1) (w64 u2) (zT u3) (w64 u4) (w64 u4) u5 (an6 h1 u6 h2 u6 h3 u5 (an6 h4 (w64 u7) (yH u8) (w64 u9) (yE u10) (w64 u11) (ai (ai tt (ai (arf s1) hL)) (ai (kz0 k6) trivial)))))
theorem yOE {Nx:Int->Int->St->Prop} (h1:lz Z 45 (zL au (Int.toNat (aQ-1)*3)) (qf (rcd nKB nIB nGC))) (h2:lz Z 45 (zL au (Int.toNat aQ*3)) (qf (rcd nHC nIC nJC))) (h3:qn (evL [pz (zL au (Int.toNat aQ*3)),qf (rcd nKB nIB nGC)]) Z (.store 45 (.tmp 0) (.tmp 1))=some (undef,ZS)) (h4:qn (evL [pz (zL au (Int.toNat (aQ-1)*3)),qf (rcd nHC nIC nJC)]) ZS (.store 45 (.tmp 0) (.tmp 1))=some (undef,ZT)) (nx:Nx aQ (aC+1) ZT) (u1:¬ aQ=b:=by omega) (u2:I6 (b-a_1):=by omega) (u3:¬ (b-a_1)<50:=by omega) (u4:I6 (aQ-1):=by omega) (u5:Ix (aQ-1) ag:=by omega) (u6:Ix aQ ag:=by omega) (u7:I6 (aQ-a_1):=by omega) (u8:¬ 2<=(aQ-a_1):=by omega) (u9:I6 (b-aQ):=by omega) (u10:¬ 2<=(b-aQ):=by omega) (u11:I6 (aC+1):=by omega):zBO (some au) ag aj a_1 b az ao aC aQ Z Nx Q0 Qr :=
 sF 0 (aQ,aC+1) [.g,.g,.b false,.g,.g,.n (b-a_1),.b false,.g,.g,.g,.g,.n (aQ-1),.g,.g,.n (aQ-1),.i,.l (qf (rcd nKB nIB nGC)),.g,.g,.i,.l (qf (rcd nHC nIC nJC)),.i,.e undef ZS,.i,.e undef ZT,.g,.g,.n (aQ-a_1),.b false,.g,.g,.n (b-aQ),.b false,.g,.n (aC+1),.g] (fun _ f=>an6 (xH u1) (w64 u2) (zT u3) (w64 u4) (w64 u4) u5 (an6 h1 u6 h2 u6 h3 u5 (an6 h4 (w64 u7) (yH u8) (w64 u9) (yH u10) (w64 u11) f))) nx
theorem yOD {Nx:Int->Int->St->Prop} (hL:zJY au ag aj a_1 b az ao aQ aC (aQ+1) Z P6) (k6:∀ Z',P6 Z'->zOB data au ag aj a_1 b az ao aQ aC Z' Nx Q0 Qr) (u1:I6 (b-aQ):=by omega) (u2:2<=(b-aQ):=by omega) (u3:I6 (aQ+1):=by omega):zOC data au ag aj a_1 b az ao aQ aC Z Nx Q0 Qr :=
 let s1:=zJV au ag aj a_1 b az ao aQ aC (aQ+1);sK [.g,.g,.n (b-aQ),.b true,.g,.n (aQ+1),.g,.lf 141 s1 [zHK au ag aj a_1 b az ao aQ aC P6]] (an3 (w64 u1) (yE u2) (w64 u3) (ai (ai tt (ai (arf s1) hL)) (ai (kz0 k6) trivial)))
theorem yOC {Nx:Int->Int->St->Prop} (nx:Nx aQ (aC+1) Z) (u1:I6 (b-aQ):=by omega) (u2:¬ 2<=(b-aQ):=by omega) (u3:I6 (aC+1):=by omega):zOC (some au) au ag aj a_1 b az ao aQ aC Z Nx Q0 Qr :=
 sF 0 (aQ,aC+1) [.g,.g,.n (b-aQ),.b false,.g,.n (aC+1),.g] (fun _ f=>an3 (w64 u1) (yH u2) (w64 u3) f) nx
theorem zUS {Nx:Int->Int->St->Prop} (nx:Nx aQ (aC+1) Z) (u1:I6 (aC+1):=by omega):zOB (some au) au ag aj a_1 b az ao aQ aC Z Nx Q0 Qr :=
 sF 0 (aQ,aC+1) [.g,.n (aC+1),.g] (fun _ f=>ai (w64 u1) f) nx
theorem xME {Pr:Bool->St->Prop} (hL:yOU data ag aj a_1 b az ao (a_1+1) 0 Z P0 Pr) (k0:∀ Z',P0 Z'->zZM data ag aj a_1 b az ao Z' Q) (kr:∀ t8_1' Z',Pr t8_1' Z'->zZL data ag aj a_1 b az ao t8_1' Z' Q) (u1:I6 (a_1+1):=by omega):qg 111 [.slice data ag aj,iV a_1,iV b,.func (.func az) ⟨[]⟩ ⟨ao⟩] Z Q :=
 let s1:=zQD data ag aj a_1 b az ao (a_1+1) 0;zG [.g,.g,.n (a_1+1),.g,.g,.lf 141 s1 [zBN data ag aj a_1 b az ao P0,zBM data ag aj a_1 b az ao Pr]] (kd (ai (w64 u1) (ai (ai tt (ai (arf s1) hL)) (ai (kz0 k0) (ai (kz1 kr) trivial)))))
theorem yOK (nx:Q (.bool false) Z):zZM data ag aj a_1 b az ao Z Q :=
 sK [.g] nx
theorem yOJ (nx:Q (.bool t8_1) Z):zZL data ag aj a_1 b az ao t8_1 Z Q :=
 sK [] nx
end
section
open Go.Sort (swp)
def Cmp (g:FuncId) (gc:List Value) (lt:Rec->Rec->Bool) (V:Rec->Prop):Prop:=∀ (τ:St) (x y:Rec),V x->V y->∃ n:Int,zD Pg g (zER x::zER y::gc) τ (iV n) τ/\(n<0↔lt x y=true)
def xQ (V:Rec->Prop) (d:Array Rec):Prop:=∀ i,i<d.size->V d[i]!
theorem yX (d:Array Rec) (i j:Nat):(swp d i j).size=d.size:=by simp [swp]
theorem xCI (d:Array Rec) (i k:Nat) (x:Rec) (hk:k<d.size):(d.setIfInBounds i x)[k]! = if i=k then x else d[k]! := by
 rw [getElem!_pos _ k (by simpa using hk),getElem!_pos d k hk,Array.getElem_setIfInBounds]
theorem xQ.swp {V:Rec->Prop} {d:Array Rec} (h:xQ V d) {i j:Nat} (hi:i<d.size) (hj:j<d.size):xQ V (swp d i j):=by
 intro k hk;rw [yX] at hk;unfold Go.Sort.swp;rw [xCI _ _ _ _ (by simpa using hk),xCI _ _ _ _ hk];split
 ·exact h i hi
 ·split
  ·exact h j hj
  ·exact h k hk
theorem zEL {Z Z':St} {f:FuncId} {args:List Value} {v:Value} (h:zD Pg f args Z v Z'):Z'.low<=Z.low:=by
 obtain ⟨N0,hN0⟩:=h;have hc:=hN0 N0 (Nat.le_refl _);unfold vX at hc;split at hc
 ·cases hc
 ·rename_i v1 s1 h1;unfold vY at hc;rcases Bool.eq_false_or_eq_true (Nat.ble Z.y s1.low && zW RD v1) with e | e
  ·rw [e,cond_true] at hc;simp at hc;rw [<- hc.2];exact Nat.le_refl _
  ·rw [e,cond_false] at hc;rcases Bool.eq_false_or_eq_true (Nat.ble Z.y s1.y) with e2 | e2
   ·rw [e2,cond_true,wD,zAE] at hc;simp at hc;rw [<- hc.2];show min _ _<=_;omega
   ·rw [e2,cond_false] at hc;cases hc
theorem xWQ {Z s:St} {f:FuncId} {args:List Value} {v:Value} (h:∃ N0,∀ N,N0<=N->zX Pg N (.func f) args Z.re=some (v,s)) (h1:Z.y<=s.y) (h2:s.low<Z.y):zD Pg f args Z v ⟨s.heap,s.y,min Z.low s.low⟩:=by
 obtain ⟨N0,hN⟩:=h;refine ⟨N0,fun N hl=>?_⟩
 unfold vX;rw [show (⟨Z.heap,Z.y,Z.y⟩:St)=Z.re from rfl,hN N hl];show vY Z v s=_;unfold vY;have e1:(Nat.ble Z.y s.low && zW RD v)=false:=by
  rw [Bool.and_eq_false_iff];left;rw [Bool.eq_false_iff];intro e;have:=(zV _ _).1 e;omega
 have e2:Nat.ble Z.y s.y=true:=(zV _ _).2 h1;rw [e1,cond_false,e2,cond_true,wD,zAE]
structure W (Z τ:St) (b:Nat) (s:Option Nat) (d dk:Array Rec):Prop where
 only:Only (·=b) Z.re τ
 dt:Dt τ b s dk
 low:τ.low<=b\/dk=d
theorem W.start {Z:St} {b:Nat} {s:Option Nat} {d:Array Rec} (h:Dt Z b s d):W Z Z.re b s d d:=⟨Only.refl _ _,h,.inr rfl⟩
theorem W.swap {Z τ:St} {b:Nat} {s:Option Nat} {d dk:Array Rec} (w:W Z τ b s d dk) {i j:Int} (h0:0<=i) (hi:i<(dk.size:Int)) (k0:0<=j) (hj:j<(dk.size:Int)) :
  ∃ τ1 τ2,zQ Pg (evL [.pointer (some (zL ⟨b,0,s⟩ (Int.toNat i*3))),zER dk[j.toNat]!]) τ (.store 45 (.tmp 0) (.tmp 1))=some (undef,τ1) /\
   zQ Pg (evL [.pointer (some (zL ⟨b,0,s⟩ (Int.toNat j*3))),zER dk[i.toNat]!]) τ1 (.store 45 (.tmp 0) (.tmp 1))=some (undef,τ2)/\W Z τ2 b s d (swp dk i.toNat j.toNat):=by
 obtain ⟨τ1,e1,d1,o1,l1⟩:=w.dt.st dk[j.toNat]! h0 hi;obtain ⟨τ2,e2,d2,o2,l2⟩:=d1.st (i:=j) dk[i.toNat]! k0 (by simpa using hj);exact ⟨τ1,τ2,e1,e2,⟨(w.only.trans' o1 (fun b _ h=>.inl h)).trans' o2 (fun b _ h=>.inl h),d2,.inl l2⟩⟩
def uN (f:FuncId) (args:List Value) (v:Value) (Z:St) (b:Nat) (s:Option Nat) (d d':Array Rec):Prop:=∃ Z',zD Pg f args Z v Z'/\Only (·=b) Z Z'/\Dt Z' b s d'/\(Z'.low<=b\/d'=d)
theorem uN.of {f:FuncId} {args:List Value} {v:Value} {Z:St} {b:Nat} {s:Option Nat} {d d':Array Rec} (h0:Dt Z b s d) (h:zN Pg f args Z.re fun v' τ=>v'=v/\W Z τ b s d d') (hv:zW RD v=true:=by rfl):uN f args v Z b s d d':=by
  obtain ⟨_,τ,hN,rfl,w⟩:=h;by_cases hlow:τ.low<Z.y
  · have ho:Only (·=b) Z ⟨τ.heap,τ.y,min Z.low τ.low⟩:=by
      have:=w.only.lower (m:=0);exact this
    refine ⟨_,xWQ hN w.only.y hlow,ho,w.dt, ?_⟩
    rcases w.low with h | h
    · exact .inl (by show min _ _<=_;omega)
    · exact .inr h
  · have hd:d'=d:=by
      rcases w.low with h | h
      · have:=h0.1;omega
      · exact h
    exact ⟨Z,zN.pure ⟨_,τ,hN,rfl,by omega⟩ hv,Only.refl _ _,by rw [hd];exact h0,.inr hd⟩
theorem W.call {Z τ:St} {b:Nat} {s:Option Nat} {d dk d':Array Rec} {f:FuncId} {args:List Value} {v:Value} (w:W Z τ b s d dk) (h:uN f args v τ b s dk d'):∃ τ',zD Pg f args τ v τ'/\W Z τ' b s d d':=by
 obtain ⟨τ',c,o,dt,hl⟩:=h;refine ⟨τ',c,w.only.trans' o (fun b _ h=>.inl h),dt, ?_⟩
 have:=zEL c;rcases hl with hl | hl
 ·exact .inl hl
 ·rcases w.low with h | h
  ·exact .inl (by omega)
  ·exact .inr (hl.trans h)
section
variable {Z:St} {b c:Nat} {s:Option Nat} {d:Array Rec} {g:FuncId} {gc:List Value} {lt:Rec->Rec->Bool} {V:Rec->Prop}
theorem zND (lt:Rec->Rec->Bool) (a:Nat):∀ (j:Nat) (d:Array Rec),(Go.Sort.insInner lt a j d).size=d.size
 | 0,d=>rfl
 | j+1,d=>by
  unfold Go.Sort.insInner;split
  ·rw [zND,yX]
  ·rfl
theorem zQK (lt:Rec->Rec->Bool) (a:Nat) {V:Rec->Prop}:∀ (j:Nat) (d:Array Rec),j<d.size->xQ V d->xQ V (Go.Sort.insInner lt a j d)
 | 0,d,_,h=>h
 | j+1,d,hj,h=>by
  unfold Go.Sort.insInner;split
  ·exact zQK lt a j _ (by rw [yX];omega) (h.swp hj (by omega))
  ·exact h
theorem xYO {a B:Nat} (h:Dt Z b s d) (hc:Cmp g gc lt V) (hv:xQ V d) (hB:B<=d.size) (hn:d.size<=1000000) (ha:a<=1000000) :
  uN 106 [.slice (some ⟨b,0,s⟩) d.size c,iV (a:Int),iV (B:Int),.func (.func g) ⟨[]⟩ ⟨gc⟩] (.tuple ⟨[]⟩) Z b s d (Go.Sort.insertionSort lt d a B):=by
 refine uN.of h (xBU (P0:=fun τ=>W Z τ b s d (Go.Sort.insertionSort lt d a B)) (yAC (Inv:=fun k i τ=>∃ (j:Nat) (dk:Array Rec),i=j/\k=B-j/\W Z τ b s d dk/\dk.size=d.size/\xQ V dk/\Go.Sort.insOuter lt a B j dk=Go.Sort.insertionSort lt d a B) ?_ (B-(a+1)) _ Z.re ⟨a+1,d,by omega,rfl,W.start h,rfl,hv,rfl⟩) (fun τ hw=>yAB ⟨rfl,hw⟩) (by omega));rintro k i τ ⟨j,dk,rfl,hk,w,hsz,hall,ht⟩;by_cases hj:j<B;rotate_left
 ·rw [Go.Sort.insOuter,if_neg hj] at ht;exact yPI (by rw [<- ht];exact w) (by omega)
 rw [Go.Sort.insOuter,if_pos hj] at ht;refine xNS (P2:=fun τ'=>W Z τ' b s d (Go.Sort.insInner lt a j dk)) (yWU (Inv:=fun k' q' τ'=>∃ (q:Nat) (dq:Array Rec),q'=q/\q=k'/\q<=j/\W Z τ' b s d dq/\dq.size=d.size/\xQ V dq/\Go.Sort.insInner lt a q dq=Go.Sort.insInner lt a j dk) ?_ j _ τ ⟨j,dk,rfl,rfl,Nat.le_refl _,w,hsz,hall,rfl⟩)
  (fun τ' hw=>yWT ⟨k-1,by omega,j+1,_,by omega,by omega,hw,by rw [zND,hsz],zQK _ _ _ _ (by omega) hall,ht⟩ (by omega)) (by omega)
 rintro k' q' τ' ⟨q,dq,rfl,rfl,hq,w',hsz',hall',ht'⟩;by_cases haq:a<q;rotate_left
 ·refine xNP ?_ (by omega);have e:Go.Sort.insInner lt a q dq=dq:=by
   cases q with
   | zero=>rfl
   | succ q=>unfold Go.Sort.insInner;rw [if_neg (by simp;omega)]
  rw [<- ht',e];exact w'
 obtain ⟨p,rfl⟩:∃ p,q=p+1:=⟨q-1,by omega⟩;have l1:=w'.dt.ld (i:=((p+1:Nat):Int)) (by omega) (by omega);have l2:=w'.dt.ld (i:=((p+1:Nat):Int)-1) (by omega) (by omega);have e2:(((p+1:Nat):Int)-1).toNat=p:=by omega
 obtain ⟨n,hn1,hn2⟩:=hc τ' dq[(((p+1:Nat):Int)).toNat]! dq[(((p+1:Nat):Int)-1).toNat]! (hall' _ (by omega)) (hall' _ (by omega));by_cases hlt:n<0
 ·have hl:=hn2.1 hlt;rw [e2,Int.toNat_natCast] at hl;obtain ⟨τ1,τ2,s1,s2,w2⟩:=w'.swap (i:=((p+1:Nat):Int)) (j:=((p+1:Nat):Int)-1) (by omega) (by omega) (by omega) (by omega);rw [e2,Int.toNat_natCast] at w2;refine xNR l1 l2 hn1 s1 s2 ⟨p,by omega,p,_,by omega,rfl,by omega,w2,by rw [yX,hsz'],hall'.swp (by omega) (by omega), ?_⟩ (by omega) (by omega) (by omega) (by omega) (by omega);rw [<- ht'];conv=>rhs;unfold Go.Sort.insInner
  rw [if_pos (by simp [hl];omega)]
 ·have hl:lt dq[p+1]! dq[p]! = false:=by
   rw [Bool.eq_false_iff];intro e;have:=hn2.2 (by rw [e2,Int.toNat_natCast];exact e);exact hlt this
  refine xNQ l1 l2 hn1 ?_ (by omega) (by omega) (by omega) (by omega) (by omega);have e:Go.Sort.insInner lt a (p+1) dq=dq:=by unfold Go.Sort.insInner;rw [if_neg (by simp [hl])]
  rw [<- ht',e];exact w'
end
end
section
open Go.Sort (swp)
section
variable {Z:St} {b c:Nat} {s:Option Nat} {d:Array Rec} {g:FuncId} {gc:List Value} {lt:Rec->Rec->Bool} {V:Rec->Prop}
theorem Cmp.at_ (hc:Cmp g gc lt V) {τ:St} {dk:Array Rec} (hv:xQ V dk) {i j:Nat} (hi:i<dk.size) (hj:j<dk.size):∃ n:Int,zD Tryz.prog g (zER dk[i]! :: zER dk[j]! :: gc) τ (iV n) τ/\((n<0/\lt dk[i]! dk[j]! = true)\/(¬ n<0/\lt dk[i]! dk[j]! = false)):=by
 obtain ⟨n,h1,h2⟩:=hc τ dk[i]! dk[j]! (hv i hi) (hv j hj);refine ⟨n,h1, ?_⟩
 by_cases h:n<0
 ·exact .inl ⟨h,h2.1 h⟩
 ·exact .inr ⟨h,by rw [Bool.eq_false_iff];exact fun e=>h (h2.2 e)⟩
theorem Dt.ldN {τ:St} {dk:Array Rec} (h:Dt τ b s dk) {i:Int} {k:Nat} (e:i=(k:Int)) (hk:k<dk.size):zB Tryz.prog τ 45 (zL ⟨b,0,s⟩ (Int.toNat i*3))=some (zER dk[k]!):=by
 subst e;exact h.ld (by omega) (by omega)
theorem W.swapN {τ:St} {dk:Array Rec} (w:W Z τ b s d dk) {i j:Int} {p q:Nat} (ei:i=(p:Int)) (ej:j=(q:Int)) (hp:p<dk.size) (hq:q<dk.size) :
  ∃ τ1 τ2,zQ Tryz.prog (evL [.pointer (some (zL ⟨b,0,s⟩ (Int.toNat i*3))),zER dk[q]!]) τ (.store 45 (.tmp 0) (.tmp 1))=some (undef,τ1) /\
   zQ Tryz.prog (evL [.pointer (some (zL ⟨b,0,s⟩ (Int.toNat j*3))),zER dk[p]!]) τ1 (.store 45 (.tmp 0) (.tmp 1))=some (undef,τ2)/\W Z τ2 b s d (swp dk p q):=by
 subst ei ej;have:=w.swap (i:=(p:Int)) (j:=(q:Int)) (by omega) (by omega) (by omega) (by omega);simpa only [Int.toNat_natCast] using this
theorem yMO (lt:Rec->Rec->Bool) (hi first root:Nat) (d:Array Rec):Go.Sort.siftDown lt hi first root d=(if 2*root+1 ≥ hi then d else
  if 2*root+1+1<hi && lt d[first+(2*root+1)]! d[first+(2*root+1)+1]! then
   if !lt d[first+root]! d[first+(2*root+2)]! then d else
    if 2*root+2<hi then Go.Sort.siftDown lt hi first (2*root+2) (swp d (first+root) (first+(2*root+2))) else d
  else
   if !lt d[first+root]! d[first+(2*root+1)]! then d else Go.Sort.siftDown lt hi first (2*root+1) (swp d (first+root) (first+(2*root+1)))):=by
 conv=>lhs;unfold Go.Sort.siftDown
 simp only [dite_eq_ite]
theorem zCB (lt:Rec->Rec->Bool) (hi first:Nat):∀ (k root:Nat) (d:Array Rec),hi-root<=k->(Go.Sort.siftDown lt hi first root d).size=d.size
 | 0,root,d,hk=>by unfold Go.Sort.siftDown;rw [dif_pos (by omega)]
 | k+1,root,d,hk=>by
  unfold Go.Sort.siftDown;split
  ·rfl
  ·split
   ·split
    ·rfl
    ·split
     ·rw [zCB lt hi first k _ _ (by omega),yX]
     ·rfl
   ·split
    ·rfl
    ·rw [zCB lt hi first k _ _ (by omega),yX]
theorem zDB (lt:Rec->Rec->Bool) (hi first:Nat) {V:Rec->Prop}:∀ (k root:Nat) (d:Array Rec),hi-root<=k->first+hi<=d.size->xQ V d->xQ V (Go.Sort.siftDown lt hi first root d)
 | 0,root,d,hk,hs,h=>by unfold Go.Sort.siftDown;rw [dif_pos (by omega)];exact h
 | k+1,root,d,hk,hs,h=>by
  unfold Go.Sort.siftDown;split
  ·exact h
  ·rename_i h1;split
   ·split
    ·exact h
    ·split
     ·rename_i h2;exact zDB lt hi first k _ _ (by omega) (by rw [yX];exact hs) (h.swp (by omega) (by omega))
     ·exact h
   ·split
    ·exact h
    ·exact zDB lt hi first k _ _ (by omega) (by rw [yX];exact hs) (h.swp (by omega) (by omega))
theorem xAP {lo hi first:Nat} (h:Dt Z b s d) (hc:Cmp g gc lt V) (hv:xQ V d) (hB:first+hi<=d.size) (hn:d.size<=1000000) (hlo:lo<=1000000) :
  uN 121 [.slice (some ⟨b,0,s⟩) d.size c,iV (lo:Int),iV (hi:Int),iV (first:Int),.func (.func g) ⟨[]⟩ ⟨gc⟩] (.tuple ⟨[]⟩) Z b s d (Go.Sort.siftDown lt hi first lo d):=by
 refine uN.of h (xKB (P0:=fun τ=>W Z τ b s d (Go.Sort.siftDown lt hi first lo d)) (Pr:=fun τ=>W Z τ b s d (Go.Sort.siftDown lt hi first lo d)) (yMR (Inv:=fun k i τ=>∃ (r:Nat) (dk:Array Rec),i=r/\k=hi-r/\r<=1000000+2*hi+2/\W Z τ b s d dk/\dk.size=d.size/\xQ V dk/\Go.Sort.siftDown lt hi first r dk=Go.Sort.siftDown lt hi first lo d) ?_ (hi-lo) _ Z.re ⟨lo,d,rfl,rfl,by omega,W.start h,rfl,hv,rfl⟩) (fun τ hw=>yMQ ⟨rfl,hw⟩) (fun τ hw=>yMP ⟨rfl,hw⟩));rintro k i τ ⟨r,dk,rfl,hk,hr,w,hsz,hall,ht⟩;by_cases h1:2*r+1 ≥ hi
 ·have e:Go.Sort.siftDown lt hi first r dk=dk:=by unfold Go.Sort.siftDown;rw [dif_pos h1]
  exact xDQ (by rw [<- ht,e];exact w) (by omega) (by omega) (by omega)
 have e0:=yMO lt hi first r dk
 rw [if_neg h1] at e0;have bR:first+r<dk.size:=by omega
 have bC:first+(2*r+1)<dk.size:=by omega
 have lR:=w.dt.ldN (i:=(first:Int)+(r:Int)) (k:=first+r) (by omega) bR;have lC:=w.dt.ldN (i:=(first:Int)+(2*(r:Int)+1)) (k:=first+(2*r+1)) (by omega) bC;obtain ⟨nC,cC,hC⟩:=hc.at_ (τ:=τ) hall bR bC;by_cases h2:2*r+1+1<hi
 ·have bD:first+(2*r+2)<dk.size:=by omega
  have lD1:=w.dt.ldN (i:=(first:Int)+(2*(r:Int)+1)+1) (k:=first+(2*r+2)) (by omega) bD;have lD2:=w.dt.ldN (i:=(first:Int)+(2*(r:Int)+1+1)) (k:=first+(2*r+2)) (by omega) bD;obtain ⟨n1,c1,hc1⟩:=hc.at_ (τ:=τ) hall bC bD;obtain ⟨n2,c2,hc2⟩:=hc.at_ (τ:=τ) hall bR bD;have eD:first+(2*r+1)+1=first+(2*r+2):=by omega
  rcases hc1 with ⟨m1,l1⟩ | ⟨m1,l1⟩
  ·rw [if_pos (by simp [h2,eD,l1])] at e0;rcases hc2 with ⟨m2,l2⟩ | ⟨m2,l2⟩
   ·rw [if_neg (by simp [l2]),if_pos (by omega)] at e0;obtain ⟨τ1,τ2,s1,s2,w2⟩:=w.swapN (i:=(first:Int)+(r:Int)) (j:=(first:Int)+(2*(r:Int)+1+1)) (p:=first+r) (q:=first+(2*r+2)) (by omega) (by omega) bR bD;exact xDP lC lD1 c1 lR lD2 c2 s1 s2 ⟨hi-(2*r+2),by omega,2*r+2,_,by omega,rfl,by omega,w2,by rw [yX,hsz],hall.swp bR bD,by rw [<- e0,ht]⟩ (by omega) (by omega) (by omega) (by omega) (by omega) (by omega) (by omega) (by omega) (by omega) (by omega) (by omega) (by omega) (by omega) (by omega) (by omega)
   ·rw [if_pos (by simp [l2])] at e0;exact xDO lC lD1 c1 lR lD2 c2 (by rw [<- ht,e0];exact w)
  ·rw [if_neg (by simp [eD,l1])] at e0;rcases hC with ⟨m2,l2⟩ | ⟨m2,l2⟩
   ·rw [if_neg (by simp [l2])] at e0;obtain ⟨τ1,τ2,s1,s2,w2⟩:=w.swapN (i:=(first:Int)+(r:Int)) (j:=(first:Int)+(2*(r:Int)+1)) (p:=first+r) (q:=first+(2*r+1)) (by omega) (by omega) bR bC;exact xDN lC lD1 c1 lR cC s1 s2 ⟨hi-(2*r+1),by omega,2*r+1,_,by omega,rfl,by omega,w2,by rw [yX,hsz],hall.swp bR bC,by rw [<- e0,ht]⟩
   ·rw [if_pos (by simp [l2])] at e0;exact xDM lC lD1 c1 lR cC (by rw [<- ht,e0];exact w)
 ·rw [if_neg (by simp [show ¬ 2*r+1+1<hi from h2])] at e0;rcases hC with ⟨m2,l2⟩ | ⟨m2,l2⟩
  ·rw [if_neg (by simp [l2])] at e0;obtain ⟨τ1,τ2,s1,s2,w2⟩:=w.swapN (i:=(first:Int)+(r:Int)) (j:=(first:Int)+(2*(r:Int)+1)) (p:=first+r) (q:=first+(2*r+1)) (by omega) (by omega) bR bC;exact xDL lR lC cC s1 s2 ⟨hi-(2*r+1),by omega,2*r+1,_,by omega,rfl,by omega,w2,by rw [yX,hsz],hall.swp bR bC,by rw [<- e0,ht]⟩
  ·rw [if_pos (by simp [l2])] at e0;exact xDK lR lC cC (by rw [<- ht,e0];exact w)
end
end
section
open Go.Sort (swp)
section
variable {Z:St} {b c:Nat} {s:Option Nat} {d:Array Rec} {g:FuncId} {gc:List Value} {lt:Rec->Rec->Bool} {V:Rec->Prop}
theorem xUJ {a B:Nat} (h:Dt Z b s d) (hc:Cmp g gc lt V) (hv:xQ V d) (ha:a<=B) (hB:B<=d.size) (hn:d.size<=1000000) :
  uN 107 [.slice (some ⟨b,0,s⟩) d.size c,iV (a:Int),iV (B:Int),.func (.func g) ⟨[]⟩ ⟨gc⟩] (.tuple ⟨[]⟩) Z b s d (Go.Sort.heapSort lt d a B):=by
 have e1:Int.tdiv (((B:Int)-(a:Int))-1) 2=(((B-a-1) / 2:Nat):Int):=by
  by_cases h0:B=a
  ·subst h0;have:((B:Int)-(B:Int))-1=-1:=by omega
   rw [this];have:B-B-1=0:=by omega
   rw [this];rfl
  ·rw [Int.tdiv_eq_ediv_of_nonneg (by omega)];omega
 have e2:(B:Int)-(a:Int)=((B-a:Nat):Int):=by omega
 refine uN.of h (xON (by rw [<- vV,e1,zXL (by omega) (by omega)]) (P0:=fun τ=>∃ dk,W Z τ b s d dk/\dk.size=d.size/\xQ V dk/\Go.Sort.heapPop lt a (B-a) dk=Go.Sort.heapSort lt d a B)
  (yPT (Inv:=fun k i τ=>∃ dk,i=(k:Int)-1/\k<=(B-a-1) / 2+1/\W Z τ b s d dk/\dk.size=d.size/\xQ V dk/\Go.Sort.heapPop lt a (B-a) (Go.Sort.heapBuild lt (B-a) a k dk)=Go.Sort.heapSort lt d a B) ?_ ((B-a-1) / 2+1) _ Z.re ⟨d,by rw [e1];omega,by omega,W.start h,rfl,hv,rfl⟩) ?_)
 ·rintro k i τ ⟨dk,rfl,hk,w,hsz,hall,ht⟩;cases k with
  | zero=>exact xGU ⟨dk,w,hsz,hall,ht⟩ (by omega)
  | succ k =>
   have hs:=xAP (c:=c) (lo:=k) (hi:=B-a) (first:=a) w.dt hc hall (by omega) (by omega) (by omega);obtain ⟨τ',k1,w'⟩:=w.call hs;rw [hsz] at k1;rw [<- e2] at k1;rw [show ((k+1:Nat):Int)-1=(k:Int) by omega];exact xGV k1 ⟨k,by omega,_,by omega,by omega,w',by rw [zCB lt _ _ _ _ _ (Nat.le_refl _),hsz],zDB lt _ _ _ _ _ (Nat.le_refl _) (by omega) hall,ht⟩ (by omega)
 ·rintro τ ⟨dk0,w0,hsz0,hall0,ht0⟩;refine yPR (P2:=fun τ=>W Z τ b s d (Go.Sort.heapSort lt d a B)) (yPS (Inv:=fun k i τ=>∃ dk,i=(k:Int)-1/\k<=B-a/\W Z τ b s d dk/\dk.size=d.size/\xQ V dk/\Go.Sort.heapPop lt a k dk=Go.Sort.heapSort lt d a B) ?_ (B-a) _ τ ⟨dk0,by omega,Nat.le_refl _,w0,hsz0,hall0,ht0⟩) (fun τ hw=>yPQ ⟨rfl,hw⟩) (by omega);rintro k i τ ⟨dk,rfl,hk,w,hsz,hall,ht⟩;cases k with
  | zero=>exact xGS (by rw [<- ht];exact w) (by omega)
  | succ k =>
   have b1:a+k<dk.size:=by omega
   have b2:a<dk.size:=by omega
   rw [show ((k+1:Nat):Int)-1=(k:Int) by omega];have l1:=w.dt.ldN (i:=(a:Int)+(k:Int)) (k:=a+k) (by omega) b1;have l2:=w.dt.ldN (i:=(a:Int)) (k:=a) rfl b2;obtain ⟨τ1,τ2,s1,s2,w2⟩:=w.swapN (i:=(a:Int)) (j:=(a:Int)+(k:Int)) (p:=a) (q:=a+k) rfl (by omega) b2 b1;have hall2:=hall.swp b2 b1;have hs:=xAP (c:=c) (lo:=0) (hi:=k) (first:=a) w2.dt hc hall2 (by rw [yX];omega) (by rw [yX];omega) (by omega);obtain ⟨τ',k1,w'⟩:=w2.call hs;rw [yX,hsz] at k1;exact xGT l1 l2 s1 s2 k1 ⟨k,by omega,_,by omega,by omega,w',by rw [zCB lt _ _ _ _ _ (Nat.le_refl _),yX,hsz],zDB lt _ _ _ _ _ (Nat.le_refl _) (by rw [yX];omega) hall2,ht⟩ (by omega) (by omega) (by omega) (by omega)
theorem xYB {a B dA:Nat} (h:Dt Z b s d) (hc:Cmp g gc lt V) (hv:xQ V d) (ha:a<=dA) (hp:dA<B) (hB:B<=d.size) (hn:d.size<=1000000) :
  uN 113 [.slice (some ⟨b,0,s⟩) d.size c,iV (a:Int),iV (B:Int),iV (dA:Int),.func (.func g) ⟨[]⟩ ⟨gc⟩] (.tuple ⟨[iV ((Go.Sort.partition lt d a B dA).1:Int),.bool (Go.Sort.partition lt d a B dA).2.1]⟩) Z b s d (Go.Sort.partition lt d a B dA).2.2:=by
 have w0:=W.start h;obtain ⟨τ1,τ2,s1,s2,w1⟩:=w0.swapN (i:=(a:Int)) (j:=(dA:Int)) (p:=a) (q:=dA) rfl rfl (by omega) (by omega);obtain ⟨d1,hd1⟩:∃ d1,d1=swp d a dA:=⟨_,rfl⟩;have hall1:xQ V d1:=by rw [hd1];exact hv.swp (by omega) (by omega)
 have hsz1:d1.size=d.size:=by rw [hd1,yX]
 rw [<- hd1] at w1;have l0:=w0.dt.ldN (i:=(dA:Int)) (k:=dA) rfl (by omega);have l0':=w0.dt.ldN (i:=(a:Int)) (k:=a) rfl (by omega);obtain ⟨i1,hi1⟩:∃ i1,i1=Go.Sort.scanUp (fun x=>lt x d1[a]!) d1 (B-1) (a+1):=⟨_,rfl⟩;obtain ⟨j1,hj1⟩:∃ j1,j1=Go.Sort.scanDown (fun x=>!lt x d1[a]!) d1 i1 (B-1):=⟨_,rfl⟩;have hres:Go.Sort.partition lt d a B dA=if i1 > j1 then (j1,true,swp d1 j1 a) else ((Go.Sort.partLoop lt a (i1+1) (j1-1) (swp d1 i1 j1)).1,false,swp (Go.Sort.partLoop lt a (i1+1) (j1-1) (swp d1 i1 j1)).2 (Go.Sort.partLoop lt a (i1+1) (j1-1) (swp d1 i1 j1)).1 a):=by
  unfold Go.Sort.partition;simp only [<- hd1,<- hi1,<- hj1]
 refine uN.of h (xTN l0 l0' s1 s2 (P0:=fun i τ=>i=(i1:Int)/\a+1<=i1/\i1<=B/\W Z τ b s d d1)
  (yVV (Inv:=fun k i τ=>∃ p:Nat,i=p/\p+k=B/\a+1<=p/\W Z τ b s d d1/\Go.Sort.scanUp (fun x=>lt x d1[a]!) d1 (B-1) p=i1) ?_ (B-(a+1)) _ τ2 ⟨a+1,by omega,by omega,by omega,w1,hi1.symm⟩) ?_)
 ·rintro k i τ ⟨p,rfl,hk,hap,w,ht⟩;by_cases hpj:p<=B-1;rotate_left
  ·rw [Go.Sort.scanUp,if_neg (by simp;omega)] at ht;exact xLX ⟨by rw [ht],by omega,by omega,w⟩ (by omega)
  have lp:=w.dt.ldN (i:=(p:Int)) (k:=p) rfl (by omega);have la:=w.dt.ldN (i:=(a:Int)) (k:=a) rfl (by omega);obtain ⟨n,cn,⟨m1,hl⟩ | ⟨m1,hl⟩⟩:=hc.at_ (τ:=τ) hall1 (i:=p) (j:=a) (by omega) (by omega)
  ·rw [Go.Sort.scanUp,if_pos (by simp [hl];omega)] at ht;exact xLZ lp la cn ⟨k-1,by omega,p+1,by omega,by omega,by omega,w,ht⟩
  ·rw [Go.Sort.scanUp,if_neg (by simp [hl])] at ht;exact xLY lp la cn ⟨by rw [ht],by omega,by omega,w⟩
 rintro i τ ⟨rfl,hai,hiB,w⟩;refine yVQ (P2:=fun j τ=>j=(j1:Int)/\j1<B/\i1<=j1+1/\W Z τ b s d d1)
  (yVU (Inv:=fun k j τ=>∃ q:Nat,j=q/\q=k/\q<B/\i1<=q+1/\W Z τ b s d d1/\Go.Sort.scanDown (fun x=>!lt x d1[a]!) d1 i1 q=j1) ?_ (B-1) _ τ ⟨B-1,by omega,rfl,by omega,by omega,w,hj1.symm⟩) ?_
 ·rintro k j τ ⟨q,rfl,rfl,hqB,hiq,w,ht⟩;by_cases hij:i1<=q;rotate_left
  ·have e:j1=q:=by
    cases q with
    | zero=>rw [<- ht];rfl
    | succ q=>rw [<- ht,Go.Sort.scanDown,if_neg (by simp;omega)]
   exact xLU ⟨by rw [e],by omega,by omega,w⟩ (by omega)
  obtain ⟨q',rfl⟩:∃ q',q=q'+1:=⟨q-1,by omega⟩;have lp:=w.dt.ldN (i:=((q'+1:Nat):Int)) (k:=q'+1) rfl (by omega);have la:=w.dt.ldN (i:=(a:Int)) (k:=a) rfl (by omega);obtain ⟨n,cn,⟨m1,hl⟩ | ⟨m1,hl⟩⟩:=hc.at_ (τ:=τ) hall1 (i:=q'+1) (j:=a) (by omega) (by omega)
  ·rw [Go.Sort.scanDown,if_neg (by simp [hl])] at ht;exact xLW lp la cn ⟨by rw [ht],by omega,by omega,w⟩
  ·rw [Go.Sort.scanDown,if_pos (by simp [hl];omega)] at ht;exact xLV lp la cn ⟨q',by omega,q',by omega,rfl,by omega,by omega,w,ht⟩
 rintro j τ ⟨rfl,hjB,hij1,w⟩;by_cases hgt:i1 > j1
 ·rw [if_pos hgt] at hres;have lj:=w.dt.ldN (i:=(j1:Int)) (k:=j1) rfl (by omega);have la:=w.dt.ldN (i:=(a:Int)) (k:=a) rfl (by omega);obtain ⟨τ3,τ4,t1,t2,w4⟩:=w.swapN (i:=(j1:Int)) (j:=(a:Int)) (p:=j1) (q:=a) rfl rfl (by omega) (by omega);exact yVP la lj t1 t2 ⟨by rw [hres],by rw [hres];exact w4⟩
 rw [if_neg hgt] at hres;have lj:=w.dt.ldN (i:=(j1:Int)) (k:=j1) rfl (by omega);have li:=w.dt.ldN (i:=(i1:Int)) (k:=i1) rfl (by omega);obtain ⟨τ3,τ4,t1,t2,w4⟩:=w.swapN (i:=(i1:Int)) (j:=(j1:Int)) (p:=i1) (q:=j1) rfl rfl (by omega) (by omega);obtain ⟨R,hR⟩:∃ R,R=Go.Sort.partLoop lt a (i1+1) (j1-1) (swp d1 i1 j1):=⟨_,rfl⟩;rw [<- hR] at hres;have hall4:=hall1.swp (i:=i1) (j:=j1) (by omega) (by omega);refine yVO lj li t1 t2 (P4:=fun j τ=>j=(R.1:Int)/\R.1<B/\a<=R.1/\R.2.size=d.size/\W Z τ b s d R.2)
  (yVT (Inv:=fun k i j τ=>∃ (p q:Nat) (dk:Array Rec),i=p/\j=q/\k=q+1-p/\a+1<=p/\q<B/\a<=q/\p<=q+2/\dk.size=d.size/\xQ V dk/\W Z τ b s d dk/\Go.Sort.partLoop lt a p q dk=R) ?_ (j1-1+1-(i1+1)) _ _ τ4 ⟨i1+1,j1-1,_,by omega,by omega,rfl,by omega,by omega,by omega,by omega,by rw [yX,hsz1],hall4,w4,hR.symm⟩) ?_
 rotate_left
 ·rintro j τ ⟨rfl,hRB,hRa,hRs,w⟩;have lj:=w.dt.ldN (i:=(R.1:Int)) (k:=R.1) rfl (by omega);have la:=w.dt.ldN (i:=(a:Int)) (k:=a) rfl (by omega);obtain ⟨τ5,τ6,t1,t2,w6⟩:=w.swapN (i:=(R.1:Int)) (j:=(a:Int)) (p:=R.1) (q:=a) rfl rfl (by omega) (by omega);exact yVN la lj t1 t2 ⟨by rw [hres],by rw [hres];exact w6⟩
 rintro k i j τ ⟨p,q,dk,rfl,rfl,hk,hap,hqB,haq,hpq,hsz,hall,w,ht⟩;obtain ⟨i2,hi2⟩:∃ i2,i2=Go.Sort.scanUp (fun x=>lt x dk[a]!) dk q p:=⟨_,rfl⟩;obtain ⟨j2,hj2⟩:∃ j2,j2=Go.Sort.scanDown (fun x=>!lt x dk[a]!) dk i2 q:=⟨_,rfl⟩;have hstep:Go.Sort.partLoop lt a p q dk=if i2 > j2 then (j2,dk) else if (j2-1)+1-(i2+1)<q+1-p then Go.Sort.partLoop lt a (i2+1) (j2-1) (swp dk i2 j2) else (j2,dk):=by
  conv=>lhs;unfold Go.Sort.partLoop
  simp only [dite_eq_ite,<- hi2,<- hj2]
 refine xLT (P6:=fun i τ=>i=(i2:Int)/\p<=i2/\i2<=q+2/\(i2<=q+1\/i2=p)/\W Z τ b s d dk)
  (yVS (Inv:=fun k i τ=>∃ u:Nat,i=u/\u+k=q+2/\p<=u/\(u<=q+1\/u=p)/\W Z τ b s d dk/\Go.Sort.scanUp (fun x=>lt x dk[a]!) dk q u=i2) ?_ (q+2-p) _ τ ⟨p,rfl,by omega,Nat.le_refl _,.inr rfl,w,hi2.symm⟩) ?_
 ·rintro k i τ ⟨u,rfl,hk,hpu,huq,w,ht⟩;by_cases hpj:u<=q;rotate_left
  ·rw [Go.Sort.scanUp,if_neg (by simp;omega)] at ht;exact xLQ ⟨by rw [ht],by omega,by omega,by omega,w⟩ (by omega)
  have lp:=w.dt.ldN (i:=(u:Int)) (k:=u) rfl (by omega);have la:=w.dt.ldN (i:=(a:Int)) (k:=a) rfl (by omega);obtain ⟨n,cn,⟨m1,hl⟩ | ⟨m1,hl⟩⟩:=hc.at_ (τ:=τ) hall (i:=u) (j:=a) (by omega) (by omega)
  ·rw [Go.Sort.scanUp,if_pos (by simp [hl];omega)] at ht;exact xLS lp la cn ⟨k-1,by omega,u+1,by omega,by omega,by omega,by omega,w,ht⟩
  ·rw [Go.Sort.scanUp,if_neg (by simp [hl])] at ht;exact xLR lp la cn ⟨by rw [ht],by omega,by omega,by omega,w⟩
 rintro i τ ⟨rfl,hpi,hiq,hiq2,w⟩;refine yVM (P8:=fun j τ=>j=(j2:Int)/\j2<=q/\(i2<=j2+1\/j2=q)/\W Z τ b s d dk)
  (yVR (Inv:=fun k j τ=>∃ v:Nat,j=v/\v=k/\v<=q/\(i2<=v+1\/v=q)/\W Z τ b s d dk/\Go.Sort.scanDown (fun x=>!lt x dk[a]!) dk i2 v=j2) ?_ q _ τ ⟨q,rfl,rfl,Nat.le_refl _,.inr rfl,w,hj2.symm⟩) ?_
 ·rintro k j τ ⟨v,rfl,rfl,hvq,hiv,w,ht⟩;by_cases hij:i2<=v;rotate_left
  ·have e:j2=v:=by
    cases v with
    | zero=>rw [<- ht];rfl
    | succ v=>rw [<- ht,Go.Sort.scanDown,if_neg (by simp;omega)]
   exact xLN ⟨by rw [e],by omega,by omega,w⟩ (by omega)
  obtain ⟨v',rfl⟩:∃ v',v=v'+1:=⟨v-1,by omega⟩;have lp:=w.dt.ldN (i:=((v'+1:Nat):Int)) (k:=v'+1) rfl (by omega);have la:=w.dt.ldN (i:=(a:Int)) (k:=a) rfl (by omega);obtain ⟨n,cn,⟨m1,hl⟩ | ⟨m1,hl⟩⟩:=hc.at_ (τ:=τ) hall (i:=v'+1) (j:=a) (by omega) (by omega)
  ·rw [Go.Sort.scanDown,if_neg (by simp [hl])] at ht;exact xLP lp la cn ⟨by rw [ht],by omega,by omega,w⟩
  ·rw [Go.Sort.scanDown,if_pos (by simp [hl];omega)] at ht;exact xLO lp la cn ⟨v',by omega,v',by omega,rfl,by omega,by omega,w,ht⟩
 rintro j τ ⟨rfl,hjq,hij2,w⟩;by_cases hgt:i2 > j2
 ·rw [if_pos hgt] at hstep;have e:R=(j2,dk):=by rw [<- ht,hstep]
  exact yVL ⟨by rw [e],by rw [e];show j2<B;omega,by rw [e];show a<=j2;omega,by rw [e];exact hsz,by rw [e];exact w⟩ (by omega)
 rw [if_neg hgt,if_pos (by omega)] at hstep;have lj:=w.dt.ldN (i:=(j2:Int)) (k:=j2) rfl (by omega);have li:=w.dt.ldN (i:=(i2:Int)) (k:=i2) rfl (by omega);obtain ⟨τ5,τ6,t1,t2,w6⟩:=w.swapN (i:=(i2:Int)) (j:=(j2:Int)) (p:=i2) (q:=j2) rfl rfl (by omega) (by omega);exact yVK lj li t1 t2 ⟨j2-1+1-(i2+1),by omega,i2+1,j2-1,_,by omega,by omega,rfl,by omega,by omega,by omega,by omega,by rw [yX,hsz],hall.swp (by omega) (by omega),w6,by rw [<- hstep,ht]⟩
end
end
section
open Go.Sort (swp)
section
variable {Z:St} {b c:Nat} {s:Option Nat} {d:Array Rec} {g:FuncId} {gc:List Value} {lt:Rec->Rec->Bool} {V:Rec->Prop}
theorem xMF {a B dA:Nat} (h:Dt Z b s d) (hc:Cmp g gc lt V) (hv:xQ V d) (ha:a<=dA) (hp:dA<B) (hB:B<=d.size) (hn:d.size<=1000000) :
  uN 112 [.slice (some ⟨b,0,s⟩) d.size c,iV (a:Int),iV (B:Int),iV (dA:Int),.func (.func g) ⟨[]⟩ ⟨gc⟩] (iV ((Go.Sort.partitionEqual lt d a B dA).1:Int)) Z b s d (Go.Sort.partitionEqual lt d a B dA).2:=by
 have w0:=W.start h;obtain ⟨τ1,τ2,s1,s2,w1⟩:=w0.swapN (i:=(a:Int)) (j:=(dA:Int)) (p:=a) (q:=dA) rfl rfl (by omega) (by omega);have l0:=w0.dt.ldN (i:=(dA:Int)) (k:=dA) rfl (by omega);have l0':=w0.dt.ldN (i:=(a:Int)) (k:=a) rfl (by omega);obtain ⟨R,hR⟩:∃ R,R=Go.Sort.partitionEqual lt d a B dA:=⟨_,rfl⟩;rw [<- hR];refine uN.of h (xGC l0 l0' s1 s2 (P0:=fun i τ=>i=(R.1:Int)/\W Z τ b s d R.2)
  (yJP (Inv:=fun k i j τ=>∃ (p q:Nat) (dk:Array Rec),i=p/\j=q/\k=q+1-p/\a+1<=p/\q<B/\a<=q/\p<=q+2/\dk.size=d.size/\xQ V dk/\W Z τ b s d dk/\Go.Sort.partEqLoop lt a p q dk=R) ?_ (B-1+1-(a+1)) _ _ τ2 ⟨a+1,B-1,_,by omega,by omega,rfl,by omega,by omega,by omega,by omega,yX _ _ _,hv.swp (by omega) (by omega),w1,by rw [hR];rfl⟩)
  (fun i τ h=>yJM ⟨by rw [h.1],h.2⟩))
 rintro k i j τ ⟨p,q,dk,rfl,rfl,hk,hap,hqB,haq,hpq,hsz,hall,w,ht⟩;obtain ⟨i2,hi2⟩:∃ i2,i2=Go.Sort.scanUp (fun x=>!lt dk[a]! x) dk q p:=⟨_,rfl⟩;obtain ⟨j2,hj2⟩:∃ j2,j2=Go.Sort.scanDown (fun x=>lt dk[a]! x) dk i2 q:=⟨_,rfl⟩;have hstep:Go.Sort.partEqLoop lt a p q dk=if i2 > j2 then (i2,dk) else if (j2-1)+1-(i2+1)<q+1-p then Go.Sort.partEqLoop lt a (i2+1) (j2-1) (swp dk i2 j2) else (i2,dk):=by
  conv=>lhs;unfold Go.Sort.partEqLoop
  simp only [dite_eq_ite,<- hi2,<- hj2]
 refine yWD (P2:=fun i τ=>i=(i2:Int)/\p<=i2/\i2<=q+2/\(i2<=q+1\/i2=p)/\W Z τ b s d dk)
  (yJO (Inv:=fun k i τ=>∃ u:Nat,i=u/\u+k=q+2/\p<=u/\(u<=q+1\/u=p)/\W Z τ b s d dk/\Go.Sort.scanUp (fun x=>!lt dk[a]! x) dk q u=i2) ?_ (q+2-p) _ τ ⟨p,rfl,by omega,Nat.le_refl _,.inr rfl,w,hi2.symm⟩) ?_
 ·rintro k i τ ⟨u,rfl,hk,hpu,huq,w,ht⟩;by_cases hpj:u<=q;rotate_left
  ·rw [Go.Sort.scanUp,if_neg (by simp;omega)] at ht;exact yWA ⟨by rw [ht],by omega,by omega,by omega,w⟩ (by omega)
  have lp:=w.dt.ldN (i:=(u:Int)) (k:=u) rfl (by omega);have la:=w.dt.ldN (i:=(a:Int)) (k:=a) rfl (by omega);obtain ⟨n,cn,⟨m1,hl⟩ | ⟨m1,hl⟩⟩:=hc.at_ (τ:=τ) hall (i:=a) (j:=u) (by omega) (by omega)
  ·rw [Go.Sort.scanUp,if_neg (by simp [hl])] at ht;exact yWC la lp cn ⟨by rw [ht],by omega,by omega,by omega,w⟩
  ·rw [Go.Sort.scanUp,if_pos (by simp [hl];omega)] at ht;exact yWB la lp cn ⟨k-1,by omega,u+1,by omega,by omega,by omega,by omega,w,ht⟩
 rintro i τ ⟨rfl,hpi,hiq,hiq2,w⟩;refine yJL (P4:=fun j τ=>j=(j2:Int)/\j2<=q/\(i2<=j2+1\/j2=q)/\W Z τ b s d dk)
  (yJN (Inv:=fun k j τ=>∃ v:Nat,j=v/\v=k/\v<=q/\(i2<=v+1\/v=q)/\W Z τ b s d dk/\Go.Sort.scanDown (fun x=>lt dk[a]! x) dk i2 v=j2) ?_ q _ τ ⟨q,rfl,rfl,Nat.le_refl _,.inr rfl,w,hj2.symm⟩) ?_
 ·rintro k j τ ⟨v,rfl,rfl,hvq,hiv,w,ht⟩;by_cases hij:i2<=v;rotate_left
  ·have e:j2=v:=by
    cases v with
    | zero=>rw [<- ht];rfl
    | succ v=>rw [<- ht,Go.Sort.scanDown,if_neg (by simp;omega)]
   exact yVX ⟨by rw [e],by omega,by omega,w⟩ (by omega)
  obtain ⟨v',rfl⟩:∃ v',v=v'+1:=⟨v-1,by omega⟩;have lp:=w.dt.ldN (i:=((v'+1:Nat):Int)) (k:=v'+1) rfl (by omega);have la:=w.dt.ldN (i:=(a:Int)) (k:=a) rfl (by omega);obtain ⟨n,cn,⟨m1,hl⟩ | ⟨m1,hl⟩⟩:=hc.at_ (τ:=τ) hall (i:=a) (j:=v'+1) (by omega) (by omega)
  ·rw [Go.Sort.scanDown,if_pos (by simp [hl];omega)] at ht;exact yVZ la lp cn ⟨v',by omega,v',by omega,rfl,by omega,by omega,w,ht⟩
  ·rw [Go.Sort.scanDown,if_neg (by simp [hl])] at ht;exact yVY la lp cn ⟨by rw [ht],by omega,by omega,w⟩
 rintro j τ ⟨rfl,hjq,hij2,w⟩;by_cases hgt:i2 > j2
 ·rw [if_pos hgt] at hstep;have e:R=(i2,dk):=by rw [<- ht,hstep]
  exact yJK ⟨by rw [e],by rw [e];exact w⟩ (by omega)
 rw [if_neg hgt,if_pos (by omega)] at hstep;have lj:=w.dt.ldN (i:=(j2:Int)) (k:=j2) rfl (by omega);have li:=w.dt.ldN (i:=(i2:Int)) (k:=i2) rfl (by omega);obtain ⟨τ5,τ6,t1,t2,w6⟩:=w.swapN (i:=(i2:Int)) (j:=(j2:Int)) (p:=i2) (q:=j2) rfl rfl (by omega) (by omega);exact yJJ lj li t1 t2 ⟨j2-1+1-(i2+1),by omega,i2+1,j2-1,_,by omega,by omega,rfl,by omega,by omega,by omega,by omega,by rw [yX,hsz],hall.swp (by omega) (by omega),w6,by rw [<- hstep,ht]⟩
theorem zJC (lt:Rec->Rec->Bool):∀ (j:Nat) (d:Array Rec),(Go.Sort.shiftDown lt j d).size=d.size
 | 0,d=>rfl
 | j+1,d=>by
  unfold Go.Sort.shiftDown;split
  ·rfl
  ·rw [zJC,yX]
theorem zMX (lt:Rec->Rec->Bool) {V:Rec->Prop}:∀ (j:Nat) (d:Array Rec),j<d.size->xQ V d->xQ V (Go.Sort.shiftDown lt j d)
 | 0,d,_,h=>h
 | j+1,d,hj,h=>by
  unfold Go.Sort.shiftDown;split
  ·exact h
  ·exact zMX lt j _ (by rw [yX];omega) (h.swp hj (by omega))
theorem zCR (lt:Rec->Rec->Bool) {V:Rec->Prop} {B:Nat}:∀ (k j:Nat) (d:Array Rec),B-j<=k->1<=j->B<=d.size->xQ V d->(Go.Sort.shiftUp lt B j d).size=d.size/\xQ V (Go.Sort.shiftUp lt B j d)
 | 0,j,d,hk,hj,hB,h=>by rw [Go.Sort.shiftUp,if_neg (by omega)];exact ⟨rfl,h⟩
 | k+1,j,d,hk,hj,hB,h=>by
  rw [Go.Sort.shiftUp];split
  ·split
   ·exact ⟨rfl,h⟩
   ·have:=zCR lt (V:=V) (B:=B) k (j+1) (swp d j (j-1)) (by omega) (by omega) (by rw [yX];exact hB) (h.swp (by omega) (by omega));rw [yX] at this;exact this
  ·exact ⟨rfl,h⟩
theorem zMY (lt:Rec->Rec->Bool) (d:Array Rec) (B:Nat):∀ (k i:Nat),B-i<=k->i<=B->i<=Go.Sort.scanSorted lt d B i/\Go.Sort.scanSorted lt d B i<=B
 | 0,i,hk,hi=>by rw [Go.Sort.scanSorted,if_neg (by simp;omega)];omega
 | k+1,i,hk,hi=>by
  rw [Go.Sort.scanSorted];split
  ·rename_i h;have:i<B:=by simp at h;exact h.1
   have:=zMY lt d B k (i+1) (by omega) (by omega);omega
  ·omega
theorem yVW {a B i10:Int} {x i:Nat} {τ:St} {dk:Array Rec} (hc:Cmp g gc lt V) (w:W Z τ b s d dk) (hsz:dk.size=d.size) (hall:xQ V dk) (hx:x<d.size) (hn:d.size<=1000000) :
  zZK ⟨b,0,s⟩ d.size c a B g gc (i:Int) i10 (x:Int) τ (fun τ'=>W Z τ' b s d (Go.Sort.shiftDown lt x dk)):=by
 refine yON (Inv:=fun k j τ'=>∃ (q:Nat) (dq:Array Rec),j=q/\q=k/\q<=x/\dq.size=d.size/\xQ V dq/\W Z τ' b s d dq/\Go.Sort.shiftDown lt q dq=Go.Sort.shiftDown lt x dk) ?_ x _ τ ⟨x,dk,rfl,rfl,Nat.le_refl _,hsz,hall,w,rfl⟩;rintro k j τ' ⟨q,dq,rfl,rfl,hq,hsz',hall',w',ht⟩;cases q with
 | zero=>exact xFR (by rw [<- ht];exact w') (by omega)
 | succ q =>
  have l1:=w'.dt.ldN (i:=((q+1:Nat):Int)) (k:=q+1) rfl (by omega);have l2:=w'.dt.ldN (i:=((q+1:Nat):Int)-1) (k:=q) (by omega) (by omega);obtain ⟨n,cn,⟨m1,hl⟩ | ⟨m1,hl⟩⟩:=hc.at_ (τ:=τ') hall' (i:=q+1) (j:=q) (by omega) (by omega)
  ·obtain ⟨τ5,τ6,t1,t2,w6⟩:=w'.swapN (i:=((q+1:Nat):Int)) (j:=((q+1:Nat):Int)-1) (p:=q+1) (q:=q) rfl (by omega) (by omega) (by omega);rw [Go.Sort.shiftDown,if_neg (by simp [hl])] at ht;exact xFT l1 l2 cn t1 t2 ⟨q,by omega,q,_,by omega,rfl,by omega,by rw [yX,hsz'],hall'.swp (by omega) (by omega),w6,ht⟩
  ·rw [Go.Sort.shiftDown,if_pos (by simp [hl])] at ht;exact xFS l1 l2 cn (by rw [<- ht];exact w')
theorem yOL {a i10:Int} {B x i:Nat} {τ:St} {dk:Array Rec} (hc:Cmp g gc lt V) (w:W Z τ b s d dk) (hsz:dk.size=d.size) (hall:xQ V dk) (hx:1<=x) (hxB:x<=B+2) (hB:B<=d.size) (hn:d.size<=1000000) :
  zJY ⟨b,0,s⟩ d.size c a (B:Int) g gc (i:Int) i10 (x:Int) τ (fun τ'=>W Z τ' b s d (Go.Sort.shiftUp lt B x dk)):=by
 refine yOM (Inv:=fun k j τ'=>∃ (q:Nat) (dq:Array Rec),j=q/\q+k=B+2/\1<=q/\dq.size=d.size/\xQ V dq/\W Z τ' b s d dq/\Go.Sort.shiftUp lt B q dq=Go.Sort.shiftUp lt B x dk) ?_ (B+2-x) _ τ ⟨x,dk,rfl,by omega,hx,hsz,hall,w,rfl⟩;rintro k j τ' ⟨q,dq,rfl,hk,hq,hsz',hall',w',ht⟩;by_cases hqB:q<B;rotate_left
 ·rw [Go.Sort.shiftUp,if_neg hqB] at ht;exact xFO (by rw [<- ht];exact w') (by omega)
 have l1:=w'.dt.ldN (i:=(q:Int)) (k:=q) rfl (by omega);have l2:=w'.dt.ldN (i:=(q:Int)-1) (k:=q-1) (by omega) (by omega);obtain ⟨n,cn,⟨m1,hl⟩ | ⟨m1,hl⟩⟩:=hc.at_ (τ:=τ') hall' (i:=q) (j:=q-1) (by omega) (by omega)
 ·obtain ⟨τ5,τ6,t1,t2,w6⟩:=w'.swapN (i:=(q:Int)) (j:=(q:Int)-1) (p:=q) (q:=q-1) rfl (by omega) (by omega) (by omega);rw [Go.Sort.shiftUp,if_pos hqB,if_neg (by simp [hl])] at ht;exact xFQ l1 l2 cn t1 t2 ⟨k-1,by omega,q+1,_,by omega,by omega,by omega,by rw [yX,hsz'],hall'.swp (by omega) (by omega),w6,ht⟩
 ·rw [Go.Sort.shiftUp,if_pos hqB,if_pos (by simp [hl])] at ht;exact xFP l1 l2 cn (by rw [<- ht];exact w')
theorem xBL {a B:Nat} (h:Dt Z b s d) (hc:Cmp g gc lt V) (hv:xQ V d) (ha:a<B) (hB:B<=d.size) (hn:d.size<=1000000) :
  uN 111 [.slice (some ⟨b,0,s⟩) d.size c,iV (a:Int),iV (B:Int),.func (.func g) ⟨[]⟩ ⟨gc⟩] (.bool (Go.Sort.partialInsertionSort lt d a B).2) Z b s d (Go.Sort.partialInsertionSort lt d a B).1:=by
 obtain ⟨R,hR⟩:∃ R,R=Go.Sort.partialInsertionSort lt d a B:=⟨_,rfl⟩;rw [<- hR];refine uN.of h (xME (P0:=fun τ=>R.2=false/\W Z τ b s d R.1) (Pr:=fun t τ=>R.2=t/\W Z τ b s d R.1)
  (yOP (Inv:=fun k i j τ=>∃ (p:Nat) (dk:Array Rec),i=p/\j=5-(k:Int)/\k<=5/\a+1<=p/\p<=B/\dk.size=d.size/\xQ V dk/\W Z τ b s d dk/\Go.Sort.partialIns lt a B k p dk=R) ?_ 5 _ _ Z.re ⟨a+1,d,by omega,by omega,Nat.le_refl _,Nat.le_refl _,by omega,rfl,hv,W.start h,hR.symm⟩)
  (fun τ h=>yOK ⟨by rw [h.1],h.2⟩) (fun t τ h=>yOJ ⟨by rw [h.1],h.2⟩))
 rintro k i j τ ⟨p,dk,rfl,rfl,hk5,hap,hpB,hsz,hall,w,ht⟩;cases k with
 | zero =>
  rw [Go.Sort.partialIns] at ht;exact xFX (by rw [<- ht];exact ⟨rfl,w⟩) (by omega)
 | succ k =>
 obtain ⟨i2,hi2⟩:∃ i2,i2=Go.Sort.scanSorted lt dk B p:=⟨_,rfl⟩;have hrange:=zMY lt dk B _ p (Nat.le_refl _) hpB;rw [<- hi2] at hrange;rw [Go.Sort.partialIns,<- hi2] at ht;refine xFY (P2:=fun i τ=>i=(i2:Int)/\W Z τ b s d dk) (yOO (Inv:=fun k i τ=>∃ u:Nat,i=u/\u+k=B/\p<=u/\W Z τ b s d dk/\Go.Sort.scanSorted lt dk B u=i2) ?_ (B-p) _ τ ⟨p,rfl,by omega,Nat.le_refl _,w,hi2.symm⟩) ?_ (by omega)
 ·rintro k i τ ⟨u,rfl,hk,hpu,w,ht⟩;by_cases huB:u<B;rotate_left
  ·rw [Go.Sort.scanSorted,if_neg (by simp;omega)] at ht;exact xFU ⟨by rw [ht],w⟩ (by omega)
  have l1:=w.dt.ldN (i:=(u:Int)) (k:=u) rfl (by omega);have l2:=w.dt.ldN (i:=(u:Int)-1) (k:=u-1) (by omega) (by omega);obtain ⟨n,cn,⟨m1,hl⟩ | ⟨m1,hl⟩⟩:=hc.at_ (τ:=τ) hall (i:=u) (j:=u-1) (by omega) (by omega)
  ·rw [Go.Sort.scanSorted,if_neg (by simp [hl])] at ht;exact xFW l1 l2 cn ⟨by rw [ht],w⟩
  ·rw [Go.Sort.scanSorted,if_pos (by simp [hl];omega)] at ht;exact xFV l1 l2 cn ⟨k-1,by omega,u+1,by omega,by omega,by omega,w,ht⟩
 rintro i τ ⟨rfl,w⟩;by_cases hiB:i2=B
 ·simp only [hiB,if_true] at ht;exact yOI (by rw [<- ht];exact ⟨rfl,w⟩) (by omega)
 simp only [hiB,if_false] at ht;by_cases h50:B-a<50
 ·rw [if_pos h50] at ht;exact yOH (by rw [<- ht];exact ⟨rfl,w⟩) (by omega) (by omega) (by omega)
 rw [if_neg h50] at ht;have l1:=w.dt.ldN (i:=(i2:Int)-1) (k:=i2-1) (by omega) (by omega);have l2:=w.dt.ldN (i:=(i2:Int)) (k:=i2) rfl (by omega);obtain ⟨τ5,τ6,t1,t2,w6⟩:=w.swapN (i:=(i2:Int)) (j:=(i2:Int)-1) (p:=i2) (q:=i2-1) rfl (by omega) (by omega) (by omega);have hall6:=hall.swp (i:=i2) (j:=i2-1) (by omega) (by omega);have hsz6:(swp dk i2 (i2-1)).size=d.size:=by rw [yX,hsz]
 have right:∀ (dx:Array Rec) (τx:St),W Z τx b s d dx->dx.size=d.size->xQ V dx->2<=B-i2->zJY ⟨b,0,s⟩ d.size c (a:Int) (B:Int) g gc (i2:Int) (5-((k+1:Nat):Int)) ((i2:Int)+1) τx (fun τ'=>W Z τ' b s d (Go.Sort.shiftUp lt B (i2+1) dx)):=fun dx τx wx hx1 hx2 h2=>by
  have:=yOL (c:=c) (a:=(a:Int)) (i10:=5-((k+1:Nat):Int)) (B:=B) (x:=i2+1) (i:=i2) hc wx hx1 hx2 (by omega) (by omega) hB hn;rw [show ((i2+1:Nat):Int)=(i2:Int)+1 by omega] at this;exact this
 by_cases hl2:i2-a ≥ 2
 ·simp only [hl2,if_true] at ht;have left:=yVW (c:=c) (a:=(a:Int)) (B:=(B:Int)) (i10:=5-((k+1:Nat):Int)) (x:=i2-1) (i:=i2) hc w6 hsz6 hall6 (by omega) hn;rw [show ((i2-1:Nat):Int)=(i2:Int)-1 by omega] at left;have hszL:(Go.Sort.shiftDown lt (i2-1) (swp dk i2 (i2-1))).size=d.size:=by rw [zJC,hsz6]
  have hallL:=zMX lt (V:=V) (i2-1) (swp dk i2 (i2-1)) (by omega) hall6;refine yOG l1 l2 t1 t2 left (fun τ' w7=>?_) (by omega) (by omega) (by omega) (by omega) (by omega) (by omega) (by omega) (by omega);by_cases hr2:B-i2 ≥ 2
  ·simp only [hr2,if_true] at ht;have hU:=zCR lt (V:=V) (B:=B) _ (i2+1) _ (Nat.le_refl _) (by omega) (by omega) hallL;exact yOD (right _ _ w7 hszL hallL (by omega)) (fun τ'' w8=>zUS ⟨k,by omega,i2,_,rfl,by omega,by omega,by omega,by omega,by rw [hU.1,hszL],hU.2,w8,ht⟩)
  ·simp only [hr2,if_false] at ht;exact yOC ⟨k,by omega,i2,_,rfl,by omega,by omega,by omega,by omega,hszL,hallL,w7,ht⟩
 ·simp only [hl2,if_false] at ht;by_cases hr2:B-i2 ≥ 2
  ·simp only [hr2,if_true] at ht;have hU:=zCR lt (V:=V) (B:=B) _ (i2+1) _ (Nat.le_refl _) (by omega) (by omega) hall6;exact yOF l1 l2 t1 t2 (right _ _ w6 hsz6 hall6 (by omega)) (fun τ'' w8=>zUS ⟨k,by omega,i2,_,rfl,by omega,by omega,by omega,by omega,by rw [hU.1,hsz6],hU.2,w8,ht⟩)
  ·simp only [hr2,if_false] at ht;exact yOE l1 l2 t1 t2 ⟨k,by omega,i2,_,rfl,by omega,by omega,by omega,by omega,hsz6,hall6,w6,ht⟩
end
end
section
noncomputable section
variable (data:oAa) (ag aj:Nat) (aG a_1 bU kB:Int) (q0:Int->Int->St->Prop) (BB:Nat) (n2 aH:Int) (Q:St->Prop) (q2:Int->St->Prop) (Z:St) (Nx:Int->Int->St->Prop) (q1:vPa) (q3:Int->St->Prop) (Q0:St->Prop)
def xAR:Code:=(Code.part [1,1,0,0] (qh 110))
def zWL:lNa:=[(0,.slice data ag aj),(8,iV aG),(9,iV bU)]
def xKL:Alt:=⟨Int × Int,.normal,fun t=>zWL data ag aj t.1 t.2,fun t=>[],fun t Z=>q0 t.1 t.2 Z⟩
def yEE (data:oAa) (ag aj:Nat):lNa:=[]
def zRU:Alt:=⟨Unit,(.exit 0),fun t=>yEE data ag aj,fun t=>[],fun t Z=>Q Z⟩
def yIQ:Prop:=qi qj none xAR 34 (zWL data ag aj aG bU) [] [xKL data ag aj Nx,zRU data ag aj Q0] Z
def xAS:Prop:=qk qj none xAR 34 (zWL data ag aj aG bU) [] [zRU data ag aj Q0] Z
def yEF:Prop:=kZ qj (qh 110) [1,1,0] (ql 110 q1) (.exit 0) 34 (yEE data ag aj) Z
def yHM:Code:=(Code.part [1,1,0,1,1,1,0,0] (qh 108))
def zMM:lNa:=[(0,.slice data ag aj),(1,iV a_1),(8,iV kB),(9,pq BB 0),(10,.int .u64 n2),(11,iV aH)]
def yZE:Alt:=⟨Int,.normal,fun t=>zMM data ag aj a_1 kB BB n2 t,fun t=>[],fun t Z=>q2 t Z⟩
def zVR (data:oAa) (ag aj:Nat) (a_1 kB:Int) (BB:Nat) (n2:Int):lNa:=[]
def zKZ:Alt:=⟨Unit,(.exit 0),fun t=>zVR data ag aj a_1 kB BB n2,fun t=>[],fun t Z=>Q Z⟩
def zMN:Prop:=qi qj none yHM 67 (zMM data ag aj a_1 kB BB n2 aH) [] [yZE data ag aj a_1 kB BB n2 q3,zKZ data ag aj a_1 kB BB n2 Q0] Z
def yHN:Prop:=qk qj none yHM 67 (zMM data ag aj a_1 kB BB n2 aH) [] [zKZ data ag aj a_1 kB BB n2 Q0] Z
def zVS:Prop:=kZ qj (qh 108) [1,1,0,1,1,1,0] (ql 108 q1) (.exit 0) 67 (zVR data ag aj a_1 kB BB n2) Z
end
variable {ag aj BB:Nat} {a_1 b n1 n2 n3 n4 n5 n6 n7 n8 c n9 aG bU nE nG nA nB nD nF kB aH zA nK nM nP nQ z1 length n10 n11 n13 x z2:Int} {swaps au r:Addr} {az:FuncId} {ao:lVa} {Z9 Z Z3 Z6 Z2 Z4 Z8 ZX ZF ZC ZBB ZQ Z12:St} {Q:vPa} {data:oAa} {Inv:Nat->Int->Int->St->Prop} {Q0 P0:St->Prop} {Nx:Int->St->Prop}
theorem xTQ (h1:lz Z 45 (zL au (Int.toNat b*3)) (qf (rcd n1 n2 n3))) (h2:lz Z 45 (zL au (Int.toNat a_1*3)) (qf (rcd n4 n5 n6))) (h3:qm az (qf (rcd n1 n2 n3)::(qf (rcd n4 n5 n6))::ao) Z (iV n7) Z) (h4:lz Z 3 swaps (iV n8)) (h5:qn (evL [pz swaps,iV (n8+1)]) Z (.store 3 (.tmp 0) (.tmp 1))=some (undef,Z9)) (nx:Q (.tuple ⟨[iV b,iV a_1]⟩) Z9) (u1:Ix b ag:=by omega) (u2:Ix a_1 ag:=by omega) (u3:n7<0:=by omega) (u4:I6 (n8+1):=by omega):qg 130 [.slice (some au) ag aj,iV a_1,iV b,pz swaps,.func (.func az) ⟨[]⟩ ⟨ao⟩] Z Q :=
 zG [.g,.g,.g,.g,.g,.i,.l (qf (rcd n1 n2 n3)),.g,.g,.i,.l (qf (rcd n4 n5 n6)),.c (iV n7) Z,.b true,.g,.g,.l (iV n8),.n (n8+1),.g,.e undef Z9,.g,.g,.g,.g] (kd (an3 u1 h1 u2 (an6 h2 h3 (zR u3) h4 (w64 u4) h5 nx)))
theorem xTP (h1:lz Z 45 (zL au (Int.toNat b*3)) (qf (rcd n1 n2 n3))) (h2:lz Z 45 (zL au (Int.toNat a_1*3)) (qf (rcd n4 n5 n6))) (h3:qm az (qf (rcd n1 n2 n3)::(qf (rcd n4 n5 n6))::ao) Z (iV n7) Z) (nx:Q (.tuple ⟨[iV a_1,iV b]⟩) Z) (u1:Ix b ag:=by omega) (u2:Ix a_1 ag:=by omega) (u3:¬ n7<0:=by omega):qg 130 [.slice (some au) ag aj,iV a_1,iV b,pz swaps,.func (.func az) ⟨[]⟩ ⟨ao⟩] Z Q :=
 zG [.g,.g,.g,.g,.g,.i,.l (qf (rcd n1 n2 n3)),.g,.g,.i,.l (qf (rcd n4 n5 n6)),.c (iV n7) Z,.b false,.g,.g,.g,.g] (kd (an6 u1 h1 u2 h2 h3 (zT u3) nx))
theorem xMU (h1:qm 130 [.slice data ag aj,iV a_1,iV b,pz swaps,.func (.func az) ⟨[]⟩ ⟨ao⟩] Z (.tuple ⟨[iV n1,iV n2]⟩) Z3) (h2:qm 130 [.slice data ag aj,iV n2,iV c,pz swaps,.func (.func az) ⟨[]⟩ ⟨ao⟩] Z3 (.tuple ⟨[iV n4,iV n5]⟩) Z6) (h3:qm 130 [.slice data ag aj,iV n1,iV n4,pz swaps,.func (.func az) ⟨[]⟩ ⟨ao⟩] Z6 (.tuple ⟨[iV n7,iV n8]⟩) Z9) (nx:Q (iV n8) Z9):qg 125 [.slice data ag aj,iV a_1,iV b,iV c,pz swaps,.func (.func az) ⟨[]⟩ ⟨ao⟩] Z Q :=
 zG [.g,.g,.g,.g,.g,.g,.c (.tuple ⟨[iV n1,iV n2]⟩) Z3,.g,.g,.g,.g,.g,.g,.g,.g,.g,.g,.c (.tuple ⟨[iV n4,iV n5]⟩) Z6,.g,.g,.g,.g,.g,.g,.g,.g,.g,.g,.c (.tuple ⟨[iV n7,iV n8]⟩) Z9,.g,.g,.g,.g,.g,.g,.g] (kd (an3 h1 h2 h3 nx))
theorem xBP (h1:qm 125 [.slice data ag aj,iV (a_1-1),iV a_1,iV (a_1+1),pz swaps,.func (.func az) ⟨[]⟩ ⟨ao⟩] Z (iV n1) Z2) (nx:Q (iV n1) Z2) (u1:I6 (a_1-1):=by omega) (u2:I6 (a_1+1):=by omega):qg 124 [.slice data ag aj,iV a_1,pz swaps,.func (.func az) ⟨[]⟩ ⟨ao⟩] Z Q :=
 zG [.g,.g,.g,.n (a_1-1),.g,.g,.n (a_1+1),.g,.g,.c (iV n1) Z2,.g] (kd (an3 (w64 u1) (w64 u2) h1 nx))
theorem yYF:let s1:=Int.tdiv (b-a_1) 4;∀ (h1:IntKind.wrap .i64 s1=Int.tdiv (b-a_1) 4) (h2:qm 124 [.slice data ag aj,iV (a_1+(s1*1)),pq Z.y 0,.func (.func az) ⟨[]⟩ ⟨ao⟩] (Z.row [iV 0] 1) (iV n1) Z2) (h3:qm 124 [.slice data ag aj,iV (a_1+(s1*2)),pq Z.y 0,.func (.func az) ⟨[]⟩ ⟨ao⟩] Z2 (iV n3) Z4) (h4:qm 124 [.slice data ag aj,iV (a_1+(s1*3)),pq Z.y 0,.func (.func az) ⟨[]⟩ ⟨ao⟩] Z4 (iV n5) Z6) (h5:qm 125 [.slice data ag aj,iV n1,iV n3,iV n5,pq Z.y 0,.func (.func az) ⟨[]⟩ ⟨ao⟩] Z6 (iV n7) Z8) (h6:lz Z8 3 (qe Z.y 0) (iV n9)) (nx:Q (.tuple ⟨[iV n7,iV 1]⟩) Z8) (u1:I6 (b-a_1):=by omega) (u2:I6 (s1*1):=by omega) (u3:I6 (a_1+(s1*1)):=by omega) (u4:I6 (s1*2):=by omega) (u5:I6 (a_1+(s1*2)):=by omega) (u6:I6 (s1*3):=by omega) (u7:I6 (a_1+(s1*3)):=by omega) (u8:8<=(b-a_1):=by omega) (u9:50<=(b-a_1):=by omega) (u10:n9=0:=by omega),qg 109 [.slice data ag aj,iV a_1,iV b,.func (.func az) ⟨[]⟩ ⟨ao⟩] Z Q:=
 let s1:=Int.tdiv (b-a_1) 4;fun h1 h2 h3 h4 h5 h6 nx u1 u2 u3 u4 u5 u6 u7 u8 u9 u10=>zG [.g,.g,.g,.g,.n (b-a_1),.g,.g,.g,.g,.n s1,.n (s1*1),.n (a_1+(s1*1)),.g,.g,.g,.n s1,.n (s1*2),.n (a_1+(s1*2)),.g,.g,.g,.n s1,.n (s1*3),.n (a_1+(s1*3)),.g,.g,.b true,.g,.b true,.g,.g,.g,.c (iV n1) Z2,.g,.g,.g,.g,.c (iV n3) Z4,.g,.g,.g,.g,.c (iV n5) Z6,.g,.g,.g,.g,.g,.g,.c (iV n7) Z8,.g,.l (iV n9),.b true,.g,.g,.g,.g] (kd (an6 (w64 u1) h1 (w64 u2) (w64 u3) h1 (w64 u4) (an6 (w64 u5) h1 (w64 u6) (w64 u7) (yE u8) (yE u9) (an6 h2 h3 h4 h5 h6 (xK u10) nx))))
theorem yYE:let s1:=Int.tdiv (b-a_1) 4;∀ (h1:IntKind.wrap .i64 s1=Int.tdiv (b-a_1) 4) (h2:qm 124 [.slice data ag aj,iV (a_1+(s1*1)),pq Z.y 0,.func (.func az) ⟨[]⟩ ⟨ao⟩] (Z.row [iV 0] 1) (iV n1) Z2) (h3:qm 124 [.slice data ag aj,iV (a_1+(s1*2)),pq Z.y 0,.func (.func az) ⟨[]⟩ ⟨ao⟩] Z2 (iV n3) Z4) (h4:qm 124 [.slice data ag aj,iV (a_1+(s1*3)),pq Z.y 0,.func (.func az) ⟨[]⟩ ⟨ao⟩] Z4 (iV n5) Z6) (h5:qm 125 [.slice data ag aj,iV n1,iV n3,iV n5,pq Z.y 0,.func (.func az) ⟨[]⟩ ⟨ao⟩] Z6 (iV n7) Z8) (h6:lz Z8 3 (qe Z.y 0) (iV n9)) (nx:Q (.tuple ⟨[iV n7,iV 2]⟩) Z8) (u1:I6 (b-a_1):=by omega) (u2:I6 (s1*1):=by omega) (u3:I6 (a_1+(s1*1)):=by omega) (u4:I6 (s1*2):=by omega) (u5:I6 (a_1+(s1*2)):=by omega) (u6:I6 (s1*3):=by omega) (u7:I6 (a_1+(s1*3)):=by omega) (u8:8<=(b-a_1):=by omega) (u9:50<=(b-a_1):=by omega) (u10:¬ n9=0:=by omega) (u11:n9=12:=by omega),qg 109 [.slice data ag aj,iV a_1,iV b,.func (.func az) ⟨[]⟩ ⟨ao⟩] Z Q:=
 let s1:=Int.tdiv (b-a_1) 4;fun h1 h2 h3 h4 h5 h6 nx u1 u2 u3 u4 u5 u6 u7 u8 u9 u10 u11=>zG [.g,.g,.g,.g,.n (b-a_1),.g,.g,.g,.g,.n s1,.n (s1*1),.n (a_1+(s1*1)),.g,.g,.g,.n s1,.n (s1*2),.n (a_1+(s1*2)),.g,.g,.g,.n s1,.n (s1*3),.n (a_1+(s1*3)),.g,.g,.b true,.g,.b true,.g,.g,.g,.c (iV n1) Z2,.g,.g,.g,.g,.c (iV n3) Z4,.g,.g,.g,.g,.c (iV n5) Z6,.g,.g,.g,.g,.g,.g,.c (iV n7) Z8,.g,.l (iV n9),.b false,.g,.b true,.g,.g,.g,.g] (kd (ai (w64 u1) (an6 h1 (w64 u2) (w64 u3) h1 (w64 u4) (w64 u5) (an6 h1 (w64 u6) (w64 u7) (yE u8) (yE u9) h2 (an6 h3 h4 h5 h6 (xH u10) (xK u11) nx)))))
theorem yYD:let s1:=Int.tdiv (b-a_1) 4;∀ (h1:IntKind.wrap .i64 s1=Int.tdiv (b-a_1) 4) (h2:qm 124 [.slice data ag aj,iV (a_1+(s1*1)),pq Z.y 0,.func (.func az) ⟨[]⟩ ⟨ao⟩] (Z.row [iV 0] 1) (iV n1) Z2) (h3:qm 124 [.slice data ag aj,iV (a_1+(s1*2)),pq Z.y 0,.func (.func az) ⟨[]⟩ ⟨ao⟩] Z2 (iV n3) Z4) (h4:qm 124 [.slice data ag aj,iV (a_1+(s1*3)),pq Z.y 0,.func (.func az) ⟨[]⟩ ⟨ao⟩] Z4 (iV n5) Z6) (h5:qm 125 [.slice data ag aj,iV n1,iV n3,iV n5,pq Z.y 0,.func (.func az) ⟨[]⟩ ⟨ao⟩] Z6 (iV n7) Z8) (h6:lz Z8 3 (qe Z.y 0) (iV n9)) (nx:Q (.tuple ⟨[iV n7,iV 0]⟩) Z8) (u1:I6 (b-a_1):=by omega) (u2:I6 (s1*1):=by omega) (u3:I6 (a_1+(s1*1)):=by omega) (u4:I6 (s1*2):=by omega) (u5:I6 (a_1+(s1*2)):=by omega) (u6:I6 (s1*3):=by omega) (u7:I6 (a_1+(s1*3)):=by omega) (u8:8<=(b-a_1):=by omega) (u9:50<=(b-a_1):=by omega) (u10:¬ n9=0:=by omega) (u11:¬ n9=12:=by omega),qg 109 [.slice data ag aj,iV a_1,iV b,.func (.func az) ⟨[]⟩ ⟨ao⟩] Z Q:=
 let s1:=Int.tdiv (b-a_1) 4;fun h1 h2 h3 h4 h5 h6 nx u1 u2 u3 u4 u5 u6 u7 u8 u9 u10 u11=>zG [.g,.g,.g,.g,.n (b-a_1),.g,.g,.g,.g,.n s1,.n (s1*1),.n (a_1+(s1*1)),.g,.g,.g,.n s1,.n (s1*2),.n (a_1+(s1*2)),.g,.g,.g,.n s1,.n (s1*3),.n (a_1+(s1*3)),.g,.g,.b true,.g,.b true,.g,.g,.g,.c (iV n1) Z2,.g,.g,.g,.g,.c (iV n3) Z4,.g,.g,.g,.g,.c (iV n5) Z6,.g,.g,.g,.g,.g,.g,.c (iV n7) Z8,.g,.l (iV n9),.b false,.g,.b false,.g,.g,.g,.g] (kd (ai (w64 u1) (an6 h1 (w64 u2) (w64 u3) h1 (w64 u4) (w64 u5) (an6 h1 (w64 u6) (w64 u7) (yE u8) (yE u9) h2 (an6 h3 h4 h5 h6 (xH u10) (xH u11) nx)))))
theorem yYC:let s1:=Int.tdiv (b-a_1) 4;∀ (h1:IntKind.wrap .i64 s1=Int.tdiv (b-a_1) 4) (h2:qm 125 [.slice data ag aj,iV (a_1+(s1*1)),iV (a_1+(s1*2)),iV (a_1+(s1*3)),pq Z.y 0,.func (.func az) ⟨[]⟩ ⟨ao⟩] (Z.row [iV 0] 1) (iV n1) Z2) (h3:lz Z2 3 (qe Z.y 0) (iV n3)) (nx:Q (.tuple ⟨[iV n1,iV 1]⟩) Z2) (u1:I6 (b-a_1):=by omega) (u2:I6 (s1*1):=by omega) (u3:I6 (a_1+(s1*1)):=by omega) (u4:I6 (s1*2):=by omega) (u5:I6 (a_1+(s1*2)):=by omega) (u6:I6 (s1*3):=by omega) (u7:I6 (a_1+(s1*3)):=by omega) (u8:8<=(b-a_1):=by omega) (u9:¬ 50<=(b-a_1):=by omega) (u10:n3=0:=by omega),qg 109 [.slice data ag aj,iV a_1,iV b,.func (.func az) ⟨[]⟩ ⟨ao⟩] Z Q:=
 let s1:=Int.tdiv (b-a_1) 4;fun h1 h2 h3 nx u1 u2 u3 u4 u5 u6 u7 u8 u9 u10=>zG [.g,.g,.g,.g,.n (b-a_1),.g,.g,.g,.g,.n s1,.n (s1*1),.n (a_1+(s1*1)),.g,.g,.g,.n s1,.n (s1*2),.n (a_1+(s1*2)),.g,.g,.g,.n s1,.n (s1*3),.n (a_1+(s1*3)),.g,.g,.b true,.g,.b false,.g,.g,.g,.g,.g,.c (iV n1) Z2,.g,.l (iV n3),.b true,.g,.g,.g,.g] (kd (an3 (w64 u1) h1 (w64 u2) (an6 (w64 u3) h1 (w64 u4) (w64 u5) h1 (w64 u6) (an6 (w64 u7) (yE u8) (yH u9) h2 h3 (xK u10) nx))))
theorem yYB:let s1:=Int.tdiv (b-a_1) 4;∀ (h1:IntKind.wrap .i64 s1=Int.tdiv (b-a_1) 4) (h2:qm 125 [.slice data ag aj,iV (a_1+(s1*1)),iV (a_1+(s1*2)),iV (a_1+(s1*3)),pq Z.y 0,.func (.func az) ⟨[]⟩ ⟨ao⟩] (Z.row [iV 0] 1) (iV n1) Z2) (h3:lz Z2 3 (qe Z.y 0) (iV n3)) (nx:Q (.tuple ⟨[iV n1,iV 2]⟩) Z2) (u1:I6 (b-a_1):=by omega) (u2:I6 (s1*1):=by omega) (u3:I6 (a_1+(s1*1)):=by omega) (u4:I6 (s1*2):=by omega) (u5:I6 (a_1+(s1*2)):=by omega) (u6:I6 (s1*3):=by omega) (u7:I6 (a_1+(s1*3)):=by omega) (u8:8<=(b-a_1):=by omega) (u9:¬ 50<=(b-a_1):=by omega) (u10:¬ n3=0:=by omega) (u11:n3=12:=by omega),qg 109 [.slice data ag aj,iV a_1,iV b,.func (.func az) ⟨[]⟩ ⟨ao⟩] Z Q:=
 let s1:=Int.tdiv (b-a_1) 4;fun h1 h2 h3 nx u1 u2 u3 u4 u5 u6 u7 u8 u9 u10 u11=>zG [.g,.g,.g,.g,.n (b-a_1),.g,.g,.g,.g,.n s1,.n (s1*1),.n (a_1+(s1*1)),.g,.g,.g,.n s1,.n (s1*2),.n (a_1+(s1*2)),.g,.g,.g,.n s1,.n (s1*3),.n (a_1+(s1*3)),.g,.g,.b true,.g,.b false,.g,.g,.g,.g,.g,.c (iV n1) Z2,.g,.l (iV n3),.b false,.g,.b true,.g,.g,.g,.g] (kd (an4 (w64 u1) h1 (w64 u2) (w64 u3) (an6 h1 (w64 u4) (w64 u5) h1 (w64 u6) (w64 u7) (an6 (yE u8) (yH u9) h2 h3 (xH u10) (xK u11) nx))))
theorem yYA:let s1:=Int.tdiv (b-a_1) 4;∀ (h1:IntKind.wrap .i64 s1=Int.tdiv (b-a_1) 4) (h2:qm 125 [.slice data ag aj,iV (a_1+(s1*1)),iV (a_1+(s1*2)),iV (a_1+(s1*3)),pq Z.y 0,.func (.func az) ⟨[]⟩ ⟨ao⟩] (Z.row [iV 0] 1) (iV n1) Z2) (h3:lz Z2 3 (qe Z.y 0) (iV n3)) (nx:Q (.tuple ⟨[iV n1,iV 0]⟩) Z2) (u1:I6 (b-a_1):=by omega) (u2:I6 (s1*1):=by omega) (u3:I6 (a_1+(s1*1)):=by omega) (u4:I6 (s1*2):=by omega) (u5:I6 (a_1+(s1*2)):=by omega) (u6:I6 (s1*3):=by omega) (u7:I6 (a_1+(s1*3)):=by omega) (u8:8<=(b-a_1):=by omega) (u9:¬ 50<=(b-a_1):=by omega) (u10:¬ n3=0:=by omega) (u11:¬ n3=12:=by omega),qg 109 [.slice data ag aj,iV a_1,iV b,.func (.func az) ⟨[]⟩ ⟨ao⟩] Z Q:=
 let s1:=Int.tdiv (b-a_1) 4;fun h1 h2 h3 nx u1 u2 u3 u4 u5 u6 u7 u8 u9 u10 u11=>zG [.g,.g,.g,.g,.n (b-a_1),.g,.g,.g,.g,.n s1,.n (s1*1),.n (a_1+(s1*1)),.g,.g,.g,.n s1,.n (s1*2),.n (a_1+(s1*2)),.g,.g,.g,.n s1,.n (s1*3),.n (a_1+(s1*3)),.g,.g,.b true,.g,.b false,.g,.g,.g,.g,.g,.c (iV n1) Z2,.g,.l (iV n3),.b false,.g,.b false,.g,.g,.g,.g] (kd (an4 (w64 u1) h1 (w64 u2) (w64 u3) (an6 h1 (w64 u4) (w64 u5) h1 (w64 u6) (w64 u7) (an6 (yE u8) (yH u9) h2 h3 (xH u10) (xH u11) nx))))
theorem yXZ:let s1:=Int.tdiv (b-a_1) 4;∀ (h1:IntKind.wrap .i64 s1=Int.tdiv (b-a_1) 4) (nx:Q (.tuple ⟨[iV (a_1+(s1*2)),iV 1]⟩) (Z.row [iV 0] 1)) (u1:I6 (b-a_1):=by omega) (u2:I6 (s1*1):=by omega) (u3:I6 (a_1+(s1*1)):=by omega) (u4:I6 (s1*2):=by omega) (u5:I6 (a_1+(s1*2)):=by omega) (u6:I6 (s1*3):=by omega) (u7:I6 (a_1+(s1*3)):=by omega) (u8:¬ 8<=(b-a_1):=by omega),qg 109 [.slice data ag aj,iV a_1,iV b,.func (.func az) ⟨[]⟩ ⟨ao⟩] Z Q:=
 let s1:=Int.tdiv (b-a_1) 4;fun h1 nx u1 u2 u3 u4 u5 u6 u7 u8=>zG [.g,.g,.g,.g,.n (b-a_1),.g,.g,.g,.g,.n s1,.n (s1*1),.n (a_1+(s1*1)),.g,.g,.g,.n s1,.n (s1*2),.n (a_1+(s1*2)),.g,.g,.g,.n s1,.n (s1*3),.n (a_1+(s1*3)),.g,.g,.b false,.l (iV 0),.g,.g,.g,.g,.g] (kd (an6 (w64 u1) h1 (w64 u2) (w64 u3) h1 (w64 u4) (an6 (w64 u5) h1 (w64 u6) (w64 u7) (yH u8) ((zC _ _ _).rw.ld zU (k:=0) rfl:lz (Z.row [iV 0] 1) 3 (qe Z.y 0) (iV 0)) nx)))
theorem yTS (hb:∀ k aG bU Z,Inv k aG bU Z->yIQ data ag aj aG bU Z (NX2 Inv k) Q0):∀ k aG bU Z,Inv k aG bU Z->xAS data ag aj aG bU Z Q0 :=
 zEB (ai (xX 0) trivial) hb
theorem xKK {Nx:Int->Int->St->Prop} (h1:lz Z 45 (zL au (Int.toNat bU*3)) (qf (rcd nE nG nA))) (h2:lz Z 45 (zL au (Int.toNat aG*3)) (qf (rcd nB nD nF))) (h3:qn (evL [pz (zL au (Int.toNat aG*3)),qf (rcd nE nG nA)]) Z (.store 45 (.tmp 0) (.tmp 1))=some (undef,ZX)) (h4:qn (evL [pz (zL au (Int.toNat bU*3)),qf (rcd nB nD nF)]) ZX (.store 45 (.tmp 0) (.tmp 1))=some (undef,ZF)) (nx:Nx (aG+1) (bU-1) ZF) (u1:aG<bU:=by omega) (u2:Ix bU ag:=by omega) (u3:Ix aG ag:=by omega) (u4:I6 (aG+1):=by omega) (u5:I6 (bU-1):=by omega):yIQ (some au) ag aj aG bU Z Nx Q0 :=
 kO 0 (aG+1,bU-1) [.g,.g,.b true,.g,.g,.g,.g,.g,.g,.i,.l (qf (rcd nE nG nA)),.g,.g,.i,.l (qf (rcd nB nD nF)),.i,.e undef ZX,.i,.e undef ZF,.g,.n (aG+1),.g,.g,.n (bU-1),.g] (fun _ f=>an5 (zR u1) u2 h1 u3 h2 (an6 u3 h3 u2 h4 (w64 u4) (w64 u5) f)) nx
theorem xKJ {Nx:Int->Int->St->Prop} (nx:Q0 Z) (u1:¬ aG<bU:=by omega):yIQ data ag aj aG bU Z Nx Q0 :=
 kO 1 () [.g,.g,.b false] (fun _ f=>ai (zT u1) f) nx
theorem xSQ (hL:xAS data ag aj a_1 (b-1) Z P0) (k0:∀ Z',P0 Z'->yEF data ag aj Z' Q) (u1:I6 (b-1):=by omega):qg 110 [.slice data ag aj,iV a_1,iV b,.func (.func az) ⟨[]⟩ ⟨ao⟩] Z Q :=
 let s1:=zWL data ag aj a_1 (b-1);zG [.g,.g,.g,.n (b-1),.g,.lf 34 s1 [zRU data ag aj P0]] (kd (ai (w64 u1) (ai (ai tt (ai (arf s1) hL)) (ai (kz0 k0) trivial))))
theorem yTR (nx:Q (.tuple ⟨[]⟩) Z):yEF data ag aj Z Q :=
 sK [] nx
theorem yLD {Inv:Nat->Int->St->Prop} (hb:∀ k aH Z,Inv k aH Z->zMN data ag aj a_1 kB BB n2 aH Z (NX1 Inv k) Q0):∀ k aH Z,Inv k aH Z->yHN data ag aj a_1 kB BB n2 aH Z Q0 :=
 xF (ai (xX 0) trivial) hb
theorem yZD:let y0:=(Int.tdiv kB 4)*2;let y1:=zL au (Int.toNat (a_1+(nB-kB))*3);let y2:=zL au (Int.toNat aH*3);∀ (h1:IntKind.wrap .i64 (Int.tdiv kB 4)=Int.tdiv kB 4) (h2:qm 123 [pq BB 0] Z (.int .u64 nE) ZC) (h3:zAM .u64 (Int.sub n2 1)=zA) (h4:uE Pg .and 141 (.tmp 38) (.tmp 40) (.int .u64 nE) (.int .u64 zA)=some (.int .u64 nB)) (h5:lz ZC 45 y1 (qf (rcd nD nF nK))) (h6:lz ZC 45 y2 (qf (rcd nM nP nQ))) (h7:qn (evL [pz y2,qf (rcd nD nF nK)]) ZC (.store 45 (.tmp 0) (.tmp 1))=some (undef,ZBB)) (h8:qn (evL [pz y1,qf (rcd nM nP nQ)]) ZBB (.store 45 (.tmp 0) (.tmp 1))=some (undef,ZQ)) (nx:Nx (aH+1) ZQ) (u1:I6 y0:=by omega) (u2:I6 (a_1+y0):=by omega) (u3:I6 ((a_1+y0)+1):=by omega) (u4:aH<=((a_1+y0)+1):=by omega) (u5:I6 nB:=by omega) (u6:kB<=nB:=by omega) (u7:I6 (nB-kB):=by omega) (u8:I6 (a_1+(nB-kB)):=by omega) (u9:Ix (a_1+(nB-kB)) ag:=by omega) (u10:Ix aH ag:=by omega) (u11:I6 (aH+1):=by omega),zMN (some au) ag aj a_1 kB BB n2 aH Z Nx Q0 :=
 let s1:=(Int.tdiv kB 4)*2;let s2:=nB-kB;fun h1 h2 h3 h4 h5 h6 h7 h8 nx u1 u2 u3 u4 u5 u6 u7 u8 u9 u10 u11=>kO 0 (aH+1) [.g,.g,.g,.n (Int.tdiv kB 4),.n s1,.n (a_1+s1),.n ((a_1+s1)+1),.b true,.c (.int .u64 nE) ZC,.g,.n zA,.v (.int .u64 nB),.n nB,.g,.g,.g,.b true,.g,.g,.n s2,.g,.g,.g,.g,.g,.g,.n (a_1+s2),.g,.g,.g,.n (a_1+s2),.i,.l (qf (rcd nD nF nK)),.g,.g,.i,.l (qf (rcd nM nP nQ)),.i,.e undef ZBB,.i,.e undef ZQ,.g,.n (aH+1),.g] (fun _ f=>an4 h1 (w64 u1) (w64 u2) (w64 u3) (an6 (yE u4) h2 h3 h4 (w64 u5) (yE u6) (an6 (w64 u7) (w64 u8) (w64 u8) u9 h5 u10 (an6 h6 u10 h7 u9 h8 (w64 u11) f)))) nx
theorem yZC:let y0:=(Int.tdiv kB 4)*2;let y1:=zL au (Int.toNat (a_1+nB)*3);let y2:=zL au (Int.toNat aH*3);∀ (h1:IntKind.wrap .i64 (Int.tdiv kB 4)=Int.tdiv kB 4) (h2:qm 123 [pq BB 0] Z (.int .u64 nE) ZC) (h3:zAM .u64 (Int.sub n2 1)=zA) (h4:uE Pg .and 141 (.tmp 38) (.tmp 40) (.int .u64 nE) (.int .u64 zA)=some (.int .u64 nB)) (h5:lz ZC 45 y1 (qf (rcd nD nF nK))) (h6:lz ZC 45 y2 (qf (rcd nM nP nQ))) (h7:qn (evL [pz y2,qf (rcd nD nF nK)]) ZC (.store 45 (.tmp 0) (.tmp 1))=some (undef,ZBB)) (h8:qn (evL [pz y1,qf (rcd nM nP nQ)]) ZBB (.store 45 (.tmp 0) (.tmp 1))=some (undef,ZQ)) (nx:Nx (aH+1) ZQ) (u1:I6 y0:=by omega) (u2:I6 (a_1+y0):=by omega) (u3:I6 ((a_1+y0)+1):=by omega) (u4:aH<=((a_1+y0)+1):=by omega) (u5:I6 nB:=by omega) (u6:¬ kB<=nB:=by omega) (u7:I6 (a_1+nB):=by omega) (u8:Ix (a_1+nB) ag:=by omega) (u9:Ix aH ag:=by omega) (u10:I6 (aH+1):=by omega),zMN (some au) ag aj a_1 kB BB n2 aH Z Nx Q0 :=
 let s1:=(Int.tdiv kB 4)*2;fun h1 h2 h3 h4 h5 h6 h7 h8 nx u1 u2 u3 u4 u5 u6 u7 u8 u9 u10=>kO 0 (aH+1) [.g,.g,.g,.n (Int.tdiv kB 4),.n s1,.n (a_1+s1),.n ((a_1+s1)+1),.b true,.c (.int .u64 nE) ZC,.g,.n zA,.v (.int .u64 nB),.n nB,.g,.g,.g,.b false,.g,.g,.g,.g,.g,.n (a_1+nB),.g,.g,.g,.n (a_1+nB),.i,.l (qf (rcd nD nF nK)),.g,.g,.i,.l (qf (rcd nM nP nQ)),.i,.e undef ZBB,.i,.e undef ZQ,.g,.n (aH+1),.g] (fun _ f=>an3 h1 (w64 u1) (w64 u2) (an6 (w64 u3) (yE u4) h2 h3 h4 (w64 u5) (an6 (yH u6) (w64 u7) (w64 u7) u8 h5 u9 (an6 h6 u9 h7 u8 h8 (w64 u10) f)))) nx
theorem yZB:let s1:=(Int.tdiv kB 4)*2;∀ (h1:IntKind.wrap .i64 (Int.tdiv kB 4)=Int.tdiv kB 4) (nx:Q0 Z) (u1:I6 s1:=by omega) (u2:I6 (a_1+s1):=by omega) (u3:I6 ((a_1+s1)+1):=by omega) (u4:¬ aH<=((a_1+s1)+1):=by omega),zMN data ag aj a_1 kB BB n2 aH Z Nx Q0:=
 let s1:=(Int.tdiv kB 4)*2;fun h1 nx u1 u2 u3 u4=>kO 1 () [.g,.g,.g,.n (Int.tdiv kB 4),.n s1,.n (a_1+s1),.n ((a_1+s1)+1),.b false] (fun _ f=>an5 h1 (w64 u1) (w64 u2) (w64 u3) (yH u4) f) nx
theorem xIE:let s1:=Z.row [.int .u64 0] 1;let s2:=s1.own Z.y [.int .u64 z1] 1;let s3:=(Int.tdiv (b-a_1) 4)*2;∀ (h1:zAM .u64 ((b-a_1))=z1) (h2:qm 122 [iV (b-a_1)] s2 (.int .u64 n2) s2) (h3:IntKind.wrap .i64 (Int.tdiv (b-a_1) 4)=Int.tdiv (b-a_1) 4) (hL:yHN data ag aj a_1 (b-a_1) Z.y n2 ((a_1+s3)-1) s2 P0) (k0:∀ Z',P0 Z'->zVS data ag aj a_1 (b-a_1) Z.y n2 Z' Q) (u1:I6 (b-a_1):=by omega) (u2:8<=(b-a_1):=by omega) (u3:I6 s3:=by omega) (u4:I6 (a_1+s3):=by omega) (u5:I6 ((a_1+s3)-1):=by omega),qg 108 [.slice data ag aj,iV a_1,iV b,.func (.func az) ⟨[]⟩ ⟨ao⟩] Z Q:=
 let s1:=Z.row [.int .u64 0] 1;let s2:=s1.own Z.y [.int .u64 z1] 1;let s3:=(Int.tdiv (b-a_1) 4)*2;let s4:=zMM data ag aj a_1 (b-a_1) Z.y n2 ((a_1+s3)-1);fun h1 h2 h3 hL k0 u1 u2 u3 u4 u5=>zG [.g,.g,.n (b-a_1),.g,.g,.b true,.g,.n z1,.g,.e undef s2,.g,.c (.int .u64 n2) s2,.g,.g,.g,.n (Int.tdiv (b-a_1) 4),.n s3,.n (a_1+s3),.n ((a_1+s3)-1),.g,.lf 67 s4 [zKZ data ag aj a_1 (b-a_1) Z.y n2 P0]] (kd (an3 (w64 u1) (yE u2) h1 (an6 ((zC _ _ _).store (vs:=[.int .u64 z1]) rfl zWK rfl (nle rfl) rfl:qn (evL [pq Z.y 0,.int .u64 z1]) s1 (.store 166 (.tmp 0) (.tmp 1))=some (undef,s2)) h2 h3 (w64 u3) (w64 u4) (w64 u5) (ai (ai tt (ai (arf s4) hL)) (ai (kz0 k0) trivial)))))
theorem xID (nx:Q (.tuple ⟨[]⟩) Z) (u1:I6 (b-a_1):=by omega) (u2:¬ 8<=(b-a_1):=by omega):qg 108 [.slice data ag aj,iV a_1,iV b,.func (.func az) ⟨[]⟩ ⟨ao⟩] Z Q :=
 zG [.g,.g,.n (b-a_1),.g,.g,.b false] (kd (an2 (w64 u1) (yH u2) nx))
theorem yLC (nx:Q (.tuple ⟨[]⟩) Z):zVS data ag aj a_1 kB BB n2 Z Q :=
 sK [] nx
theorem xMS (h1:zAM .u64 (length)=z1) (h2:qm 98 [.int .u64 z1] Z (iV n2) Z) (h3:uE Pg .shl 141 (.const (.int .u64 1)) (.tmp 5) (.int .u64 1) (iV n2)=some (.int .u64 n3)) (nx:Q (.int .u64 n3) Z):qg 122 [iV length] Z Q :=
 zG [.g,.g,.n z1,.c (iV n2) Z,.v (.int .u64 n3),.g] (kd (an3 h1 h2 h3 nx))
theorem xRS (h1:lz Z 166 r (.int .u64 n1)) (h2:uE Pg .shl 166 (.tmp 8) (.const (.int .u64 13)) (.int .u64 n1) (.int .u64 13)=some (.int .u64 n2)) (h3:uE Pg .xor 166 (.tmp 5) (.tmp 9) (.int .u64 n1) (.int .u64 n2)=some (.int .u64 n3)) (h4:qn (evL [pz r,.int .u64 n3]) Z (.store 166 (.tmp 0) (.tmp 1))=some (undef,Z4)) (h5:lz Z4 166 r (.int .u64 n5)) (h6:uE Pg .shr 166 (.tmp 17) (.const (.int .u64 7)) (.int .u64 n5) (.int .u64 7)=some (.int .u64 n6)) (h7:uE Pg .xor 166 (.tmp 14) (.tmp 18) (.int .u64 n5) (.int .u64 n6)=some (.int .u64 n7)) (h8:qn (evL [pz r,.int .u64 n7]) Z4 (.store 166 (.tmp 0) (.tmp 1))=some (undef,Z8)) (h9:lz Z8 166 r (.int .u64 n9)) (h10:uE Pg .shl 166 (.tmp 26) (.const (.int .u64 17)) (.int .u64 n9) (.int .u64 17)=some (.int .u64 n10)) (h11:uE Pg .xor 166 (.tmp 23) (.tmp 27) (.int .u64 n9) (.int .u64 n10)=some (.int .u64 n11)) (h12:qn (evL [pz r,.int .u64 n11]) Z8 (.store 166 (.tmp 0) (.tmp 1))=some (undef,Z12)) (h13:lz Z12 166 r (.int .u64 n13)) (nx:Q (.int .u64 n13) Z12):qg 123 [pz r] Z Q :=
 zG [.g,.g,.g,.l (.int .u64 n1),.g,.g,.l (.int .u64 n1),.v (.int .u64 n2),.v (.int .u64 n3),.g,.e undef Z4,.g,.g,.l (.int .u64 n5),.g,.g,.l (.int .u64 n5),.v (.int .u64 n6),.v (.int .u64 n7),.g,.e undef Z8,.g,.g,.l (.int .u64 n9),.g,.g,.l (.int .u64 n9),.v (.int .u64 n10),.v (.int .u64 n11),.g,.e undef Z12,.g,.g,.l (.int .u64 n13),.g] (kd (an4 h1 h1 h2 h3 (an6 h4 h5 h5 h6 h7 h8 (an6 h9 h9 h10 h11 h12 h13 nx))))
theorem xCR (h1:qm 115 [.int .u64 x] Z (iV n1) Z) (nx:Q (iV n1) Z):qg 98 [.int .u64 x] Z Q :=
 zG [.g,.g,.c (iV n1) Z,.g] (kd (ai h1 nx))
theorem xIO (h1:uE Pg .shr 162 (.tmp 15) (.const (.int .u64 8)) (.int .u64 x) (.int .u64 8)=some (.int .u64 n1)) (h2:zAM .u8 (n1)=z2) (h3:zAK Pg 9 (.string ⟨#[0,1,2,2,3,3,3,3,4,4,4,4,4,4,4,4,5,5,5,5,5,5,5,5,5,5,5,5,5,5,5,5,6,6,6,6,6,6,6,6,6,6,6,6,6,6,6,6,6,6,6,6,6,6,6,6,6,6,6,6,6,6,6,6,7,7,7,7,7,7,7,7,7,7,7,7,7,7,7,7,7,7,7,7,7,7,7,7,7,7,7,7,7,7,7,7,7,7,7,7,7,7,7,7,7,7,7,7,7,7,7,7,7,7,7,7,7,7,7,7,7,7,7,7,7,7,7,7,8,8,8,8,8,8,8,8,8,8,8,8,8,8,8,8,8,8,8,8,8,8,8,8,8,8,8,8,8,8,8,8,8,8,8,8,8,8,8,8,8,8,8,8,8,8,8,8,8,8,8,8,8,8,8,8,8,8,8,8,8,8,8,8,8,8,8,8,8,8,8,8,8,8,8,8,8,8,8,8,8,8,8,8,8,8,8,8,8,8,8,8,8,8,8,8,8,8,8,8,8,8,8,8,8,8,8,8,8,8,8,8,8,8,8,8,8,8,8,8,8,8,8,8,8,8,8,8]⟩) (.int .u8 z2)=some (.int .u8 n3)) (nx:Q (iV (8+n3)) Z) (u1:¬ 4294967296<=x:=by omega) (u2:¬ 65536<=x:=by omega) (u3:256<=x:=by omega) (u4:I6 n3:=by omega) (u5:I6 (8+n3):=by omega):qg 115 [.int .u64 x] Z Q :=
 zG [.g,.g,.b false,.g,.b false,.g,.b true,.g,.v (.int .u64 n1),.g,.g,.g,.g,.g,.g,.n z2,.v (.int .u8 n3),.n n3,.n (8+n3),.g] (kd (an2 (yH u1) (yH u2) (an6 (yE u3) h1 h2 h3 (w64 u4) (w64 u5) nx)))
theorem xIN (h1:zAM .u8 (x)=z1) (h2:zAK Pg 9 (.string ⟨#[0,1,2,2,3,3,3,3,4,4,4,4,4,4,4,4,5,5,5,5,5,5,5,5,5,5,5,5,5,5,5,5,6,6,6,6,6,6,6,6,6,6,6,6,6,6,6,6,6,6,6,6,6,6,6,6,6,6,6,6,6,6,6,6,7,7,7,7,7,7,7,7,7,7,7,7,7,7,7,7,7,7,7,7,7,7,7,7,7,7,7,7,7,7,7,7,7,7,7,7,7,7,7,7,7,7,7,7,7,7,7,7,7,7,7,7,7,7,7,7,7,7,7,7,7,7,7,7,8,8,8,8,8,8,8,8,8,8,8,8,8,8,8,8,8,8,8,8,8,8,8,8,8,8,8,8,8,8,8,8,8,8,8,8,8,8,8,8,8,8,8,8,8,8,8,8,8,8,8,8,8,8,8,8,8,8,8,8,8,8,8,8,8,8,8,8,8,8,8,8,8,8,8,8,8,8,8,8,8,8,8,8,8,8,8,8,8,8,8,8,8,8,8,8,8,8,8,8,8,8,8,8,8,8,8,8,8,8,8,8,8,8,8,8,8,8,8,8,8,8,8,8,8,8,8,8]⟩) (.int .u8 z1)=some (.int .u8 n2)) (nx:Q (iV (0+n2)) Z) (u1:¬ 4294967296<=x:=by omega) (u2:¬ 65536<=x:=by omega) (u3:¬ 256<=x:=by omega) (u4:I6 n2:=by omega) (u5:I6 (0+n2):=by omega):qg 115 [.int .u64 x] Z Q :=
 zG [.g,.g,.b false,.g,.b false,.g,.b false,.g,.g,.n z1,.v (.int .u8 n2),.n n2,.n (0+n2),.g] (kd (ai (yH u1) (an6 (yH u2) (yH u3) h1 h2 (w64 u4) (w64 u5) nx)))
end
section
open Go.Sort (swp PermIn)
section
variable {Z:St} {b c:Nat} {s:Option Nat} {d:Array Rec} {g:FuncId} {gc:List Value} {lt:Rec->Rec->Bool} {V:Rec->Prop}
theorem xXO {a B:Nat} (h:Dt Z b s d) (hv:xQ V d) (ha:a<B) (hB:B<=d.size) (hn:d.size<=1000000) :
  uN 110 [.slice (some ⟨b,0,s⟩) d.size c,iV (a:Int),iV (B:Int),.func (.func g) ⟨[]⟩ ⟨gc⟩] (.tuple ⟨[]⟩) Z b s d (Go.Sort.reverseRange d a B):=by
 refine uN.of h (xSQ (P0:=fun τ=>W Z τ b s d (Go.Sort.reverseRange d a B)) (yTS (Inv:=fun k i j τ=>∃ (p q:Nat) (dk:Array Rec),i=p/\j=q/\k=q-p/\p<=B/\q<B/\W Z τ b s d dk/\dk.size=d.size/\Go.Sort.reverseLoop p q dk=Go.Sort.reverseRange d a B) ?_ (B-1-a) _ _ Z.re ⟨a,B-1,d,rfl,by omega,rfl,by omega,by omega,W.start h,rfl,rfl⟩) (fun τ hw=>yTR ⟨rfl,hw⟩) (by omega));rintro k i j τ ⟨p,q,dk,rfl,rfl,hk,hp,hq,w,hsz,ht⟩;by_cases hpq:p<q;rotate_left
 ·rw [Go.Sort.reverseLoop,if_neg hpq] at ht;exact xKJ (by rw [<- ht];exact w) (by omega)
 rw [Go.Sort.reverseLoop,if_pos hpq] at ht;have l1:=w.dt.ldN (i:=(q:Int)) (k:=q) rfl (by omega);have l2:=w.dt.ldN (i:=(p:Int)) (k:=p) rfl (by omega);obtain ⟨τ5,τ6,t1,t2,w6⟩:=w.swapN (i:=(p:Int)) (j:=(q:Int)) (p:=p) (q:=q) rfl rfl (by omega) (by omega);exact xKK l1 l2 t1 t2 ⟨q-1-(p+1),by omega,p+1,q-1,_,by omega,by omega,rfl,by omega,by omega,w6,by rw [yX,hsz],ht⟩
def zFL:List UInt8:=[0,1,2,2,3,3,3,3,4,4,4,4,4,4,4,4,5,5,5,5,5,5,5,5,5,5,5,5,5,5,5,5]++List.replicate 32 6++List.replicate 64 7++List.replicate 128 8
theorem xNG:zFL.length=256:=by decide
theorem yPG:∀ n:Fin 256,(zFL.getD n.val 0).toNat<=8/\(0<n.val->2 ^ (zFL.getD n.val 0).toNat<=2*n.val):=by decide +kernel
theorem xYP {n:Nat} (hn:n<256):zAK Tryz.prog 9 (.string ⟨⟨zFL⟩⟩) (iV (n:Int))=some (.int .u8 ((zFL.getD n 0).toNat:Int)):=by
 have hl:n<zFL.length:=by rw [xNG];exact hn
 have e:zAK Tryz.prog 9 (.string ⟨⟨zFL⟩⟩) (iV (n:Int))=if 0<=(n:Int) then (((⟨⟨zFL⟩⟩:ByteArray)[(n:Int).toNat]?).map fun b=>Value.int .u8 b.toNat) else none:=by
  unfold zAK;have hu:Tryz.prog.underlying 9=some .string:=by kernel_rfl
  simp only [hu]
 rw [e,if_pos (by omega),Int.toNat_natCast];have hb:(⟨⟨zFL⟩⟩:ByteArray)[n]?=some (zFL.getD n 0):=by
  rw [getElem?_pos _ n (by show n<zFL.length;exact hl)];congr 1;rw [List.getD_eq_getElem?_getD,List.getElem?_eq_getElem hl];rfl
 rw [hb];rfl
end
end
section
open Go.Sort (swp PermIn)
theorem xYF {Z:St} {f:FuncId} {args:List Value} {S:Nat->Prop} {Q:Value->St->Prop} (h:zN Pg f args Z.re fun v s=>Only S Z.re s/\(s.low<Z.y\/zW RD v=false\/Q v Z)/\Q v s) (hQ:∀ v s m,Q v s->Q v ⟨s.heap,s.y,m⟩):∃ v Z',zD Pg f args Z v Z'/\Only S Z Z'/\Q v Z':=by
 obtain ⟨v,s,hN,h1,h2,h3⟩:=h;by_cases hlow:s.low<Z.y
 ·exact zN.mut ⟨v,s,hN,h1,.inl hlow,h3⟩ hQ
 ·cases hr:zW RD v with
  | false=>exact zN.mut ⟨v,s,hN,h1,.inr hr,h3⟩ hQ
  | true =>
   refine ⟨v,Z,zN.pure ⟨v,s,hN,rfl,by omega⟩ hr,Only.refl _ _, ?_⟩
   rcases h2 with h2 | h2 | h2
   ·exact absurd h2 hlow
   ·rw [hr] at h2;cases h2
   ·exact h2
theorem xJD (n:Int):zAM .u8 n=n % 256:=by
 have e1:(2:Int) ^ 8=256:=by decide
 rw [vV];simp only [IntKind.wrap,IntKind.bits,IntKind.signed,e1,Bool.false_and,Bool.false_eq_true,if_false]
theorem zXK (n:Int):zAM .u64 n=n % 18446744073709551616:=by
 have e1:(2:Int) ^ 64=18446744073709551616:=by decide
 rw [vV];simp only [IntKind.wrap,IntKind.bits,IntKind.signed,e1,Bool.false_and,Bool.false_eq_true,if_false]
theorem xZX {x z:Int} {o1 o2:Operand} (hz:0<=z):∃ y,uE Pg .shl 166 o1 o2 (.int .u64 x) (.int .u64 z)=some (.int .u64 y):=by
 refine ⟨IntKind.u64.wrap (x*2 ^ (min z.toNat IntKind.u64.bits)), ?_⟩
 have e:Op.shift .shl .u64 x .u64 z=pure (.int .u64 (IntKind.u64.wrap (x*2 ^ (min z.toNat IntKind.u64.bits)))):=by unfold Op.shift;rw [if_neg (by omega)]
 show ((yA Pg (do eqGuard .shl 166 o1 o2 (.int .u64 x) (.int .u64 z);Op.shift .shl .u64 x .u64 z)).filter (zW RD))=_;rw [e];rfl
theorem wBF {x z:Int} {o1 o2:Operand} (hz:0<=z):∃ y,uE Pg .shr 166 o1 o2 (.int .u64 x) (.int .u64 z)=some (.int .u64 y):=by
 refine ⟨x.fdiv (2 ^ (min z.toNat IntKind.u64.bits)), ?_⟩
 have e:Op.shift .shr .u64 x .u64 z=pure (.int .u64 (x.fdiv (2 ^ (min z.toNat IntKind.u64.bits)))):=by unfold Op.shift;rw [if_neg (by omega)]
 show ((yA Pg (do eqGuard .shr 166 o1 o2 (.int .u64 x) (.int .u64 z);Op.shift .shr .u64 x .u64 z)).filter (zW RD))=_;rw [e];rfl
theorem xXB {x z:Int} {o1 o2:Operand}:∃ y,uE Pg .xor 166 o1 o2 (.int .u64 x) (.int .u64 z)=some (.int .u64 y):=by
 refine ⟨IntKind.u64.wrap ((BitVec.ofInt IntKind.u64.bits x ^^^ BitVec.ofInt IntKind.u64.bits z).toNat:Int), ?_⟩
 have e:Op.intBits .xor .u64 x z=pure (.int .u64 (IntKind.u64.wrap ((BitVec.ofInt IntKind.u64.bits x ^^^ BitVec.ofInt IntKind.u64.bits z).toNat:Int))):=rfl;show ((yA Pg (do eqGuard .xor 166 o1 o2 (.int .u64 x) (.int .u64 z);Op.intBits .xor .u64 x z)).filter (zW RD))=_;rw [e];rfl
theorem wBT {x:Int} {m:Nat} {o1 o2:Operand} (hm:m<18446744073709551616):∃ y:Nat,uE Pg .and 141 o1 o2 (.int .u64 x) (.int .u64 (m:Int))=some (.int .u64 (y:Int))/\y<=m:=by
 have e64:(2:Nat) ^ IntKind.u64.bits=18446744073709551616:=by decide
 have hb:(BitVec.ofInt IntKind.u64.bits (m:Int)).toNat=m:=by
  rw [BitVec.toNat_ofInt,e64];omega
 have hle:(BitVec.ofInt IntKind.u64.bits x &&& BitVec.ofInt IntKind.u64.bits (m:Int)).toNat<=m:=by
  rw [BitVec.toNat_and,hb];exact Nat.and_le_right
 refine ⟨(BitVec.ofInt IntKind.u64.bits x &&& BitVec.ofInt IntKind.u64.bits (m:Int)).toNat, ?_,hle⟩
 have e:Op.intBits .and .u64 x (m:Int)=pure (.int .u64 (IntKind.u64.wrap ((BitVec.ofInt IntKind.u64.bits x &&& BitVec.ofInt IntKind.u64.bits (m:Int)).toNat:Int))):=rfl;show ((yA Pg (do eqGuard .and 141 o1 o2 (.int .u64 x) (.int .u64 (m:Int));Op.intBits .and .u64 x (m:Int))).filter (zW RD))=_;rw [e,<- vV,zXK,Int.emod_eq_of_lt (by omega) (by omega)];rfl
theorem wBG {n:Nat} {o1 o2:Operand}:uE Pg .shr 162 o1 o2 (.int .u64 (n:Int)) (.int .u64 8)=some (.int .u64 ((n / 256:Nat):Int)):=by
 have e:Op.shift .shr .u64 (n:Int) .u64 8=pure (.int .u64 ((n / 256:Nat):Int)):=by
  unfold Op.shift;rw [if_neg (by omega)];show pure (Value.int .u64 (Int.fdiv (n:Int) (2 ^ (min (8:Int).toNat IntKind.u64.bits))))=_;rw [show (2:Int) ^ (min (8:Int).toNat IntKind.u64.bits)=((256:Nat):Int) by decide,<- Int.ofNat_fdiv]
 show ((yA Pg (do eqGuard .shr 162 o1 o2 (.int .u64 (n:Int)) (.int .u64 8);Op.shift .shr .u64 (n:Int) .u64 8)).filter (zW RD))=_;rw [e];rfl
theorem wBH {n:Nat} {o1 o2:Operand} (h:n<=16):uE Pg .shl 141 o1 o2 (.int .u64 1) (iV (n:Int))=some (.int .u64 ((2 ^ n:Nat):Int)):=by
 have e:Op.shift .shl .u64 1 .i64 (n:Int)=pure (.int .u64 (IntKind.u64.wrap (1*2 ^ (min (n:Int).toNat IntKind.u64.bits)))):=by unfold Op.shift;rw [if_neg (by omega)]
 have e2:IntKind.u64.wrap (1*2 ^ (min (n:Int).toNat IntKind.u64.bits))=((2 ^ n:Nat):Int):=by
  have hp:2 ^ n<=2 ^ 16:=Nat.pow_le_pow_right (by omega) h;have h16:(2:Nat) ^ 16=65536:=by decide
  rw [Int.toNat_natCast,show min n IntKind.u64.bits=n from Nat.min_eq_left (by show n<=64;omega),<- vV,zXK,Int.one_mul];have e3:(2:Int) ^ n=((2 ^ n:Nat):Int):=by simp
  rw [e3];obtain ⟨k,hk⟩:∃ k:Nat,k=2 ^ n:=⟨_,rfl⟩;rw [<- hk] at hp ⊢;omega
 show ((yA Pg (do eqGuard .shl 141 o1 o2 (.int .u64 1) (iV (n:Int));Op.shift .shl .u64 1 .i64 (n:Int))).filter (zW RD))=_;rw [e,e2];rfl
theorem xBY {n:Nat} (hn:n<256):zAK Pg 9 (.string ⟨⟨zFL⟩⟩) (.int .u8 (n:Int))=some (.int .u8 ((zFL.getD n 0).toNat:Int)):=by
 have h:=xYP hn;have e:zAK Pg 9 (.string ⟨⟨zFL⟩⟩) (.int .u8 (n:Int))=zAK Pg 9 (.string ⟨⟨zFL⟩⟩) (iV (n:Int)):=by
  unfold zAK;have hu:Pg.underlying 9=some .string:=by kernel_rfl
  simp only [hu]
 rw [e,h]
section
variable {Z:St} {b c:Nat} {s:Option Nat} {d:Array Rec} {g:FuncId} {gc:List Value} {lt:Rec->Rec->Bool} {V:Rec->Prop}
theorem yZK {x:Nat} (hx:x<65536):∃ n:Nat,n<=16/\(0<x->2 ^ n<=2*x)/\zD Pg 98 [.int .u64 (x:Int)] Z (iV (n:Int)) Z:=by
 by_cases h:x<256
 ·obtain ⟨p1,p2⟩:=yPG ⟨x,h⟩;refine ⟨(zFL.getD x 0).toNat,by simp only at p1;omega,fun h0=>p2 h0, ?_⟩
  refine (xCR (n1:=((zFL.getD x 0).toNat:Int)) (xIN (z1:=(x:Int)) (n2:=((zFL.getD x 0).toNat:Int)) (by rw [xJD];omega) (xBY h) ⟨by rw [Int.zero_add],Nat.le_refl _⟩ (by omega) (by omega) (by omega) (by simp only at p1;omega) (by simp only at p1;omega)).pure ⟨rfl,Nat.le_refl _⟩).pure
 ·have h2:x / 256<256:=by omega
  obtain ⟨p1,p2⟩:=yPG ⟨x / 256,h2⟩;simp only at p1 p2;refine ⟨8+(zFL.getD (x / 256) 0).toNat,by omega,fun _=>?_, ?_⟩
  ·have:=p2 (by omega);rw [Nat.pow_add,show (2:Nat) ^ 8=256 from rfl];omega
  ·refine (xCR (n1:=((8+(zFL.getD (x / 256) 0).toNat:Nat):Int)) (xIO (n1:=((x / 256:Nat):Int)) (z2:=((x / 256:Nat):Int)) (n3:=((zFL.getD (x / 256) 0).toNat:Int)) wBG (by rw [xJD];omega) (xBY h2) ⟨by congr 1,Nat.le_refl _⟩ (by omega) (by omega) (by omega) (by omega) (by omega)).pure ⟨rfl,Nat.le_refl _⟩).pure
theorem xTX {l:Nat} (h0:0<l) (hl:l<65536):∃ m:Nat,1<=m/\m<=2*l/\zD Pg 122 [iV (l:Int)] Z (.int .u64 (m:Int)) Z:=by
 obtain ⟨n,h1,h2,h3⟩:=yZK (Z:=Z.re) (x:=l) hl;exact ⟨2 ^ n,Nat.pow_pos (by omega),h2 h0,(xMS (z1:=(l:Int)) (by rw [zXK];omega) h3 (wBH h1) ⟨rfl,Nat.le_refl _⟩).pure⟩
theorem xXC {r:Nat} {n:Int} (o:Own Z r [.int .u64 n] 1):∃ n' Z',zD Pg 123 [.pointer (some ⟨r,0,none⟩)] Z (.int .u64 n') Z'/\Only (·=r) Z Z'/\Own Z' r [.int .u64 n'] 1:=by
 obtain ⟨n2,b2⟩:=xZX (x:=n) (z:=13) (o1:=.tmp 8) (o2:=.const (.int .u64 13)) (by omega);obtain ⟨n3,b3⟩:=xXB (x:=n) (z:=n2) (o1:=.tmp 5) (o2:=.tmp 9);obtain ⟨n6,b6⟩:=wBF (x:=n3) (z:=7) (o1:=.tmp 17) (o2:=.const (.int .u64 7)) (by omega);obtain ⟨n7,b7⟩:=xXB (x:=n3) (z:=n6) (o1:=.tmp 14) (o2:=.tmp 18);obtain ⟨n10,b10⟩:=xZX (x:=n7) (z:=17) (o1:=.tmp 26) (o2:=.const (.int .u64 17)) (by omega);obtain ⟨n11,b11⟩:=xXB (x:=n7) (z:=n10) (o1:=.tmp 23) (o2:=.tmp 27);have o0:Own Z.re r [.int .u64 n] 1:=o.re;have s1:=o0.store (P:=Pg) (k:=0) (t:=166) (v:=.int .u64 n3) (vs:=[.int .u64 n3]) (ds:=[.int .u64 n3]) rfl zWK rfl (by simp) rfl;have o1:Own (Z.re.own r [.int .u64 n3] 1) r [.int .u64 n3] 1:=o0.put;have s2:=o1.store (P:=Pg) (k:=0) (t:=166) (v:=.int .u64 n7) (vs:=[.int .u64 n7]) (ds:=[.int .u64 n7]) rfl zWK rfl (by simp) rfl;have o2:Own ((Z.re.own r [.int .u64 n3] 1).own r [.int .u64 n7] 1) r [.int .u64 n7] 1:=o1.put;have s3:=o2.store (P:=Pg) (k:=0) (t:=166) (v:=.int .u64 n11) (vs:=[.int .u64 n11]) (ds:=[.int .u64 n11]) rfl zWK rfl (by simp) rfl;have o3:Own (((Z.re.own r [.int .u64 n3] 1).own r [.int .u64 n7] 1).own r [.int .u64 n11] 1) r [.int .u64 n11] 1:=o2.put;have hr:=o.lt;obtain ⟨v,Z',k1,k2,n',rfl,k3⟩:=zN.mut (P:=Pg) (f:=123) (args:=[.pointer (some ⟨r,0,none⟩)]) (Z:=Z) (S:=(·=r)) (Q:=fun v s=>∃ n',v=.int .u64 n'/\Own s r [.int .u64 n'] 1)
  (xRS (o0.ld rfl yLI rfl) b2 b3 s1 (o1.ld rfl yLI rfl) b6 b7 s2 (o2.ld rfl yLI rfl) b10 b11 s3 (o3.ld rfl yLI rfl)
   ⟨(((Only.own (S:=(·=r)) (.inr rfl)).trans' (Only.own (S:=(·=r)) (.inr rfl)) (fun b _ h=>.inl h)).trans' (Only.own (S:=(·=r)) (.inr rfl)) (fun b _ h=>.inl h)),.inl (by simp [St.own];omega),n11,rfl,o3⟩)
  (by rintro v s m ⟨n',rfl,h⟩;exact ⟨n',rfl,h.low⟩)
 exact ⟨n',Z',k1,k2,k3⟩
theorem W.other {τ τ':St} {dk:Array Rec} {S:Nat->Prop} (w:W Z τ b s d dk) (hb:b<Z.y) (o:Only S τ τ') (hS:∀ x,S x->Z.y<=x) (hl:τ'.low<=τ.low):W Z τ' b s d dk:=by
 refine ⟨w.only.trans' o (fun x _ h=>.inr (hS x h)),w.dt.only o (fun h=>by have:=hS b h;omega), ?_⟩
 rcases w.low with h | h
 ·exact .inl (by omega)
 ·exact .inr h
theorem xPW {a B:Nat} (h:Dt Z b s d) (ha:a<=B) (hB:B<=d.size) (hn:d.size<=60000) (hv:xQ V d) :
  ∃ d',PermIn a B d d'/\xQ V d'/\uN 108 [.slice (some ⟨b,0,s⟩) d.size c,iV (a:Int),iV (B:Int),.func (.func g) ⟨[]⟩ ⟨gc⟩] (.tuple ⟨[]⟩) Z b s d d':=by
 suffices hmain:zN Pg 108 [.slice (some ⟨b,0,s⟩) d.size c,iV (a:Int),iV (B:Int),.func (.func g) ⟨[]⟩ ⟨gc⟩] Z.re fun v τ=>v=.tuple ⟨[]⟩/\∃ d',W Z τ b s d d'/\PermIn a B d d'/\xQ V d' by
  obtain ⟨v,τ,hN,e,d',w,r1,r2⟩:=hmain
  exact ⟨d',r1,r2,uN.of h ⟨v,τ,hN,e,w⟩⟩
 by_cases h8:B-a<8
 ·exact xID ⟨rfl,d,W.start h,Go.Sort.permIn_refl _ _ _,hv⟩ (by omega) (by omega)
 obtain ⟨l,hl⟩:∃ l,l=B-a:=⟨_,rfl⟩;have el:(B:Int)-(a:Int)=(l:Int):=by omega
 have e4:Int.tdiv (l:Int) 4=((l / 4:Nat):Int):=by rw [Int.tdiv_eq_ediv_of_nonneg (by omega)];omega
 have w4:IntKind.wrap .i64 (Int.tdiv (l:Int) 4)=Int.tdiv (l:Int) 4:=by rw [<- vV,e4,zXL (by omega) (by omega)]
 have ez:zAM .u64 ((B:Int)-(a:Int))=(l:Int):=by rw [el,zXK];omega
 have hbn:=h.1;obtain ⟨m,hm1,hm2,km⟩:=xTX (Z:=(Z.re.row [.int .u64 0] 1).own Z.re.y [.int .u64 (l:Int)] 1) (l:=l) (by omega) (by omega);have o1:Own ((Z.re.row [.int .u64 0] 1).own Z.re.y [.int .u64 (l:Int)] 1) Z.y [.int .u64 (l:Int)] 1:=(zC _ _ _).put;have O1:Only (·=Z.y) Z.re ((Z.re.row [.int .u64 0] 1).own Z.re.y [.int .u64 (l:Int)] 1):=(Only.row (S:=(·=Z.y)) _ _ _).trans' (Only.own (S:=(·=Z.y)) (.inr rfl)) (fun b _ h=>.inl h);have w1:W Z ((Z.re.row [.int .u64 0] 1).own Z.re.y [.int .u64 (l:Int)] 1) b s d d:=(W.start h).other hbn O1 (fun x hx=>by omega) (by simp [St.own]);refine xIE ez (by rw [el];exact km) (by rw [el];exact w4) (P0:=fun τ=>∃ d',W Z τ b s d d'/\PermIn a B d d'/\xQ V d')
  (by
   rw [el];refine yLD (Inv:=fun k i τ=>∃ (p:Nat) (dk:Array Rec) (n:Int),i=p/\p+k=a+l / 4*2+2/\a<=p/\W Z τ b s d dk/\PermIn a B d dk/\xQ V dk/\Own τ Z.y [.int .u64 n] 1) ?_ 3 _ _ ⟨a+l / 4*2-1,d,_,by rw [e4];omega,by omega,by omega,w1,Go.Sort.permIn_refl _ _ _,hv,o1⟩;rintro k i τ ⟨p,dk,n,rfl,hk,hap,w,hperm,hall,o⟩;have hsz:dk.size=d.size:=hperm.1;by_cases hp:p<=a+l / 4*2+1;rotate_left
   ·exact yZB w4 ⟨dk,w,hperm,hall⟩ (by rw [e4];omega) (by rw [e4];omega) (by rw [e4];omega) (by rw [e4];omega)
   obtain ⟨n',τ',kx,ox,oo⟩:=xXC o;have w2:=w.other hbn ox (fun x hx=>by omega) (zEL kx);obtain ⟨y,by1,by2⟩:=wBT (x:=n') (m:=m-1) (o1:=.tmp 38) (o2:=.tmp 40) (by omega);have em:zAM .u64 (Int.sub (m:Int) 1)=((m-1:Nat):Int):=by
    rw [show Int.sub (m:Int) 1=(m:Int)-1 from rfl,zXK];omega
   have key:∀ (q:Nat) (j:Int),j=(q:Int)->a<=q->q<B->∃ τ1 τ2,zQ Pg (evL [.pointer (some (zL ⟨b,0,s⟩ (Int.toNat (p:Int)*3))),zER dk[q]!]) τ' (.store 45 (.tmp 0) (.tmp 1))=some (undef,τ1) /\
     zQ Pg (evL [.pointer (some (zL ⟨b,0,s⟩ (Int.toNat j*3))),zER dk[p]!]) τ1 (.store 45 (.tmp 0) (.tmp 1))=some (undef,τ2) /\
     ∃ k',k' < k/\∃ (p':Nat) (dk':Array Rec) (n:Int),(p:Int)+1=p'/\p'+k'=a+l / 4*2+2/\a<=p'/\W Z τ2 b s d dk'/\PermIn a B d dk'/\xQ V dk'/\Own τ2 Z.y [.int .u64 n] 1:=by
    intro q j hj h1 h2
    obtain ⟨τ1,e1,d1,q1,l1⟩:=w2.dt.st (i:=(p:Int)) dk[q]! (by omega) (by omega)
    obtain ⟨τ2,e2,d2,q2,l2⟩:=d1.st (i:=j) dk[p]! (by omega) (by rw [Array.size_setIfInBounds];omega)
    have es:(dk.setIfInBounds (p:Int).toNat dk[q]!).setIfInBounds j.toNat dk[p]! = swp dk p q:=by rw [hj,Int.toNat_natCast,Int.toNat_natCast];rfl
    rw [es] at d2
    exact ⟨τ1,τ2,e1,e2,k-1,by omega,p+1,swp dk p q,n',by omega,by omega,by omega,⟨(w2.only.trans' q1 (fun b _ h=>.inl h)).trans' q2 (fun b _ h=>.inl h),d2,.inl l2⟩,
     Go.Sort.permIn_trans _ _ _ a B hperm (Go.Sort.swp_permIn dk a B p q (by omega) (by omega) h1 h2 (by omega)),hall.swp (by omega) (by omega),q2.own' (q1.own' oo (fun e=>by omega)) (fun e=>by omega)⟩
   have lp:=w2.dt.ldN (i:=(p:Int)) (k:=p) rfl (by omega);by_cases hy:l<=y
   ·obtain ⟨τ1,τ2,e1,e2,hk'⟩:=key (a+(y-l)) ((a:Int)+((y:Int)-(l:Int))) (by omega) (by omega) (by omega);have lq:=w2.dt.ldN (i:=(a:Int)+((y:Int)-(l:Int))) (k:=a+(y-l)) (by omega) (by omega);exact yZD w4 kx em by1 lq lp e1 e2 hk' (by rw [e4];omega) (by rw [e4];omega) (by rw [e4];omega) (by rw [e4];omega) (by omega) (by omega) (by omega) (by omega) (by omega) (by omega)
   ·obtain ⟨τ1,τ2,e1,e2,hk'⟩:=key (a+y) ((a:Int)+(y:Int)) (by omega) (by omega) (by omega);have lq:=w2.dt.ldN (i:=(a:Int)+(y:Int)) (k:=a+y) (by omega) (by omega);exact yZC w4 kx em by1 lq lp e1 e2 hk' (by rw [e4];omega) (by rw [e4];omega) (by rw [e4];omega) (by rw [e4];omega) (by omega) (by omega) (by omega) (by omega) (by omega))
  (fun τ hw=>yLC ⟨rfl,hw⟩) (by omega) (by omega) (by rw [el,e4];omega) (by rw [el,e4];omega) (by rw [el,e4];omega)
end
end
section
variable {Z:St} {b c:Nat} {s:Option Nat} {d:Array Rec} {g:FuncId} {gc:List Value} {lt:Rec->Rec->Bool} {V:Rec->Prop}
theorem yWG {bs i j:Nat} {n:Int} (h:Dt Z b s d) (hc:Cmp g gc lt V) (hv:xQ V d) (o:Own Z bs [iV n] 1) (hi:i<d.size) (hj:j<d.size) (hn:0<=n/\n<=1000) :
  ∃ (x y:Nat) (n':Int) (Z':St),zD Tryz.prog 130 [.slice (some ⟨b,0,s⟩) d.size c,iV (i:Int),iV (j:Int),.pointer (some ⟨bs,0,none⟩),.func (.func g) ⟨[]⟩ ⟨gc⟩] Z (.tuple ⟨[iV (x:Int),iV (y:Int)]⟩) Z'/\Only (·=bs) Z Z' /\
   ((x=i/\y=j)\/(x=j/\y=i))/\n<=n'/\n'<=n+1/\Own Z' bs [iV n'] 1:=by
 have h0:Dt Z.re b s d:=h;have l1:=h0.ldN (i:=(j:Int)) (k:=j) rfl hj;have l2:=h0.ldN (i:=(i:Int)) (k:=i) rfl hi;have hbs:=o.lt;obtain ⟨m,cm,hm⟩:=hc.at_ (τ:=Z.re) hv hj hi;suffices hmain:zN Tryz.prog 130 [.slice (some ⟨b,0,s⟩) d.size c,iV (i:Int),iV (j:Int),.pointer (some ⟨bs,0,none⟩),.func (.func g) ⟨[]⟩ ⟨gc⟩] Z.re fun v τ=>Only (·=bs) Z.re τ/\(τ.low<Z.y\/zW RD v=false\/∃ (x y:Nat) (n':Int),v=.tuple ⟨[iV (x:Int),iV (y:Int)]⟩/\((x=i/\y=j)\/(x=j/\y=i))/\n<=n'/\n'<=n+1/\Own Z bs [iV n'] 1) /\
   ∃ (x y:Nat) (n':Int),v=.tuple ⟨[iV (x:Int),iV (y:Int)]⟩/\((x=i/\y=j)\/(x=j/\y=i))/\n<=n'/\n'<=n+1/\Own τ bs [iV n'] 1 by
  obtain ⟨v,Z',k1,k2,x,y,n',rfl,k3,k4,k5,k6⟩:=xYF (Q:=fun v τ=>∃ (x y:Nat) (n':Int),v=.tuple ⟨[iV (x:Int),iV (y:Int)]⟩/\((x=i/\y=j)\/(x=j/\y=i))/\n<=n'/\n'<=n+1/\Own τ bs [iV n'] 1) hmain
   (by rintro v s m ⟨x,y,n',rfl,a1,a2,a3,a4⟩;exact ⟨x,y,n',rfl,a1,a2,a3,a4.low⟩)
  exact ⟨x,y,n',Z',k1,k2,k3,k4,k5,k6⟩
 rcases hm with ⟨m1,_⟩ | ⟨m1,_⟩
 ·have o0:Own Z.re bs [iV n] 1:=o.re;have st:=o0.store (P:=Tryz.prog) (k:=0) (t:=3) (v:=iV (n+1)) (vs:=[iV (n+1)]) (ds:=[iV (n+1)]) rfl vD rfl (by simp) rfl;exact xTQ l1 l2 cm (o0.ld rfl zU rfl) st ⟨Only.own (.inr rfl),.inl (by simp [St.own];omega),j,i,n+1,rfl,.inr ⟨rfl,rfl⟩,by omega,by omega,o0.put⟩
 ·exact xTP l1 l2 cm ⟨Only.refl _ _,.inr (.inr ⟨i,j,n,rfl,.inl ⟨rfl,rfl⟩,by omega,by omega,o⟩),i,j,n,rfl,.inl ⟨rfl,rfl⟩,by omega,by omega,o.re⟩
theorem xMV {bs i j k:Nat} {n:Int} (h:Dt Z b s d) (hc:Cmp g gc lt V) (hv:xQ V d) (o:Own Z bs [iV n] 1) (hb:b≠bs) (hi:i<d.size) (hj:j<d.size) (hk:k<d.size) (hn:0<=n/\n<=900) :
    ∃ (x:Nat) (n':Int) (Z':St),zD Tryz.prog 125 [.slice (some ⟨b,0,s⟩) d.size c,iV (i:Int),iV (j:Int),iV (k:Int),.pointer (some ⟨bs,0,none⟩),.func (.func g) ⟨[]⟩ ⟨gc⟩] Z (iV (x:Int)) Z'/\Only (·=bs) Z Z' /\
      (x=i\/x=j\/x=k)/\n<=n'/\n'<=n+3/\Own Z' bs [iV n'] 1:=by
  have hbs:=o.lt;obtain ⟨x1,y1,n1,Z1,k1,q1,z1,e1,f1,o1⟩:=yWG (c:=c) (Z:=Z.re) h hc hv o.re hi hj (by omega);have h1:Dt Z1 b s d:=(show Dt Z.re b s d from h).only q1 (by omega);obtain ⟨x2,y2,n2,Z2,k2,q2,z2,e2,f2,o2⟩:=yWG (c:=c) h1 hc hv o1 (i:=y1) (j:=k) (by omega) hk (by omega);have h2:=h1.only q2 (by omega);obtain ⟨x3,y3,n3,Z3,k3,q3,z3,e3,f3,o3⟩:=yWG (c:=c) h2 hc hv o2 (i:=x1) (j:=x2) (by omega) (by omega) (by omega);have Q3:=(q1.trans' q2 (fun b _ h=>.inl h)).trans' q3 (fun b _ h=>.inl h);have hz:y3=i\/y3=j\/y3=k:=by omega
  by_cases hlow:Z3.low<Z.y
  · obtain ⟨v,Z',r1,r2,x,n',rfl,r3,r4,r5,r6⟩:=xYF (Z:=Z) (f:=125) (args:=[.slice (some ⟨b,0,s⟩) d.size c,iV (i:Int),iV (j:Int),iV (k:Int),.pointer (some ⟨bs,0,none⟩),.func (.func g) ⟨[]⟩ ⟨gc⟩]) (S:=(·=bs)) (Q:=fun v τ=>∃ (x:Nat) (n':Int),v=iV (x:Int)/\(x=i\/x=j\/x=k)/\n<=n'/\n'<=n+3/\Own τ bs [iV n'] 1)
      (xMU k1 k2 k3 ⟨Q3,.inl hlow,y3,n3,rfl,hz,by omega,by omega,o3⟩) (by rintro v s m ⟨x,n',rfl,a1,a2,a3,a4⟩;exact ⟨x,n',rfl,a1,a2,a3,a4.low⟩)
    exact ⟨x,n',Z',r1,r2,r3,r4,r5,r6⟩
  · exact ⟨y3,n,Z,zN.pure (xMU k1 k2 k3 ⟨rfl,by omega⟩),Only.refl _ _,hz,by omega,by omega,o⟩
theorem yWK {bs i:Nat} {n:Int} (h:Dt Z b s d) (hc:Cmp g gc lt V) (hv:xQ V d) (o:Own Z bs [iV n] 1) (hb:b≠bs) (hi:1<=i) (hj:i+1<d.size) (hsz:d.size<=1000000) (hn:0<=n/\n<=800) :
    ∃ (x:Nat) (n':Int) (Z':St),zD Tryz.prog 124 [.slice (some ⟨b,0,s⟩) d.size c,iV (i:Int),.pointer (some ⟨bs,0,none⟩),.func (.func g) ⟨[]⟩ ⟨gc⟩] Z (iV (x:Int)) Z'/\Only (·=bs) Z Z' /\
      (i<=x+1/\x<=i+1)/\n<=n'/\n'<=n+3/\Own Z' bs [iV n'] 1:=by
  have hbs:=o.lt;obtain ⟨x1,n1,Z1,k1,q1,z1,e1,f1,o1⟩:=xMV (c:=c) (Z:=Z.re) h hc hv o.re hb (i:=i-1) (j:=i) (k:=i+1) (by omega) (by omega) hj (by omega);rw [show ((i-1:Nat):Int)=(i:Int)-1 by omega,show ((i+1:Nat):Int)=(i:Int)+1 by omega] at k1;have hz:i<=x1+1/\x1<=i+1:=by omega
  by_cases hlow:Z1.low<Z.y
  · obtain ⟨v,Z',r1,r2,x,n',rfl,r3,r4,r5,r6⟩:=xYF (Z:=Z) (f:=124) (args:=[.slice (some ⟨b,0,s⟩) d.size c,iV (i:Int),.pointer (some ⟨bs,0,none⟩),.func (.func g) ⟨[]⟩ ⟨gc⟩]) (S:=(·=bs)) (Q:=fun v τ=>∃ (x:Nat) (n':Int),v=iV (x:Int)/\(i<=x+1/\x<=i+1)/\n<=n'/\n'<=n+3/\Own τ bs [iV n'] 1)
      (xBP k1 ⟨q1,.inl hlow,x1,n1,rfl,hz,by omega,by omega,o1⟩) (by rintro v s m ⟨x,n',rfl,a1,a2,a3,a4⟩;exact ⟨x,n',rfl,a1,a2,a3,a4.low⟩)
    exact ⟨x,n',Z',r1,r2,r3,r4,r5,r6⟩
  · exact ⟨x1,n,Z,zN.pure (xBP k1 ⟨rfl,by omega⟩),Only.refl _ _,hz,by omega,by omega,o⟩
theorem xHY {a B:Nat} (h:Dt Z b s d) (hc:Cmp g gc lt V) (hv:xQ V d) (ha:a<B) (hB:B<=d.size) (hsz:d.size<=1000000) :
  ∃ (x:Nat) (k:Int),a<=x/\x<B/\zD Tryz.prog 109 [.slice (some ⟨b,0,s⟩) d.size c,iV (a:Int),iV (B:Int),.func (.func g) ⟨[]⟩ ⟨gc⟩] Z (.tuple ⟨[iV (x:Int),iV k]⟩) Z:=by
 obtain ⟨l,hl⟩:∃ l,l=B-a:=⟨_,rfl⟩;have el:(B:Int)-(a:Int)=(l:Int):=by omega
 have e4:Int.tdiv ((B:Int)-(a:Int)) 4=((l / 4:Nat):Int):=by rw [el,Int.tdiv_eq_ediv_of_nonneg (by omega)];omega
 have w4:IntKind.wrap .i64 (Int.tdiv ((B:Int)-(a:Int)) 4)=Int.tdiv ((B:Int)-(a:Int)) 4:=by rw [<- vV,e4,zXL (by omega) (by omega)]
 have hbn:=h.1;have o1:Own (Z.re.row [iV 0] 1) Z.y [iV 0] 1:=zC _ _ _;have N1:New Z.re (Z.re.row [iV 0] 1):=New.row _ _ _;have h1:Dt (Z.re.row [iV 0] 1) b s d:=(show Dt Z.re b s d from h).le N1.le;have hS:∀ x,x=Z.y->Z.y<=x:=fun x e=>by omega
 by_cases h8:8<=l;rotate_left
 ·exact ⟨a+l / 4*2,1,by omega,by omega,zN.pure (yXZ w4 ⟨by rw [e4];congr 3,N1.lw⟩ (by omega) (by rw [e4];omega) (by rw [e4];omega) (by rw [e4];omega) (by rw [e4];omega) (by rw [e4];omega) (by rw [e4];omega) (by omega))⟩
 have i1:(a:Int)+Int.tdiv ((B:Int)-(a:Int)) 4*1=((a+l / 4*1:Nat):Int):=by rw [e4];omega
 have i2:(a:Int)+Int.tdiv ((B:Int)-(a:Int)) 4*2=((a+l / 4*2:Nat):Int):=by rw [e4];omega
 have i3:(a:Int)+Int.tdiv ((B:Int)-(a:Int)) 4*3=((a+l / 4*3:Nat):Int):=by rw [e4];omega
 by_cases h50:50<=l;rotate_left
 ·obtain ⟨x,n',Z2,k2,q2,z2,m1,m2,o2⟩:=xMV (c:=c) h1 hc hv o1 (by omega) (i:=a+l / 4*1) (j:=a+l / 4*2) (k:=a+l / 4*3) (by omega) (by omega) (by omega) (by omega);rw [<- i1,<- i2,<- i3] at k2;have N2:=N1.of_only q2 hS;by_cases g0:n'=0
  ·exact ⟨x,1,by omega,by omega,zN.pure (yYC w4 k2 (o2.ld rfl zU rfl) ⟨rfl,N2.lw⟩ (by omega) (by rw [e4];omega) (by rw [e4];omega) (by rw [e4];omega) (by rw [e4];omega) (by rw [e4];omega) (by rw [e4];omega) (by omega) (by omega) (by omega))⟩
  by_cases g12:n'=12
  ·exact ⟨x,2,by omega,by omega,zN.pure (yYB w4 k2 (o2.ld rfl zU rfl) ⟨rfl,N2.lw⟩ (by omega) (by rw [e4];omega) (by rw [e4];omega) (by rw [e4];omega) (by rw [e4];omega) (by rw [e4];omega) (by rw [e4];omega) (by omega) (by omega) (by omega) (by omega))⟩
  ·exact ⟨x,0,by omega,by omega,zN.pure (yYA w4 k2 (o2.ld rfl zU rfl) ⟨rfl,N2.lw⟩ (by omega) (by rw [e4];omega) (by rw [e4];omega) (by rw [e4];omega) (by rw [e4];omega) (by rw [e4];omega) (by rw [e4];omega) (by omega) (by omega) (by omega) (by omega))⟩
 obtain ⟨x1,n1,Z2,k2,q2,z2,m1,m2,o2⟩:=yWK (c:=c) h1 hc hv o1 (by omega) (i:=a+l / 4*1) (by omega) (by omega) hsz (by omega);have N2:=N1.of_only q2 hS;have h2:=h1.only q2 (by omega);obtain ⟨x2,n2,Z3,k3,q3,z3,m3,m4,o3⟩:=yWK (c:=c) h2 hc hv o2 (by omega) (i:=a+l / 4*2) (by omega) (by omega) hsz (by omega);have N3:=N2.of_only q3 hS;have h3:=h2.only q3 (by omega);obtain ⟨x3,n3,Z4,k4,q4,z4,m5,m6,o4⟩:=yWK (c:=c) h3 hc hv o3 (by omega) (i:=a+l / 4*3) (by omega) (by omega) hsz (by omega);have N4:=N3.of_only q4 hS;have h4:=h3.only q4 (by omega);obtain ⟨x,n',Z5,k5,q5,z5,m7,m8,o5⟩:=xMV (c:=c) h4 hc hv o4 (by omega) (i:=x1) (j:=x2) (k:=x3) (by omega) (by omega) (by omega) (by omega);have N5:=N4.of_only q5 hS;rw [<- i1] at k2;rw [<- i2] at k3;rw [<- i3] at k4;by_cases g0:n'=0
 ·exact ⟨x,1,by omega,by omega,zN.pure (yYF w4 k2 k3 k4 k5 (o5.ld rfl zU rfl) ⟨rfl,N5.lw⟩ (by omega) (by rw [e4];omega) (by rw [e4];omega) (by rw [e4];omega) (by rw [e4];omega) (by rw [e4];omega) (by rw [e4];omega) (by omega) (by omega) (by omega))⟩
 by_cases g12:n'=12
 ·exact ⟨x,2,by omega,by omega,zN.pure (yYE w4 k2 k3 k4 k5 (o5.ld rfl zU rfl) ⟨rfl,N5.lw⟩ (by omega) (by rw [e4];omega) (by rw [e4];omega) (by rw [e4];omega) (by rw [e4];omega) (by rw [e4];omega) (by rw [e4];omega) (by omega) (by omega) (by omega) (by omega))⟩
 ·exact ⟨x,0,by omega,by omega,zN.pure (yYD w4 k2 k3 k4 k5 (o5.ld rfl zU rfl) ⟨rfl,N5.lw⟩ (by omega) (by rw [e4];omega) (by rw [e4];omega) (by rw [e4];omega) (by rw [e4];omega) (by rw [e4];omega) (by rw [e4];omega) (by omega) (by omega) (by omega) (by omega))⟩
end
section
noncomputable section
variable (data:oAa) (ag aj:Nat) (aT:Int) (az:FuncId) (ao:lVa) (aW aI aV:Int) (q0:Int->Int->Int->Bool->Bool->St->Prop) (bA fP bk:Bool) (q1:St->Prop) (nL kD kE kC:Int) (ft:Bool) (q4:Int->Int->Bool->St->Prop) (fR fQ:Int) (t10_5:Bool) (Z:St) (q5:Int->Int->Bool->St->Prop) (Nx:Int->Int->Int->Bool->Bool->St->Prop) (q6:vPa) (Qr:St->Prop)
def zNY:Code:=(Code.part [1,1,0,0] (qh 97))
def zYZ:lNa:=[(0,.slice data ag aj),(1,iV aW),(2,iV aI),(3,iV aV),(4,.func (.func az) ⟨[]⟩ ⟨ao⟩),(10,.bool fP),(11,.bool bk)]
def zLQ:Alt:=⟨Int × Int × Int × Bool × Bool,.normal,fun t=>zYZ data ag aj az ao t.1 t.2.1 t.2.2.1 t.2.2.2.1 t.2.2.2.2,fun t=>[],fun t Z=>q0 t.1 t.2.1 t.2.2.1 t.2.2.2.1 t.2.2.2.2 Z⟩
def yNY (data:oAa) (ag aj:Nat) (az:FuncId) (ao:lVa):lNa:=[]
def zCJ:Alt:=⟨Unit,.ret,fun t=>yNY data ag aj az ao,fun t=>[],fun t Z=>q1 Z⟩
def zSB:Prop:=qi qj none zNY 148 (zYZ data ag aj az ao aW aI aV fP bk) [] [zLQ data ag aj az ao Nx,zCJ data ag aj az ao Qr] Z
def xLH:Prop:=qk qj none zNY 148 (zYZ data ag aj az ao aW aI aV fP bk) [] [zCJ data ag aj az ao Qr] Z
def xXZ:Code:=(Code.part [1,1,0,0,0,1,1,1,0,1] (qh 97))
def yVH (data:oAa) (ag aj:Nat) (aW aI:Int) (az:FuncId) (ao:lVa) (df bk:Bool) (kA:Int) (fW:Bool) (aT:Int):lNa:=[(0,.slice data ag aj),(1,iV aW),(2,iV aI),(3,iV aT),(4,.func (.func az) ⟨[]⟩ ⟨ao⟩),(10,.bool df),(11,.bool bk),(12,iV kA),(39,.bool fW)]
def yNX (data:oAa) (ag aj:Nat) (aW aI:Int) (az:FuncId) (ao:lVa) (df bk:Bool) (kA:Int) (fW:Bool) (aT:Int):lNa:=[(0,.slice data ag aj),(1,iV aW),(2,iV aI),(3,iV aT),(4,.func (.func az) ⟨[]⟩ ⟨ao⟩),(10,.bool df),(11,.bool bk),(12,iV kA)]
def zZC (data:oAa) (ag aj:Nat) (aW aI:Int) (az:FuncId) (ao:lVa) (df bk:Bool) (kA:Int) (fW:Bool) (Q:Int->St->Prop):Alt:=⟨Int,.normal,fun t=>yNX data ag aj aW aI az ao df bk kA fW t,fun t=>[],fun t Z=>Q t Z⟩
def yJI (data:oAa) (ag aj:Nat) (aW aI:Int) (az:FuncId) (ao:lVa) (df bk:Bool) (kA:Int) (fW:Bool) (aT:Int) (Z:St) (Qn:Int->St->Prop):Prop:=qi qj none xXZ 148 (yVH data ag aj aW aI az ao df bk kA fW aT) [] [zZC data ag aj aW aI az ao df bk kA fW Qn] Z
def zJU (data:oAa) (ag aj:Nat) (aW aI:Int) (az:FuncId) (ao:lVa) (df bk:Bool) (kA:Int) (fW:Bool) (aT:Int) (Z:St) (Nx:Int->Int->Int->Bool->Bool->St->Prop) (Qr:St->Prop):Prop:=kZ qj zNY [0,1,1,1,0,1] (zGR 148 [zLQ data ag aj az ao Nx,zCJ data ag aj az ao Qr]) .normal 148 (yNX data ag aj aW aI az ao df bk kA fW aT) Z
def xXY:Code:=(Code.part [1,1,0,0,0,1,1,1,1,1,0,1] (qh 97))
def zYY (data:oAa) (ag aj:Nat) (aW aI aT:Int) (az:FuncId) (ao:lVa) (df bk:Bool) (kA:Int) (eG:Bool) (aF dB:Int):lNa:=[(0,.slice data ag aj),(1,iV aW),(2,iV aI),(3,iV aT),(4,.func (.func az) ⟨[]⟩ ⟨ao⟩),(10,.bool df),(11,.bool bk),(12,iV kA),(13,iV aF),(14,iV dB),(56,.bool eG)]
def yNW (data:oAa) (ag aj:Nat) (aW aI aT:Int) (az:FuncId) (ao:lVa) (df bk:Bool) (kA:Int) (eG:Bool) (aF dB:Int):lNa:=[(0,.slice data ag aj),(1,iV aW),(2,iV aI),(3,iV aT),(4,.func (.func az) ⟨[]⟩ ⟨ao⟩),(10,.bool df),(11,.bool bk),(12,iV kA),(13,iV aF),(14,iV dB)]
def zZB (data:oAa) (ag aj:Nat) (aW aI aT:Int) (az:FuncId) (ao:lVa) (df bk:Bool) (kA:Int) (eG:Bool) (Q:Int->Int->St->Prop):Alt:=⟨Int × Int,.normal,fun t=>yNW data ag aj aW aI aT az ao df bk kA eG t.1 t.2,fun t=>[],fun t Z=>Q t.1 t.2 Z⟩
def yJH (data:oAa) (ag aj:Nat) (aW aI aT:Int) (az:FuncId) (ao:lVa) (df bk:Bool) (kA:Int) (eG:Bool) (aF dB:Int) (Z:St) (Qn:Int->Int->St->Prop):Prop:=qi qj none xXY 148 (zYY data ag aj aW aI aT az ao df bk kA eG aF dB) [] [zZB data ag aj aW aI aT az ao df bk kA eG Qn] Z
def xZ (data:oAa) (ag aj:Nat) (aW aI aT:Int) (az:FuncId) (ao:lVa) (df bk:Bool) (kA:Int) (eG:Bool) (aF dB:Int) (Z:St) (Nx:Int->Int->Int->Bool->Bool->St->Prop) (Qr:St->Prop):Prop:=kZ qj zNY [0,1,1,1,1,1,0,1] (zGR 148 [zLQ data ag aj az ao Nx,zCJ data ag aj az ao Qr]) .normal 148 (yNW data ag aj aW aI aT az ao df bk kA eG aF dB) Z
def xXX:Code:=(Code.part [1,1,0,0,0,1,1,1,1,1,1,1,0,1] (qh 97))
def wH (data:oAa) (ag aj:Nat) (aI aT:Int) (az:FuncId) (ao:lVa) (eF eE:Bool) (kA aF:Int) (eP:Bool) (dU:Int):lNa:=[(0,.slice data ag aj),(1,iV dU),(2,iV aI),(3,iV aT),(4,.func (.func az) ⟨[]⟩ ⟨ao⟩),(10,.bool eF),(11,.bool eE),(12,iV kA),(13,iV aF),(97,.bool eP)]
def yNV (data:oAa) (ag aj:Nat) (aI aT:Int) (az:FuncId) (ao:lVa) (eF eE:Bool) (kA aF:Int) (eP:Bool) (dU:Int):lNa:=[(0,.slice data ag aj),(1,iV dU),(2,iV aI),(3,iV aT),(4,.func (.func az) ⟨[]⟩ ⟨ao⟩),(10,.bool eF),(11,.bool eE)]
def vI (data:oAa) (ag aj:Nat) (aI aT:Int) (az:FuncId) (ao:lVa) (eF eE:Bool) (kA aF:Int) (eP:Bool) (Q:Int->St->Prop):Alt:=⟨Int,(.exit 1),fun t=>yNV data ag aj aI aT az ao eF eE kA aF eP t,fun t=>[],fun t Z=>Q t Z⟩
def yNU (data:oAa) (ag aj:Nat) (aI aT:Int) (az:FuncId) (ao:lVa) (eF eE:Bool) (kA aF:Int) (eP:Bool) (dU:Int):lNa:=[(0,.slice data ag aj),(1,iV dU),(2,iV aI),(3,iV aT),(4,.func (.func az) ⟨[]⟩ ⟨ao⟩),(12,iV kA),(13,iV aF)]
def vH (data:oAa) (ag aj:Nat) (aI aT:Int) (az:FuncId) (ao:lVa) (eF eE:Bool) (kA aF:Int) (eP:Bool) (Q:Int->St->Prop):Alt:=⟨Int,.normal,fun t=>yNU data ag aj aI aT az ao eF eE kA aF eP t,fun t=>[],fun t Z=>Q t Z⟩
def uW (data:oAa) (ag aj:Nat) (aI aT:Int) (az:FuncId) (ao:lVa) (eF eE:Bool) (kA aF:Int) (eP:Bool) (dU:Int) (Z:St) (Q1:Int->St->Prop) (Qn:Int->St->Prop):Prop:=qi qj none xXX 148 (wH data ag aj aI aT az ao eF eE kA aF eP dU) [] [vI data ag aj aI aT az ao eF eE kA aF eP Q1,vH data ag aj aI aT az ao eF eE kA aF eP Qn] Z
def wX (data:oAa) (ag aj:Nat) (aI aT:Int) (az:FuncId) (ao:lVa) (eF eE:Bool) (kA aF:Int) (eP:Bool) (dU:Int) (Z:St) (Nx:Int->Int->Int->Bool->Bool->St->Prop) (Qr:St->Prop):Prop:=kZ qj zNY [0,1,1,1,1,1,1,1,0,1] (zGR 148 [zLQ data ag aj az ao Nx,zCJ data ag aj az ao Qr]) (.exit 1) 148 (yNV data ag aj aI aT az ao eF eE kA aF eP dU) Z
def wK (data:oAa) (ag aj:Nat) (aI aT:Int) (az:FuncId) (ao:lVa) (eF eE:Bool) (kA aF:Int) (eP:Bool) (dU:Int) (Z:St) (Nx:Int->Int->Int->Bool->Bool->St->Prop) (Qr:St->Prop):Prop:=kZ qj zNY [0,1,1,1,1,1,1,1,0,1] (zGR 148 [zLQ data ag aj az ao Nx,zCJ data ag aj az ao Qr]) .normal 148 (yNU data ag aj aI aT az ao eF eE kA aF eP dU) Z
def xXW:Code:=(Code.part [1,1,0,0,0,1,1,1,1,1,1,1,1,1,1,1,1,1] (qh 97))
def yVG:lNa:=[(0,.slice data ag aj),(1,iV fR),(2,iV fQ),(3,iV aT),(4,.func (.func az) ⟨[]⟩ ⟨ao⟩),(11,.bool bA),(16,iV nL),(18,iV kD),(19,iV kE),(20,iV kC),(125,.bool ft)]
def yNT (data:oAa) (ag aj:Nat) (aT:Int) (az:FuncId) (ao:lVa) (bA:Bool) (nL kD kE kC:Int) (ft:Bool) (fR fQ:Int) (t10_5:Bool):lNa:=[(0,.slice data ag aj),(1,iV fR),(2,iV fQ),(3,iV aT),(4,.func (.func az) ⟨[]⟩ ⟨ao⟩),(10,.bool t10_5),(11,.bool bA)]
def zZA:Alt:=⟨Int × Int × Bool,.normal,fun t=>yNT data ag aj aT az ao bA nL kD kE kC ft t.1 t.2.1 t.2.2,fun t=>[],fun t Z=>q4 t.1 t.2.1 t.2.2 Z⟩
def zSA:Prop:=qi qj none xXW 148 (yVG data ag aj aT az ao bA nL kD kE kC ft fR fQ) [] [zZA data ag aj aT az ao bA nL kD kE kC ft q5] Z
def zZD:Prop:=kZ qj zNY [0,1,1,1,1,1,1,1,1,1,1,1,1,1] (zGR 148 [zLQ data ag aj az ao Nx,zCJ data ag aj az ao Qr]) .normal 148 (yNT data ag aj aT az ao bA nL kD kE kC ft fR fQ t10_5) Z
def yNZ:Prop:=kZ qj (qh 97) [1,1,0] (ql 97 q6) .ret 148 (yNY data ag aj az ao) Z
end
variable {data x:oAa} {ag aj x_l x_c:Nat} {az:FuncId} {ao:lVa} {Inv:Nat->Int->Int->Int->Bool->Bool->St->Prop} {Qr Pr:St->Prop} {aW aI aV kA aT aF dB nKB nIB dU nCB nX nY nZ nAB nBB nBO nBP nDB nEB kD kE kC nL fR fQ a_1 b limit z1 n2:Int} {fP bk df fW eG eF eE eP bA ft t10_5:Bool} {ZR Z ZWB ZXB ZE ZYB ZL ZCB Z3:St} {Nx:Int->Int->Int->Bool->Bool->St->Prop} {Qn Pn Q1 P1:Int->St->Prop} {au:Addr} {Q:vPa}
theorem yEW (hb:∀ k aW aI aV fP bk Z,Inv k aW aI aV fP bk Z->zSB data ag aj az ao aW aI aV fP bk Z (NX5 Inv k) Qr):∀ k aW aI aV fP bk Z,Inv k aW aI aV fP bk Z->xLH data ag aj az ao aW aI aV fP bk Z Qr :=
 xYM (ai zAR trivial) hb
theorem xAX (h1:qm 106 [.slice data ag aj,iV aW,iV aI,.func (.func az) ⟨[]⟩ ⟨ao⟩] Z (.tuple ⟨[]⟩) ZR) (nx:Qr ZR) (u1:I6 (aI-aW):=by omega) (u2:(aI-aW)<=12:=by omega):zSB data ag aj az ao aW aI aV fP bk Z Nx Qr :=
 kO 1 () [.g,.g,.n (aI-aW),.g,.g,.b true,.g,.g,.g,.g,.c (.tuple ⟨[]⟩) ZR] (fun _ f=>an3 (w64 u1) (yE u2) h1 f) nx
theorem xTK (h1:qm 107 [.slice data ag aj,iV aW,iV aI,.func (.func az) ⟨[]⟩ ⟨ao⟩] Z (.tuple ⟨[]⟩) ZR) (nx:Qr ZR) (u1:I6 (aI-aW):=by omega) (u2:¬ (aI-aW)<=12:=by omega) (u3:aV=0:=by omega):zSB data ag aj az ao aW aI aV fP bk Z Nx Qr :=
 kO 1 () [.g,.g,.n (aI-aW),.g,.g,.b false,.g,.b true,.g,.g,.g,.g,.c (.tuple ⟨[]⟩) ZR] (fun _ f=>an4 (w64 u1) (yH u2) (xK u3) h1 f) nx
theorem xTH (h1:qm 108 [.slice data ag aj,iV aW,iV aI,.func (.func az) ⟨[]⟩ ⟨ao⟩] Z (.tuple ⟨[]⟩) ZWB) (nx:Qn (aT-1) ZWB) (u1:I6 (aT-1):=by omega):yJI data ag aj aW aI az ao df bk kA true aT Z Qn :=
 kO 0 (aT-1) [.g,.g,.g,.g,.c (.tuple ⟨[]⟩) ZWB,.g,.n (aT-1),.g] (fun _ f=>an2 h1 (w64 u1) f) nx
theorem xTG (nx:Qn aT Z):yJI data ag aj aW aI az ao df bk kA false aT Z Qn :=
 kO 0 aT [] (fun _ f=>f) nx
theorem xTJ (hL:yJI data ag aj aW aI az ao true bk (aI-aW) false aV Z Pn) (kn:∀ i3_2' Z',Pn i3_2' Z'->zJU data ag aj aW aI az ao true bk (aI-aW) false i3_2' Z' Nx Qr) (u1:I6 (aI-aW):=by omega) (u2:¬ (aI-aW)<=12:=by omega) (u3:¬ aV=0:=by omega):zSB data ag aj az ao aW aI aV true bk Z Nx Qr :=
 let s1:=yVH data ag aj aW aI az ao true bk (aI-aW) false aV;zDG [.g,.g,.n (aI-aW),.g,.g,.b false,.g,.b false,.g,.g,.cut 148 s1 [zZC data ag aj aW aI az ao true bk (aI-aW) false Pn]] (fun g=>kd (an3 (w64 u1) (yH u2) (xH u3) (ai (ai tt (ai (arf s1) hL)) (ai (kz1 kn) trivial))))
theorem xTI (hL:yJI data ag aj aW aI az ao false bk (aI-aW) true aV Z Pn) (kn:∀ i3_2' Z',Pn i3_2' Z'->zJU data ag aj aW aI az ao false bk (aI-aW) true i3_2' Z' Nx Qr) (u1:I6 (aI-aW):=by omega) (u2:¬ (aI-aW)<=12:=by omega) (u3:¬ aV=0:=by omega):zSB data ag aj az ao aW aI aV false bk Z Nx Qr :=
 let s1:=yVH data ag aj aW aI az ao false bk (aI-aW) true aV;zDG [.g,.g,.n (aI-aW),.g,.g,.b false,.g,.b false,.g,.g,.cut 148 s1 [zZC data ag aj aW aI az ao false bk (aI-aW) true Pn]] (fun g=>kd (an3 (w64 u1) (yH u2) (xH u3) (ai (ai tt (ai (arf s1) hL)) (ai (kz1 kn) trivial))))
theorem xTF {Qn:Int->Int->St->Prop} (h1:qm 110 [.slice data ag aj,iV aW,iV aI,.func (.func az) ⟨[]⟩ ⟨ao⟩] Z (.tuple ⟨[]⟩) ZXB) (nx:Qn ((aI-1)-(aF-aW)) (1:Int) ZXB) (u1:I6 (aI-1):=by omega) (u2:I6 (aF-aW):=by omega) (u3:I6 ((aI-1)-(aF-aW)):=by omega):yJH data ag aj aW aI aT az ao df bk kA true aF dB Z Qn :=
 let s1:=aF-aW;kO 0 ((aI-1)-s1,(1:Int)) [.g,.g,.g,.g,.c (.tuple ⟨[]⟩) ZXB,.g,.n (aI-1),.g,.g,.n s1,.n ((aI-1)-s1),.g,.g] (fun _ f=>an4 h1 (w64 u1) (w64 u2) (w64 u3) f) nx
theorem xTE {Qn:Int->Int->St->Prop} (nx:Qn aF dB Z):yJH data ag aj aW aI aT az ao df bk kA false aF dB Z Qn :=
 kO 0 (aF,dB) [] (fun _ f=>f) nx
theorem xFM {Pn:Int->Int->St->Prop} (h1:qm 109 [.slice data ag aj,iV aW,iV aI,.func (.func az) ⟨[]⟩ ⟨ao⟩] Z (.tuple ⟨[iV nKB,iV nIB]⟩) Z) (hL:yJH data ag aj aW aI aT az ao df bk kA true nKB nIB Z Pn) (kn:∀ i13_3' i14_3' Z',Pn i13_3' i14_3' Z'->xZ data ag aj aW aI aT az ao df bk kA true i13_3' i14_3' Z' Nx Qr) (u1:nIB=2:=by omega):zJU data ag aj aW aI az ao df bk kA fW aT Z Nx Qr :=
 sK [.g,.g,.g,.g,.c (.tuple ⟨[iV nKB,iV nIB]⟩) Z,.g,.g,.g,.g,.g,.g,.b true,.cut 148 (zYY data ag aj aW aI aT az ao df bk kA true nKB nIB) [zZB data ag aj aW aI aT az ao df bk kA true Pn]] (an2 h1 (xK u1) (ai (ai tt (ai (arf (zYY data ag aj aW aI aT az ao df bk kA true nKB nIB)) hL)) (ai (kz2 kn) trivial)))
theorem xFL {Pn:Int->Int->St->Prop} (h1:qm 109 [.slice data ag aj,iV aW,iV aI,.func (.func az) ⟨[]⟩ ⟨ao⟩] Z (.tuple ⟨[iV nKB,iV nIB]⟩) Z) (hL:yJH data ag aj aW aI aT az ao df bk kA false nKB nIB Z Pn) (kn:∀ i13_3' i14_3' Z',Pn i13_3' i14_3' Z'->xZ data ag aj aW aI aT az ao df bk kA false i13_3' i14_3' Z' Nx Qr) (u1:¬ nIB=2:=by omega):zJU data ag aj aW aI az ao df bk kA fW aT Z Nx Qr :=
 sK [.g,.g,.g,.g,.c (.tuple ⟨[iV nKB,iV nIB]⟩) Z,.g,.g,.g,.g,.g,.g,.b false,.cut 148 (zYY data ag aj aW aI aT az ao df bk kA false nKB nIB) [zZB data ag aj aW aI aT az ao df bk kA false Pn]] (an2 h1 (xH u1) (ai (ai tt (ai (arf (zYY data ag aj aW aI aT az ao df bk kA false nKB nIB)) hL)) (ai (kz2 kn) trivial)))
theorem yEU (h1:qm 111 [.slice data ag aj,iV aW,iV aI,.func (.func az) ⟨[]⟩ ⟨ao⟩] Z (.bool true) ZE) (nx:Qr ZE) (u1:dB=1:=by omega):xZ data ag aj aW aI aT az ao true true kA eG aF dB Z Nx Qr :=
 sF 1 () [.g,.g,.g,.g,.g,.g,.b true,.g,.g,.g,.g,.g,.c (.bool true) ZE] (fun _ f=>an2 (xK u1) h1 f) nx
theorem xTD (h1:qm 112 [.slice data ag aj,iV dU,iV aI,iV aF,.func (.func az) ⟨[]⟩ ⟨ao⟩] Z (iV nCB) ZYB) (nx:Q1 nCB ZYB):uW data ag aj aI aT az ao eF eE kA aF true dU Z Q1 Qn :=
 kO 0 nCB [.g,.g,.g,.g,.g,.c (iV nCB) ZYB,.g,.g,.g] (fun _ f=>ai h1 f) nx
theorem xTC (nx:Qn dU Z):uW data ag aj aI aT az ao eF eE kA aF false dU Z Q1 Qn :=
 kO 1 dU [] (fun _ f=>f) nx
theorem xFK (h1:qm 111 [.slice (some au) ag aj,iV aW,iV aI,.func (.func az) ⟨[]⟩ ⟨ao⟩] Z (.bool false) ZE) (h2:lz ZE 45 (zL au (Int.toNat (aW-1)*3)) (qf (rcd nX nY nZ))) (h3:lz ZE 45 (zL au (Int.toNat aF*3)) (qf (rcd nAB nBB nBO))) (h4:qm az (qf (rcd nX nY nZ)::(qf (rcd nAB nBB nBO))::ao) ZE (iV nBP) ZE) (hL:uW (some au) ag aj aI aT az ao true true kA aF false aW ZE P1 Pn) (k1:∀ i1_4' Z',P1 i1_4' Z'->wX (some au) ag aj aI aT az ao true true kA aF false i1_4' Z' Nx Qr) (kn:∀ i1_4' Z',Pn i1_4' Z'->wK (some au) ag aj aI aT az ao true true kA aF false i1_4' Z' Nx Qr) (u1:dB=1:=by omega) (u2:0<aW:=by omega) (u3:I6 (aW-1):=by omega) (u4:Ix (aW-1) ag:=by omega) (u5:Ix aF ag:=by omega) (u6:nBP<0:=by omega):xZ (some au) ag aj aW aI aT az ao true true kA eG aF dB Z Nx Qr :=
 sK [.g,.g,.g,.g,.g,.g,.b true,.g,.g,.g,.g,.g,.c (.bool false) ZE,.g,.b true,.g,.g,.g,.g,.n (aW-1),.i,.l (qf (rcd nX nY nZ)),.g,.g,.i,.l (qf (rcd nAB nBB nBO)),.c (iV nBP) ZE,.b true,.g,.g,.cut 148 (wH (some au) ag aj aI aT az ao true true kA aF false aW) [vI (some au) ag aj aI aT az ao true true kA aF false P1,vH (some au) ag aj aI aT az ao true true kA aF false Pn]] (an4 (xK u1) h1 (zR u2) (w64 u3) (an6 u4 h2 u5 h3 h4 (zR u6) (ai (ai tt (ai (arf (wH (some au) ag aj aI aT az ao true true kA aF false aW)) hL)) (ai (kz1 k1) (ai (kz1 kn) trivial)))))
theorem xFJ (h1:qm 111 [.slice (some au) ag aj,iV aW,iV aI,.func (.func az) ⟨[]⟩ ⟨ao⟩] Z (.bool false) ZE) (h2:lz ZE 45 (zL au (Int.toNat (aW-1)*3)) (qf (rcd nX nY nZ))) (h3:lz ZE 45 (zL au (Int.toNat aF*3)) (qf (rcd nAB nBB nBO))) (h4:qm az (qf (rcd nX nY nZ)::(qf (rcd nAB nBB nBO))::ao) ZE (iV nBP) ZE) (hL:uW (some au) ag aj aI aT az ao true true kA aF true aW ZE P1 Pn) (k1:∀ i1_4' Z',P1 i1_4' Z'->wX (some au) ag aj aI aT az ao true true kA aF true i1_4' Z' Nx Qr) (kn:∀ i1_4' Z',Pn i1_4' Z'->wK (some au) ag aj aI aT az ao true true kA aF true i1_4' Z' Nx Qr) (u1:dB=1:=by omega) (u2:0<aW:=by omega) (u3:I6 (aW-1):=by omega) (u4:Ix (aW-1) ag:=by omega) (u5:Ix aF ag:=by omega) (u6:¬ nBP<0:=by omega):xZ (some au) ag aj aW aI aT az ao true true kA eG aF dB Z Nx Qr :=
 sK [.g,.g,.g,.g,.g,.g,.b true,.g,.g,.g,.g,.g,.c (.bool false) ZE,.g,.b true,.g,.g,.g,.g,.n (aW-1),.i,.l (qf (rcd nX nY nZ)),.g,.g,.i,.l (qf (rcd nAB nBB nBO)),.c (iV nBP) ZE,.b false,.g,.g,.cut 148 (wH (some au) ag aj aI aT az ao true true kA aF true aW) [vI (some au) ag aj aI aT az ao true true kA aF true P1,vH (some au) ag aj aI aT az ao true true kA aF true Pn]] (an4 (xK u1) h1 (zR u2) (w64 u3) (an6 u4 h2 u5 h3 h4 (zT u6) (ai (ai tt (ai (arf (wH (some au) ag aj aI aT az ao true true kA aF true aW)) hL)) (ai (kz1 k1) (ai (kz1 kn) trivial)))))
theorem xFI (h1:qm 111 [.slice data ag aj,iV aW,iV aI,.func (.func az) ⟨[]⟩ ⟨ao⟩] Z (.bool false) ZE) (hL:uW data ag aj aI aT az ao true true kA aF false aW ZE P1 Pn) (k1:∀ i1_4' Z',P1 i1_4' Z'->wX data ag aj aI aT az ao true true kA aF false i1_4' Z' Nx Qr) (kn:∀ i1_4' Z',Pn i1_4' Z'->wK data ag aj aI aT az ao true true kA aF false i1_4' Z' Nx Qr) (u1:dB=1:=by omega) (u2:¬ 0<aW:=by omega):xZ data ag aj aW aI aT az ao true true kA eG aF dB Z Nx Qr :=
 sK [.g,.g,.g,.g,.g,.g,.b true,.g,.g,.g,.g,.g,.c (.bool false) ZE,.g,.b false,.g,.g,.cut 148 (wH data ag aj aI aT az ao true true kA aF false aW) [vI data ag aj aI aT az ao true true kA aF false P1,vH data ag aj aI aT az ao true true kA aF false Pn]] (an3 (xK u1) h1 (zT u2) (ai (ai tt (ai (arf (wH data ag aj aI aT az ao true true kA aF false aW)) hL)) (ai (kz1 k1) (ai (kz1 kn) trivial))))
theorem xFH (h1:lz Z 45 (zL au (Int.toNat (aW-1)*3)) (qf (rcd nDB nEB nX))) (h2:lz Z 45 (zL au (Int.toNat aF*3)) (qf (rcd nY nZ nAB))) (h3:qm az (qf (rcd nDB nEB nX)::(qf (rcd nY nZ nAB))::ao) Z (iV nBB) Z) (hL:uW (some au) ag aj aI aT az ao true true kA aF false aW Z P1 Pn) (k1:∀ i1_4' Z',P1 i1_4' Z'->wX (some au) ag aj aI aT az ao true true kA aF false i1_4' Z' Nx Qr) (kn:∀ i1_4' Z',Pn i1_4' Z'->wK (some au) ag aj aI aT az ao true true kA aF false i1_4' Z' Nx Qr) (u1:¬ dB=1:=by omega) (u2:0<aW:=by omega) (u3:I6 (aW-1):=by omega) (u4:Ix (aW-1) ag:=by omega) (u5:Ix aF ag:=by omega) (u6:nBB<0:=by omega):xZ (some au) ag aj aW aI aT az ao true true kA eG aF dB Z Nx Qr :=
 sK [.g,.g,.g,.g,.g,.g,.b false,.g,.g,.b true,.g,.g,.g,.g,.n (aW-1),.i,.l (qf (rcd nDB nEB nX)),.g,.g,.i,.l (qf (rcd nY nZ nAB)),.c (iV nBB) Z,.b true,.g,.g,.cut 148 (wH (some au) ag aj aI aT az ao true true kA aF false aW) [vI (some au) ag aj aI aT az ao true true kA aF false P1,vH (some au) ag aj aI aT az ao true true kA aF false Pn]] (an3 (xH u1) (zR u2) (w64 u3) (an6 u4 h1 u5 h2 h3 (zR u6) (ai (ai tt (ai (arf (wH (some au) ag aj aI aT az ao true true kA aF false aW)) hL)) (ai (kz1 k1) (ai (kz1 kn) trivial)))))
theorem xFG (h1:lz Z 45 (zL au (Int.toNat (aW-1)*3)) (qf (rcd nDB nEB nX))) (h2:lz Z 45 (zL au (Int.toNat aF*3)) (qf (rcd nY nZ nAB))) (h3:qm az (qf (rcd nDB nEB nX)::(qf (rcd nY nZ nAB))::ao) Z (iV nBB) Z) (hL:uW (some au) ag aj aI aT az ao true true kA aF true aW Z P1 Pn) (k1:∀ i1_4' Z',P1 i1_4' Z'->wX (some au) ag aj aI aT az ao true true kA aF true i1_4' Z' Nx Qr) (kn:∀ i1_4' Z',Pn i1_4' Z'->wK (some au) ag aj aI aT az ao true true kA aF true i1_4' Z' Nx Qr) (u1:¬ dB=1:=by omega) (u2:0<aW:=by omega) (u3:I6 (aW-1):=by omega) (u4:Ix (aW-1) ag:=by omega) (u5:Ix aF ag:=by omega) (u6:¬ nBB<0:=by omega):xZ (some au) ag aj aW aI aT az ao true true kA eG aF dB Z Nx Qr :=
 sK [.g,.g,.g,.g,.g,.g,.b false,.g,.g,.b true,.g,.g,.g,.g,.n (aW-1),.i,.l (qf (rcd nDB nEB nX)),.g,.g,.i,.l (qf (rcd nY nZ nAB)),.c (iV nBB) Z,.b false,.g,.g,.cut 148 (wH (some au) ag aj aI aT az ao true true kA aF true aW) [vI (some au) ag aj aI aT az ao true true kA aF true P1,vH (some au) ag aj aI aT az ao true true kA aF true Pn]] (an3 (xH u1) (zR u2) (w64 u3) (an6 u4 h1 u5 h2 h3 (zT u6) (ai (ai tt (ai (arf (wH (some au) ag aj aI aT az ao true true kA aF true aW)) hL)) (ai (kz1 k1) (ai (kz1 kn) trivial)))))
theorem xFF (hL:uW data ag aj aI aT az ao true true kA aF false aW Z P1 Pn) (k1:∀ i1_4' Z',P1 i1_4' Z'->wX data ag aj aI aT az ao true true kA aF false i1_4' Z' Nx Qr) (kn:∀ i1_4' Z',Pn i1_4' Z'->wK data ag aj aI aT az ao true true kA aF false i1_4' Z' Nx Qr) (u1:¬ dB=1:=by omega) (u2:¬ 0<aW:=by omega):xZ data ag aj aW aI aT az ao true true kA eG aF dB Z Nx Qr :=
 sK [.g,.g,.g,.g,.g,.g,.b false,.g,.g,.b false,.g,.g,.cut 148 (wH data ag aj aI aT az ao true true kA aF false aW) [vI data ag aj aI aT az ao true true kA aF false P1,vH data ag aj aI aT az ao true true kA aF false Pn]] (an2 (xH u1) (zT u2) (ai (ai tt (ai (arf (wH data ag aj aI aT az ao true true kA aF false aW)) hL)) (ai (kz1 k1) (ai (kz1 kn) trivial))))
theorem xFE (h1:lz Z 45 (zL au (Int.toNat (aW-1)*3)) (qf (rcd nDB nEB nX))) (h2:lz Z 45 (zL au (Int.toNat aF*3)) (qf (rcd nY nZ nAB))) (h3:qm az (qf (rcd nDB nEB nX)::(qf (rcd nY nZ nAB))::ao) Z (iV nBB) Z) (hL:uW (some au) ag aj aI aT az ao true false kA aF false aW Z P1 Pn) (k1:∀ i1_4' Z',P1 i1_4' Z'->wX (some au) ag aj aI aT az ao true false kA aF false i1_4' Z' Nx Qr) (kn:∀ i1_4' Z',Pn i1_4' Z'->wK (some au) ag aj aI aT az ao true false kA aF false i1_4' Z' Nx Qr) (u1:0<aW:=by omega) (u2:I6 (aW-1):=by omega) (u3:Ix (aW-1) ag:=by omega) (u4:Ix aF ag:=by omega) (u5:nBB<0:=by omega):xZ (some au) ag aj aW aI aT az ao true false kA eG aF dB Z Nx Qr :=
 sK [.g,.g,.g,.g,.g,.g,.g,.b true,.g,.g,.g,.g,.n (aW-1),.i,.l (qf (rcd nDB nEB nX)),.g,.g,.i,.l (qf (rcd nY nZ nAB)),.c (iV nBB) Z,.b true,.g,.g,.cut 148 (wH (some au) ag aj aI aT az ao true false kA aF false aW) [vI (some au) ag aj aI aT az ao true false kA aF false P1,vH (some au) ag aj aI aT az ao true false kA aF false Pn]] (an2 (zR u1) (w64 u2) (an6 u3 h1 u4 h2 h3 (zR u5) (ai (ai tt (ai (arf (wH (some au) ag aj aI aT az ao true false kA aF false aW)) hL)) (ai (kz1 k1) (ai (kz1 kn) trivial)))))
theorem xFD (h1:lz Z 45 (zL au (Int.toNat (aW-1)*3)) (qf (rcd nDB nEB nX))) (h2:lz Z 45 (zL au (Int.toNat aF*3)) (qf (rcd nY nZ nAB))) (h3:qm az (qf (rcd nDB nEB nX)::(qf (rcd nY nZ nAB))::ao) Z (iV nBB) Z) (hL:uW (some au) ag aj aI aT az ao true false kA aF true aW Z P1 Pn) (k1:∀ i1_4' Z',P1 i1_4' Z'->wX (some au) ag aj aI aT az ao true false kA aF true i1_4' Z' Nx Qr) (kn:∀ i1_4' Z',Pn i1_4' Z'->wK (some au) ag aj aI aT az ao true false kA aF true i1_4' Z' Nx Qr) (u1:0<aW:=by omega) (u2:I6 (aW-1):=by omega) (u3:Ix (aW-1) ag:=by omega) (u4:Ix aF ag:=by omega) (u5:¬ nBB<0:=by omega):xZ (some au) ag aj aW aI aT az ao true false kA eG aF dB Z Nx Qr :=
 sK [.g,.g,.g,.g,.g,.g,.g,.b true,.g,.g,.g,.g,.n (aW-1),.i,.l (qf (rcd nDB nEB nX)),.g,.g,.i,.l (qf (rcd nY nZ nAB)),.c (iV nBB) Z,.b false,.g,.g,.cut 148 (wH (some au) ag aj aI aT az ao true false kA aF true aW) [vI (some au) ag aj aI aT az ao true false kA aF true P1,vH (some au) ag aj aI aT az ao true false kA aF true Pn]] (an2 (zR u1) (w64 u2) (an6 u3 h1 u4 h2 h3 (zT u5) (ai (ai tt (ai (arf (wH (some au) ag aj aI aT az ao true false kA aF true aW)) hL)) (ai (kz1 k1) (ai (kz1 kn) trivial)))))
theorem xFC (hL:uW data ag aj aI aT az ao true false kA aF false aW Z P1 Pn) (k1:∀ i1_4' Z',P1 i1_4' Z'->wX data ag aj aI aT az ao true false kA aF false i1_4' Z' Nx Qr) (kn:∀ i1_4' Z',Pn i1_4' Z'->wK data ag aj aI aT az ao true false kA aF false i1_4' Z' Nx Qr) (u1:¬ 0<aW:=by omega):xZ data ag aj aW aI aT az ao true false kA eG aF dB Z Nx Qr :=
 sK [.g,.g,.g,.g,.g,.g,.g,.b false,.g,.g,.cut 148 (wH data ag aj aI aT az ao true false kA aF false aW) [vI data ag aj aI aT az ao true false kA aF false P1,vH data ag aj aI aT az ao true false kA aF false Pn]] (ai (zT u1) (ai (ai tt (ai (arf (wH data ag aj aI aT az ao true false kA aF false aW)) hL)) (ai (kz1 k1) (ai (kz1 kn) trivial))))
theorem xFB (h1:lz Z 45 (zL au (Int.toNat (aW-1)*3)) (qf (rcd nDB nEB nX))) (h2:lz Z 45 (zL au (Int.toNat aF*3)) (qf (rcd nY nZ nAB))) (h3:qm az (qf (rcd nDB nEB nX)::(qf (rcd nY nZ nAB))::ao) Z (iV nBB) Z) (hL:uW (some au) ag aj aI aT az ao false bk kA aF false aW Z P1 Pn) (k1:∀ i1_4' Z',P1 i1_4' Z'->wX (some au) ag aj aI aT az ao false bk kA aF false i1_4' Z' Nx Qr) (kn:∀ i1_4' Z',Pn i1_4' Z'->wK (some au) ag aj aI aT az ao false bk kA aF false i1_4' Z' Nx Qr) (u1:0<aW:=by omega) (u2:I6 (aW-1):=by omega) (u3:Ix (aW-1) ag:=by omega) (u4:Ix aF ag:=by omega) (u5:nBB<0:=by omega):xZ (some au) ag aj aW aI aT az ao false bk kA eG aF dB Z Nx Qr :=
 sK [.g,.g,.g,.g,.g,.g,.b true,.g,.g,.g,.g,.n (aW-1),.i,.l (qf (rcd nDB nEB nX)),.g,.g,.i,.l (qf (rcd nY nZ nAB)),.c (iV nBB) Z,.b true,.g,.g,.cut 148 (wH (some au) ag aj aI aT az ao false bk kA aF false aW) [vI (some au) ag aj aI aT az ao false bk kA aF false P1,vH (some au) ag aj aI aT az ao false bk kA aF false Pn]] (an2 (zR u1) (w64 u2) (an6 u3 h1 u4 h2 h3 (zR u5) (ai (ai tt (ai (arf (wH (some au) ag aj aI aT az ao false bk kA aF false aW)) hL)) (ai (kz1 k1) (ai (kz1 kn) trivial)))))
theorem xFA (h1:lz Z 45 (zL au (Int.toNat (aW-1)*3)) (qf (rcd nDB nEB nX))) (h2:lz Z 45 (zL au (Int.toNat aF*3)) (qf (rcd nY nZ nAB))) (h3:qm az (qf (rcd nDB nEB nX)::(qf (rcd nY nZ nAB))::ao) Z (iV nBB) Z) (hL:uW (some au) ag aj aI aT az ao false bk kA aF true aW Z P1 Pn) (k1:∀ i1_4' Z',P1 i1_4' Z'->wX (some au) ag aj aI aT az ao false bk kA aF true i1_4' Z' Nx Qr) (kn:∀ i1_4' Z',Pn i1_4' Z'->wK (some au) ag aj aI aT az ao false bk kA aF true i1_4' Z' Nx Qr) (u1:0<aW:=by omega) (u2:I6 (aW-1):=by omega) (u3:Ix (aW-1) ag:=by omega) (u4:Ix aF ag:=by omega) (u5:¬ nBB<0:=by omega):xZ (some au) ag aj aW aI aT az ao false bk kA eG aF dB Z Nx Qr :=
 sK [.g,.g,.g,.g,.g,.g,.b true,.g,.g,.g,.g,.n (aW-1),.i,.l (qf (rcd nDB nEB nX)),.g,.g,.i,.l (qf (rcd nY nZ nAB)),.c (iV nBB) Z,.b false,.g,.g,.cut 148 (wH (some au) ag aj aI aT az ao false bk kA aF true aW) [vI (some au) ag aj aI aT az ao false bk kA aF true P1,vH (some au) ag aj aI aT az ao false bk kA aF true Pn]] (an2 (zR u1) (w64 u2) (an6 u3 h1 u4 h2 h3 (zT u5) (ai (ai tt (ai (arf (wH (some au) ag aj aI aT az ao false bk kA aF true aW)) hL)) (ai (kz1 k1) (ai (kz1 kn) trivial)))))
theorem xEZ (hL:uW data ag aj aI aT az ao false bk kA aF false aW Z P1 Pn) (k1:∀ i1_4' Z',P1 i1_4' Z'->wX data ag aj aI aT az ao false bk kA aF false i1_4' Z' Nx Qr) (kn:∀ i1_4' Z',Pn i1_4' Z'->wK data ag aj aI aT az ao false bk kA aF false i1_4' Z' Nx Qr) (u1:¬ 0<aW:=by omega):xZ data ag aj aW aI aT az ao false bk kA eG aF dB Z Nx Qr :=
 sK [.g,.g,.g,.g,.g,.g,.b false,.g,.g,.cut 148 (wH data ag aj aI aT az ao false bk kA aF false aW) [vI data ag aj aI aT az ao false bk kA aF false P1,vH data ag aj aI aT az ao false bk kA aF false Pn]] (ai (zT u1) (ai (ai tt (ai (arf (wH data ag aj aI aT az ao false bk kA aF false aW)) hL)) (ai (kz1 k1) (ai (kz1 kn) trivial))))
theorem xEY (nx:Nx dU aI aT eF eE Z):wX data ag aj aI aT az ao eF eE kA aF eP dU Z Nx Qr :=
 sF 0 (dU,aI,aT,eF,eE) [] (fun _ f=>f) nx
theorem xTB {Qn:Int->Int->Bool->St->Prop} (h1:qm 97 [.slice data ag aj,iV fR,iV nL,iV aT,.func (.func az) ⟨[]⟩ ⟨ao⟩] Z (.tuple ⟨[]⟩) ZL) (nx:Qn (nL+1) fQ true ZL) (u1:kC<=kD:=by omega) (u2:I6 (nL+1):=by omega):zSA data ag aj aT az ao bA nL kD kE kC true fR fQ Z Qn :=
 kO 0 (nL+1,fQ,true) [.g,.g,.b true,.g,.g,.g,.g,.g,.g,.c (.tuple ⟨[]⟩) ZL,.g,.n (nL+1),.g] (fun _ f=>an3 (yE u1) h1 (w64 u2) f) nx
theorem xTA {Qn:Int->Int->Bool->St->Prop} (h1:qm 97 [.slice data ag aj,iV fR,iV nL,iV aT,.func (.func az) ⟨[]⟩ ⟨ao⟩] Z (.tuple ⟨[]⟩) ZL) (nx:Qn (nL+1) fQ false ZL) (u1:¬ kC<=kD:=by omega) (u2:I6 (nL+1):=by omega):zSA data ag aj aT az ao bA nL kD kE kC true fR fQ Z Qn :=
 kO 0 (nL+1,fQ,false) [.g,.g,.b false,.g,.g,.g,.g,.g,.g,.c (.tuple ⟨[]⟩) ZL,.g,.n (nL+1),.g] (fun _ f=>an3 (yH u1) h1 (w64 u2) f) nx
theorem xSZ {Qn:Int->Int->Bool->St->Prop} (h1:qm 97 [.slice data ag aj,iV (nL+1),iV fQ,iV aT,.func (.func az) ⟨[]⟩ ⟨ao⟩] Z (.tuple ⟨[]⟩) ZL) (nx:Qn fR nL true ZL) (u1:kC<=kE:=by omega) (u2:I6 (nL+1):=by omega):zSA data ag aj aT az ao bA nL kD kE kC false fR fQ Z Qn :=
 kO 0 (fR,nL,true) [.g,.g,.b true,.g,.g,.g,.n (nL+1),.g,.g,.g,.c (.tuple ⟨[]⟩) ZL,.g,.g] (fun _ f=>an3 (yE u1) (w64 u2) h1 f) nx
theorem xSY {Qn:Int->Int->Bool->St->Prop} (h1:qm 97 [.slice data ag aj,iV (nL+1),iV fQ,iV aT,.func (.func az) ⟨[]⟩ ⟨ao⟩] Z (.tuple ⟨[]⟩) ZL) (nx:Qn fR nL false ZL) (u1:¬ kC<=kE:=by omega) (u2:I6 (nL+1):=by omega):zSA data ag aj aT az ao bA nL kD kE kC false fR fQ Z Qn :=
 kO 0 (fR,nL,false) [.g,.g,.b false,.g,.g,.g,.n (nL+1),.g,.g,.g,.c (.tuple ⟨[]⟩) ZL,.g,.g] (fun _ f=>an3 (yH u1) (w64 u2) h1 f) nx
theorem xEX {Pn:Int->Int->Bool->St->Prop} (h1:qm 113 [.slice data ag aj,iV dU,iV aI,iV aF,.func (.func az) ⟨[]⟩ ⟨ao⟩] Z (.tuple ⟨[iV nL,.bool bA]⟩) ZCB) (h2:IntKind.wrap .i64 (Int.tdiv kA 8)=Int.tdiv kA 8) (hL:zSA data ag aj aT az ao bA nL (nL-dU) (aI-nL) (Int.tdiv kA 8) true dU aI ZCB Pn) (kn:∀ i1_5' i2_5' t10_5' Z',Pn i1_5' i2_5' t10_5' Z'->zZD data ag aj aT az ao bA nL (nL-dU) (aI-nL) (Int.tdiv kA 8) true i1_5' i2_5' t10_5' Z' Nx Qr) (u1:I6 (nL-dU):=by omega) (u2:I6 (aI-nL):=by omega) (u3:(nL-dU)<(aI-nL):=by omega):wK data ag aj aI aT az ao eF eE kA aF eP dU Z Nx Qr :=
 let s1:=yVG data ag aj aT az ao bA nL (nL-dU) (aI-nL) (Int.tdiv kA 8) true dU aI;sK [.g,.g,.g,.g,.g,.c (.tuple ⟨[iV nL,.bool bA]⟩) ZCB,.g,.g,.g,.g,.g,.g,.g,.g,.g,.n (nL-dU),.g,.g,.n (aI-nL),.g,.g,.g,.n (Int.tdiv kA 8),.g,.g,.g,.b true,.cut 148 s1 [zZA data ag aj aT az ao bA nL (nL-dU) (aI-nL) (Int.tdiv kA 8) true Pn]] (an5 h1 (w64 u1) (w64 u2) h2 (zR u3) (ai (ai tt (ai (arf s1) hL)) (ai (kz3 kn) trivial)))
theorem xEW {Pn:Int->Int->Bool->St->Prop} (h1:qm 113 [.slice data ag aj,iV dU,iV aI,iV aF,.func (.func az) ⟨[]⟩ ⟨ao⟩] Z (.tuple ⟨[iV nL,.bool bA]⟩) ZCB) (h2:IntKind.wrap .i64 (Int.tdiv kA 8)=Int.tdiv kA 8) (hL:zSA data ag aj aT az ao bA nL (nL-dU) (aI-nL) (Int.tdiv kA 8) false dU aI ZCB Pn) (kn:∀ i1_5' i2_5' t10_5' Z',Pn i1_5' i2_5' t10_5' Z'->zZD data ag aj aT az ao bA nL (nL-dU) (aI-nL) (Int.tdiv kA 8) false i1_5' i2_5' t10_5' Z' Nx Qr) (u1:I6 (nL-dU):=by omega) (u2:I6 (aI-nL):=by omega) (u3:¬ (nL-dU)<(aI-nL):=by omega):wK data ag aj aI aT az ao eF eE kA aF eP dU Z Nx Qr :=
 let s1:=yVG data ag aj aT az ao bA nL (nL-dU) (aI-nL) (Int.tdiv kA 8) false dU aI;sK [.g,.g,.g,.g,.g,.c (.tuple ⟨[iV nL,.bool bA]⟩) ZCB,.g,.g,.g,.g,.g,.g,.g,.g,.g,.n (nL-dU),.g,.g,.n (aI-nL),.g,.g,.g,.n (Int.tdiv kA 8),.g,.g,.g,.b false,.cut 148 s1 [zZA data ag aj aT az ao bA nL (nL-dU) (aI-nL) (Int.tdiv kA 8) false Pn]] (an5 h1 (w64 u1) (w64 u2) h2 (zT u3) (ai (ai tt (ai (arf s1) hL)) (ai (kz3 kn) trivial)))
theorem yET (nx:Nx fR fQ aT t10_5 bA Z):zZD data ag aj aT az ao bA nL kD kE kC ft fR fQ t10_5 Z Nx Qr :=
 sF 0 (fR,fQ,aT,t10_5,bA) [] (fun _ f=>f) nx
theorem xLG (hL:xLH data ag aj az ao a_1 b limit true true Z Pr) (kr:∀ Z',Pr Z'->yNZ data ag aj az ao Z' Q):qg 97 [.slice data ag aj,iV a_1,iV b,iV limit,.func (.func az) ⟨[]⟩ ⟨ao⟩] Z Q :=
 zG [.g,.g,.lf 148 (zYZ data ag aj az ao a_1 b limit true true) [zCJ data ag aj az ao Pr]] (kd (ai (ai tt (ai (arf (zYZ data ag aj az ao a_1 b limit true true)) hL)) (ai (kz0 kr) trivial)))
theorem yEV (nx:Q (.tuple ⟨[]⟩) Z):yNZ data ag aj az ao Z Q :=
 sK [] nx
theorem yMM (h1:zAM .u64 ((x_l:Int))=z1) (h2:qm 98 [.int .u64 z1] Z (iV n2) Z) (h3:qm 97 [.slice x x_l x_c,iV 0,iV (x_l:Int),iV n2,.func (.func az) ⟨[]⟩ ⟨ao⟩] Z (.tuple ⟨[]⟩) Z3) (nx:Q (.tuple ⟨[]⟩) Z3):qg 78 [.slice x x_l x_c,.func (.func az) ⟨[]⟩ ⟨ao⟩] Z Q :=
 zG [.g,.g,.g,.g,.g,.g,.n z1,.c (iV n2) Z,.g,.c (.tuple ⟨[]⟩) Z3] (kd (an3 h1 h2 h3 nx))
end
section
open Go.Sort (swp PermIn SortedIn Below SWO)
theorem xQ.perm {V:Rec->Prop} {d d':Array Rec} {a B:Nat} (h:xQ V d) (hB:B<=d.size) (hp:PermIn a B d d'):xQ V d':=by
 intro i hi;rw [hp.1] at hi;by_cases hr:a<=i/\i<B
 ·exact Go.Sort.permIn_all d d' a B V hB hp (fun j h1 h2=>h j (by omega)) i hr.1 hr.2
 ·rw [hp.2.1 i (by omega)];exact h i hi
section
variable {b c:Nat} {s:Option Nat} {g:FuncId} {gc:List Value} {lt:Rec->Rec->Bool} {V:Rec->Prop}
theorem xZZ (hS:SWO lt) (hc:Cmp g gc lt V):∀ (n:Nat) (Z:St) (d:Array Rec) (a B:Nat) (limit:Int),B-a<=n->Dt Z b s d->xQ V d->a<=B->B<=d.size->d.size<=60000->Below lt a B d->0<=limit/\limit<=100 ->
  ∃ d',PermIn a B d d'/\SortedIn lt a B d'/\uN 97 [.slice (some ⟨b,0,s⟩) d.size c,iV (a:Int),iV (B:Int),iV limit,.func (.func g) ⟨[]⟩ ⟨gc⟩] (.tuple ⟨[]⟩) Z b s d d':=by
 intro n;induction n using Nat.strongRecOn with
 | _ n ih =>
 intro Z d a B limit hn hd hv ha hB hsz hbel hlim;suffices hmain:zN Tryz.prog 97 [.slice (some ⟨b,0,s⟩) d.size c,iV (a:Int),iV (B:Int),iV limit,.func (.func g) ⟨[]⟩ ⟨gc⟩] Z.re fun v τ=>v=.tuple ⟨[]⟩/\∃ d',W Z τ b s d d'/\PermIn a B d d'/\SortedIn lt a B d' by
  obtain ⟨v,τ,hN,e,d',w,r1,r2⟩:=hmain
  exact ⟨d',r1,r2,uN.of hd ⟨v,τ,hN,e,w⟩⟩
 refine xLG (Pr:=fun τ=>∃ d',W Z τ b s d d'/\PermIn a B d d'/\SortedIn lt a B d') (yEW (Inv:=fun k i1 i2 i3 t10 t11 τ=>∃ (p q:Nat) (dk:Array Rec),i1=p/\i2=q/\k=q-p/\a<=p/\p<=q/\q<=B/\(0<=i3/\i3<=100)/\W Z τ b s d dk/\dk.size=d.size/\xQ V dk/\Below lt p q dk/\(∀ R,PermIn p q dk R->SortedIn lt p q R->PermIn a B d R/\SortedIn lt a B R)) ?_ (B-a) _ _ _ _ _ Z.re ⟨a,B,d,rfl,rfl,rfl,Nat.le_refl _,ha,Nat.le_refl _,hlim,W.start hd,rfl,hv,hbel,fun R h1 h2=>⟨h1,h2⟩⟩) (fun τ h=>yEV ⟨rfl,h⟩);rintro k i1 i2 i3 t10 t11 τ ⟨p,q,dk,rfl,rfl,hk,hap,hpq,hqB,hi3,w,hdk,hall,hbk,hJ⟩;suffices hgo:∀ (NX:Int->Int->Int->Bool->Bool->St->Prop) (QR:St->Prop),(∀ (p' q':Nat) (dk':Array Rec) (i3':Int) (t10' t11':Bool) (τ':St),q' - p' < k->a<=p'->p'<=q'->q'<=B->(0<=i3'/\i3'<=100)->W Z τ' b s d dk'->dk'.size=d.size->xQ V dk'->Below lt p' q' dk'->(∀ R,PermIn p' q' dk' R->SortedIn lt p' q' R->PermIn a B d R/\SortedIn lt a B R)->NX (p':Int) (q':Int) i3' t10' t11' τ') ->
   (∀ (τ':St) (d':Array Rec),W Z τ' b s d d'->PermIn a B d d'/\SortedIn lt a B d'->QR τ')->zSB (some ⟨b,0,s⟩) d.size c g gc (p:Int) (q:Int) i3 t10 t11 τ NX QR from
  hgo _ _ (fun p' q' dk' i3' t10' t11' τ' h1 h2 h3 h4 h5 h6 h7 h8 h9 h10=>⟨q' - p',h1,p',q',dk',rfl,rfl,rfl,h2,h3,h4,h5,h6,h7,h8,h9,h10⟩) (fun τ' d' h1 h2=>⟨d',h1,h2.1,h2.2⟩)
 intro NX QR hNX hQR;have hqs:q<=dk.size:=by omega
 by_cases h12:q-p<=12
 ·have hins:=Go.Sort.insertionSort_holds (lt:=lt) hS dk p q hpq hqs;obtain ⟨τ',k1,w1⟩:=w.call (xYO (c:=c) (a:=p) (B:=q) w.dt hc hall hqs (by omega) (by omega));rw [hdk] at k1;exact xAX k1 (hQR _ _ w1 (hJ _ hins.1 hins.2)) (by omega) (by omega)
 by_cases h0:i3=0
 ·have hheap:=Go.Sort.heapSort_holds (lt:=lt) hS dk p q hpq hqs;obtain ⟨τ',k1,w1⟩:=w.call (xUJ (c:=c) (a:=p) (B:=q) w.dt hc hall hpq hqs (by omega));rw [hdk] at k1;exact xTK k1 (hQR _ _ w1 (hJ _ hheap.1 hheap.2)) (by omega) (by omega) h0
 have k8:IntKind.wrap .i64 (Int.tdiv ((q:Int)-(p:Int)) 8)=Int.tdiv ((q:Int)-(p:Int)) 8:=by
  have e8:Int.tdiv ((q:Int)-(p:Int)) 8=(((q-p) / 8:Nat):Int):=by rw [Int.tdiv_eq_ediv_of_nonneg (by omega)];omega
  rw [<- vV,e8,zXL (by omega) (by omega)]
 have stepN:∀ (i3':Int) (t10 t11:Bool) (x:Nat) (h97:Bool) (d3:Array Rec) (τ3:St),(0<=i3'/\i3'<=100)->p<=x->x<q->W Z τ3 b s d d3->PermIn p q dk d3->xQ V d3 ->
   wK (some ⟨b,0,s⟩) d.size c (q:Int) i3' g gc t10 t11 ((q:Int)-(p:Int)) (x:Int) h97 (p:Int) τ3 NX QR:=by
  intro i3' t10 t11 x h97 d3 τ3 hi3' hx1 hx2 w3 hp3 hall3
  have hd3:d3.size=d.size:=by rw [hp3.1,hdk]
  have hq3:q<=d3.size:=by omega
  have hb3:Below lt p q d3:=Go.Sort.Below.permA Go.Sort.permIn_all hqs hbk hp3
  have hJ3:∀ R,PermIn p q d3 R->SortedIn lt p q R->PermIn a B d R/\SortedIn lt a B R:=fun R h1 h2=>hJ R (Go.Sort.permIn_trans _ _ _ p q hp3 h1) h2
  obtain ⟨mid,hmid⟩:∃ mid,mid=(Go.Sort.partition lt d3 p q x).1:=⟨_,rfl⟩
  obtain ⟨ap,hap'⟩:∃ ap,ap=(Go.Sort.partition lt d3 p q x).2.1:=⟨_,rfl⟩
  obtain ⟨d4,hd4⟩:∃ d4,d4=(Go.Sort.partition lt d3 p q x).2.2:=⟨_,rfl⟩
  have hpt:Go.Sort.partition lt d3 p q x=(mid,ap,d4):=by rw [hmid,hap',hd4]
  obtain ⟨m1,m2,m3,m4,m5,m6,m7⟩:=Go.Sort.round_part hS (Go.Sort.partition_holds lt) hx1 hx2 hq3 hb3 hpt
  have hpc:=xYB (c:=c) w3.dt hc hall3 hx1 hx2 hq3 (by omega)
  rw [<- hmid,<- hap',<- hd4] at hpc
  obtain ⟨τ4,kp,w4⟩:=w3.call hpc
  rw [hd3] at kp
  have hd4s:d4.size=d.size:=by omega
  have hall4:xQ V d4:=by
   have:=(Go.Sort.partition_holds lt hS d3 p q x hx1 hx2 hq3).2.2.1;rw [hpt] at this;exact hall3.perm hq3 this
  by_cases hlr:mid-p<q-mid
  ·obtain ⟨L,hL1,hL2,hL3⟩:=ih (mid-p) (by omega) τ4 d4 p mid i3' (Nat.le_refl _) w4.dt hall4 m1 (by omega) (by omega) m4 hi3';obtain ⟨τ5,k5,w5⟩:=w4.call hL3;rw [hd4s] at k5;obtain ⟨n1,n2⟩:=m6 L hL1 hL2;have go:∀ t,NX ((mid:Int)+1) (q:Int) i3' t ap τ5:=fun t=>by
    rw [show (mid:Int)+1=((mid+1:Nat):Int) by omega];exact hNX _ _ L _ _ _ _ (by omega) (by omega) (by omega) hqB hi3' w5 (by rw [hL1.1,hd4s]) (hall4.perm (by omega) hL1) n1 (fun R h1 h2=>hJ3 R (n2 R h1 h2).1 (n2 R h1 h2).2)
   refine xEX kp k8 (Pn:=fun i1 i2 t τ'=>i1=(mid:Int)+1/\i2=(q:Int)/\τ'=τ5) ?_ (fun i1 i2 t τ' ⟨e1,e2,e3⟩=>by subst e1 e2 e3;exact yET (go t)) (by omega);by_cases hT:Int.tdiv ((q:Int)-(p:Int)) 8<=(mid:Int)-(p:Int)
   ·exact xTB k5 ⟨rfl,rfl,rfl⟩ hT
   ·exact xTA k5 ⟨rfl,rfl,rfl⟩ hT
  ·obtain ⟨L,hL1,hL2,hL3⟩:=ih (q-(mid+1)) (by omega) τ4 d4 (mid+1) q i3' (Nat.le_refl _) w4.dt hall4 (by omega) (by omega) (by omega) m5 hi3';obtain ⟨τ5,k5,w5⟩:=w4.call hL3;rw [hd4s,show ((mid+1:Nat):Int)=(mid:Int)+1 by omega] at k5;obtain ⟨n1,n2⟩:=m7 L hL1 hL2;have go:∀ t,NX (p:Int) (mid:Int) i3' t ap τ5:=fun t=>hNX _ _ L _ _ _ _ (by omega) (by omega) (by omega) (by omega) hi3' w5 (by rw [hL1.1,hd4s]) (hall4.perm (by omega) hL1) n1 (fun R h1 h2=>hJ3 R (n2 R h1 h2).1 (n2 R h1 h2).2)
   refine xEW kp k8 (Pn:=fun i1 i2 t τ'=>i1=(p:Int)/\i2=(mid:Int)/\τ'=τ5) ?_ (fun i1 i2 t τ' ⟨e1,e2,e3⟩=>by subst e1 e2 e3;exact yET (go t)) (by omega);by_cases hT:Int.tdiv ((q:Int)-(p:Int)) 8<=(q:Int)-(mid:Int)
   ·exact xSZ k5 ⟨rfl,rfl,rfl⟩ hT
   ·exact xSY k5 ⟨rfl,rfl,rfl⟩ hT
 have stepE:∀ (i3':Int) (t10 t11:Bool) (x:Nat) (d3:Array Rec) (τ3:St),(0<=i3'/\i3'<=100)->p<=x->x<q->W Z τ3 b s d d3->PermIn p q dk d3->xQ V d3->0<p->lt d3[p-1]! d3[x]! = false ->
   ∃ (me:Nat) (τ5:St),zD Tryz.prog 112 [.slice (some ⟨b,0,s⟩) d.size c,iV (p:Int),iV (q:Int),iV (x:Int),.func (.func g) ⟨[]⟩ ⟨gc⟩] τ3 (iV (me:Int)) τ5/\NX (me:Int) (q:Int) i3' t10 t11 τ5:=by
  intro i3' t10 t11 x d3 τ3 hi3' hx1 hx2 w3 hp3 hall3 hp0 hl
  have hd3:d3.size=d.size:=by rw [hp3.1,hdk]
  have hq3:q<=d3.size:=by omega
  have hb3:Below lt p q d3:=Go.Sort.Below.permA Go.Sort.permIn_all hqs hbk hp3
  have hJ3:∀ R,PermIn p q d3 R->SortedIn lt p q R->PermIn a B d R/\SortedIn lt a B R:=fun R h1 h2=>hJ R (Go.Sort.permIn_trans _ _ _ p q hp3 h1) h2
  obtain ⟨me,hme⟩:∃ me,me=(Go.Sort.partitionEqual lt d3 p q x).1:=⟨_,rfl⟩
  obtain ⟨de,hde⟩:∃ de,de=(Go.Sort.partitionEqual lt d3 p q x).2:=⟨_,rfl⟩
  have hpe:Go.Sort.partitionEqual lt d3 p q x=(me,de):=by rw [hme,hde]
  obtain ⟨e1,e2,e3,e4,e5⟩:=Go.Sort.round_eq hS (Go.Sort.partitionEqual_holds lt) hp0 hx1 hx2 hq3 hb3 hl hpe
  have hpc:=xMF (c:=c) w3.dt hc hall3 hx1 hx2 hq3 (by omega)
  rw [<- hme,<- hde] at hpc
  obtain ⟨τ5,k5,w5⟩:=w3.call hpc
  rw [hd3] at k5
  have hge:∀ i,p<=i->i<q->lt d3[i]! d3[x]! = false:=fun i hi hi'=>by
   rcases hb3 with h0 | hB'
   ·omega
   ·exact hS.ntrans _ _ _ (hB' i hi hi') hl
  have hperm:=(Go.Sort.partitionEqual_holds lt hS d3 p q x hx1 hx2 hq3 hge).2.2.1
  rw [hpe] at hperm
  exact ⟨me,τ5,k5,hNX _ _ de _ _ _ _ (by omega) (by omega) e2 hqB hi3' w5 (by omega) (hall3.perm hq3 hperm) e4 (fun R h1 h2=>hJ3 R (e5 R h1 h2).1 (e5 R h1 h2).2)⟩
 have stepK:∀ (i3':Int) (t10 t11 h56:Bool) (x:Nat) (i14:Int) (d2:Array Rec) (τ2:St),(0<=i3'/\i3'<=100)->p<=x->x<q->W Z τ2 b s d d2->PermIn p q dk d2->xQ V d2 ->
   xZ (some ⟨b,0,s⟩) d.size c (p:Int) (q:Int) i3' g gc t10 t11 ((q:Int)-(p:Int)) h56 (x:Int) i14 τ2 NX QR:=by
  intro i3' t10 t11 h56 x i14 d2 τ2 hi3' hx1 hx2 w2 hp2 hall2
  have hd2:d2.size=d.size:=by rw [hp2.1,hdk]
  have hq2:q<=d2.size:=by omega
  have hb2:Below lt p q d2:=Go.Sort.Below.permA Go.Sort.permIn_all hqs hbk hp2
  have out1:∀ (t10 t11 h97:Bool) (i1:Int) (τ':St),NX i1 (q:Int) i3' t10 t11 τ'->wX (some ⟨b,0,s⟩) d.size c (q:Int) i3' g gc t10 t11 ((q:Int)-(p:Int)) (x:Int) h97 i1 τ' NX QR:=fun t10 t11 h97 i1 τ' h=>xEY h
  have eq:∀ (t10 t11:Bool) (d3:Array Rec) (τ3:St),W Z τ3 b s d d3->PermIn p q dk d3->xQ V d3->0<p->lt d3[p-1]! d3[x]! = false->uW (some ⟨b,0,s⟩) d.size c (q:Int) i3' g gc t10 t11 ((q:Int)-(p:Int)) (x:Int) true (p:Int) τ3 (fun i1 τ'=>NX i1 (q:Int) i3' t10 t11 τ') (fun i1 τ'=>i1=(p:Int)/\τ'=τ3):=by
   intro t10 t11 d3 τ3 w3 hp3 hall3 hp0 hl;obtain ⟨me,τ5,k5,h5⟩:=stepE i3' t10 t11 x d3 τ3 hi3' hx1 hx2 w3 hp3 hall3 hp0 hl;exact xTD k5 h5
  have nq:∀ (t10 t11:Bool) (τ3:St),uW (some ⟨b,0,s⟩) d.size c (q:Int) i3' g gc t10 t11 ((q:Int)-(p:Int)) (x:Int) false (p:Int) τ3 (fun i1 τ'=>NX i1 (q:Int) i3' t10 t11 τ') (fun i1 τ'=>i1=(p:Int)/\τ'=τ3):=fun t10 t11 τ3=>xTC ⟨rfl,rfl⟩
  have outN:∀ (t10 t11 h97:Bool) (d3:Array Rec) (τ3:St),W Z τ3 b s d d3->PermIn p q dk d3->xQ V d3->∀ (i1:Int) (τ':St),(i1=(p:Int)/\τ'=τ3)->wK (some ⟨b,0,s⟩) d.size c (q:Int) i3' g gc t10 t11 ((q:Int)-(p:Int)) (x:Int) h97 i1 τ' NX QR:=by
   rintro t10 t11 h97 d3 τ3 w3 hp3 hall3 i1 τ' ⟨rfl,rfl⟩;exact stepN i3' t10 t11 x h97 d3 _ hi3' hx1 hx2 w3 hp3 hall3
  have ldp:∀ (d3:Array Rec) (τ3:St),W Z τ3 b s d d3->d3.size=d.size->0<p->zB Tryz.prog τ3 45 (zL ⟨b,0,s⟩ (Int.toNat ((p:Int)-1)*3))=some (zER d3[p-1]!):=fun d3 τ3 w3 hd3 hp0=>w3.dt.ldN (by omega) (by omega)
  have ldx:∀ (d3:Array Rec) (τ3:St),W Z τ3 b s d d3->d3.size=d.size->zB Tryz.prog τ3 45 (zL ⟨b,0,s⟩ (Int.toNat (x:Int)*3))=some (zER d3[x]!):=fun d3 τ3 w3 hd3=>w3.dt.ldN rfl (by omega)
  by_cases hp0:0<p
  ·cases t10 with
   | false =>
    obtain ⟨m,cm,⟨g1,hl⟩ | ⟨g1,hl⟩⟩:=hc.at_ (τ:=τ2) hall2 (i:=p-1) (j:=x) (by omega) (by omega)
    ·exact xFB (ldp _ _ w2 hd2 hp0) (ldx _ _ w2 hd2) cm (nq _ _ _) (fun i1 τ' h=>out1 _ _ _ _ _ h) (outN _ _ _ _ _ w2 hp2 hall2)
    ·exact xFA (ldp _ _ w2 hd2 hp0) (ldx _ _ w2 hd2) cm (eq _ _ _ _ w2 hp2 hall2 hp0 hl) (fun i1 τ' h=>out1 _ _ _ _ _ h) (outN _ _ _ _ _ w2 hp2 hall2)
   | true =>
   cases t11 with
   | false =>
    obtain ⟨m,cm,⟨g1,hl⟩ | ⟨g1,hl⟩⟩:=hc.at_ (τ:=τ2) hall2 (i:=p-1) (j:=x) (by omega) (by omega)
    ·exact xFE (ldp _ _ w2 hd2 hp0) (ldx _ _ w2 hd2) cm (nq _ _ _) (fun i1 τ' h=>out1 _ _ _ _ _ h) (outN _ _ _ _ _ w2 hp2 hall2)
    ·exact xFD (ldp _ _ w2 hd2 hp0) (ldx _ _ w2 hd2) cm (eq _ _ _ _ w2 hp2 hall2 hp0 hl) (fun i1 τ' h=>out1 _ _ _ _ _ h) (outN _ _ _ _ _ w2 hp2 hall2)
   | true =>
   by_cases h14:i14=1;rotate_left
   ·obtain ⟨m,cm,⟨g1,hl⟩ | ⟨g1,hl⟩⟩:=hc.at_ (τ:=τ2) hall2 (i:=p-1) (j:=x) (by omega) (by omega)
    ·exact xFH (ldp _ _ w2 hd2 hp0) (ldx _ _ w2 hd2) cm (nq _ _ _) (fun i1 τ' h=>out1 _ _ _ _ _ h) (outN _ _ _ _ _ w2 hp2 hall2)
    ·exact xFG (ldp _ _ w2 hd2 hp0) (ldx _ _ w2 hd2) cm (eq _ _ _ _ w2 hp2 hall2 hp0 hl) (fun i1 τ' h=>out1 _ _ _ _ _ h) (outN _ _ _ _ _ w2 hp2 hall2)
   have hpi:=Go.Sort.partialInsertionSort_holds (lt:=lt) hS d2 p q (by omega) hq2 hb2;have hpc:=xBL (c:=c) (a:=p) (B:=q) w2.dt hc hall2 (by omega) hq2 (by omega);obtain ⟨R,hR⟩:∃ R,R=Go.Sort.partialInsertionSort lt d2 p q:=⟨_,rfl⟩;rw [<- hR] at hpi hpc;obtain ⟨τ3,k3,w3⟩:=w2.call hpc;rw [hd2] at k3;have hp3:=Go.Sort.permIn_trans _ _ _ p q hp2 hpi.1;have hall3:=hall2.perm hq2 hpi.1;have hd3:R.1.size=d.size:=by rw [hp3.1,hdk]
   cases hR2:R.2 with
   | true=>rw [hR2] at k3 hpi;exact yEU k3 (hQR _ _ w3 (hJ _ hp3 (hpi.2 rfl))) h14
   | false =>
    rw [hR2] at k3;obtain ⟨m,cm,⟨g1,hl⟩ | ⟨g1,hl⟩⟩:=hc.at_ (τ:=τ3) hall3 (i:=p-1) (j:=x) (by omega) (by omega)
    ·exact xFK k3 (ldp _ _ w3 hd3 hp0) (ldx _ _ w3 hd3) cm (nq _ _ _) (fun i1 τ' h=>out1 _ _ _ _ _ h) (outN _ _ _ _ _ w3 hp3 hall3)
    ·exact xFJ k3 (ldp _ _ w3 hd3 hp0) (ldx _ _ w3 hd3) cm (eq _ _ _ _ w3 hp3 hall3 hp0 hl) (fun i1 τ' h=>out1 _ _ _ _ _ h) (outN _ _ _ _ _ w3 hp3 hall3)
  ·cases t10 with
   | false=>exact xEZ (nq _ _ _) (fun i1 τ' h=>out1 _ _ _ _ _ h) (outN _ _ _ _ _ w2 hp2 hall2)
   | true =>
   cases t11 with
   | false=>exact xFC (nq _ _ _) (fun i1 τ' h=>out1 _ _ _ _ _ h) (outN _ _ _ _ _ w2 hp2 hall2)
   | true =>
   by_cases h14:i14=1;rotate_left
   ·exact xFF (nq _ _ _) (fun i1 τ' h=>out1 _ _ _ _ _ h) (outN _ _ _ _ _ w2 hp2 hall2) h14
   have hpi:=Go.Sort.partialInsertionSort_holds (lt:=lt) hS d2 p q (by omega) hq2 hb2;have hpc:=xBL (c:=c) (a:=p) (B:=q) w2.dt hc hall2 (by omega) hq2 (by omega);obtain ⟨R,hR⟩:∃ R,R=Go.Sort.partialInsertionSort lt d2 p q:=⟨_,rfl⟩;rw [<- hR] at hpi hpc;obtain ⟨τ3,k3,w3⟩:=w2.call hpc;rw [hd2] at k3;have hp3:=Go.Sort.permIn_trans _ _ _ p q hp2 hpi.1;have hall3:=hall2.perm hq2 hpi.1;cases hR2:R.2 with
   | true=>rw [hR2] at k3 hpi;exact yEU k3 (hQR _ _ w3 (hJ _ hp3 (hpi.2 rfl))) h14
   | false =>
    rw [hR2] at k3;exact xFI k3 (nq _ _ _) (fun i1 τ' h=>out1 _ _ _ _ _ h) (outN _ _ _ _ _ w3 hp3 hall3) h14
 have stepP:∀ (i3':Int) (t10 t11 h39:Bool) (d1:Array Rec) (τ1:St),(0<=i3'/\i3'<=100)->W Z τ1 b s d d1->PermIn p q dk d1->xQ V d1 ->
   zJU (some ⟨b,0,s⟩) d.size c (p:Int) (q:Int) g gc t10 t11 ((q:Int)-(p:Int)) h39 i3' τ1 NX QR:=by
  intro i3' t10 t11 h39 d1 τ1 hi3' w1 hp1 hall1
  have hd1:d1.size=d.size:=by rw [hp1.1,hdk]
  have hq1:q<=d1.size:=by omega
  obtain ⟨x,kk,hx1,hx2,kc⟩:=xHY (c:=c) (a:=p) (B:=q) w1.dt hc hall1 (by omega) hq1 (by omega)
  rw [hd1] at kc
  have go:∀ (i13 i14:Int) (h56:Bool) (τ2:St),(∃ (x:Nat) (d2:Array Rec),i13=x/\p<=x/\x<q/\W Z τ2 b s d d2/\PermIn p q dk d2/\xQ V d2)->xZ (some ⟨b,0,s⟩) d.size c (p:Int) (q:Int) i3' g gc t10 t11 ((q:Int)-(p:Int)) h56 i13 i14 τ2 NX QR:=by
   rintro i13 i14 h56 τ2 ⟨x,d2,rfl,hx1,hx2,w2,hp2,hall2⟩;exact stepK _ _ _ _ _ _ _ _ hi3' hx1 hx2 w2 hp2 hall2
  by_cases hk2:kk=2
  ·have hrev:=Go.Sort.reverseRange_holds (α:=Rec) d1 p q hpq hq1;obtain ⟨τ2,k2,w2⟩:=w1.call (xXO (c:=c) (g:=g) (gc:=gc) (a:=p) (B:=q) w1.dt hall1 (by omega) hq1 (by omega));rw [hd1] at k2;exact xFM kc (Pn:=fun i13 i14 τ2=>∃ (x:Nat) (d2:Array Rec),i13=x/\p<=x/\x<q/\W Z τ2 b s d d2/\PermIn p q dk d2/\xQ V d2) (xTF k2 ⟨(q-1)-(x-p),_,by omega,by omega,by omega,w2,Go.Sort.permIn_trans _ _ _ p q hp1 hrev,hall1.perm hq1 hrev⟩ (by omega) (by omega) (by omega)) (fun i13 i14 τ2 h=>go _ _ _ _ h) hk2
  ·exact xFL kc (Pn:=fun i13 i14 τ2=>∃ (x:Nat) (d2:Array Rec),i13=x/\p<=x/\x<q/\W Z τ2 b s d d2/\PermIn p q dk d2/\xQ V d2) (xTE ⟨x,d1,rfl,hx1,hx2,w1,hp1,hall1⟩) (fun i13 i14 τ2 h=>go _ _ _ _ h) hk2
 cases t10 with
 | true=>exact xTJ (Pn:=fun i3' τ'=>(0<=i3'/\i3'<=100)/\∃ d1,W Z τ' b s d d1/\PermIn p q dk d1/\xQ V d1) (xTG ⟨hi3,dk,w,Go.Sort.permIn_refl _ _ _,hall⟩) (fun i3' τ' ⟨h1,d1,h2,h3,h4⟩=>stepP _ _ _ _ _ _ h1 h2 h3 h4) (by omega) (by omega) h0
 | false =>
  obtain ⟨d1,hp1,hall1,hs1⟩:=xPW (c:=c) (g:=g) (gc:=gc) (a:=p) (B:=q) w.dt hpq hqs (by omega) hall;obtain ⟨τ1,k1,w1⟩:=w.call hs1;rw [hdk] at k1;exact xTI (Pn:=fun i3' τ'=>(0<=i3'/\i3'<=100)/\∃ d1,W Z τ' b s d d1/\PermIn p q dk d1/\xQ V d1) (xTH k1 ⟨by omega,d1,w1,hp1,hall1⟩ (by omega)) (fun i3' τ' ⟨h1,d1,h2,h3,h4⟩=>stepP _ _ _ _ _ _ h1 h2 h3 h4) (by omega) (by omega) h0
end
end
section
open Go.Sort (swp PermIn SortedIn Below SWO)
section
variable {Z:St} {b c:Nat} {s:Option Nat} {d:Array Rec} {g:FuncId} {gc:List Value} {lt:Rec->Rec->Bool} {V:Rec->Prop}
theorem xSD (hS:SWO lt) (hc:Cmp g gc lt V) (hd:Dt Z b s d) (hv:xQ V d) (hsz:d.size<=60000) :
  ∃ d',PermIn 0 d.size d d'/\SortedIn lt 0 d.size d'/\uN 78 [.slice (some ⟨b,0,s⟩) d.size c,.func (.func g) ⟨[]⟩ ⟨gc⟩] (.tuple ⟨[]⟩) Z b s d d':=by
 obtain ⟨n,n1,n2,n3⟩:=yZK (Z:=Z.re) (x:=d.size) (by omega);obtain ⟨d',p1,p2,p3⟩:=xZZ (c:=c) (s:=s) hS hc d.size Z.re d 0 d.size (n:Int) (by omega) hd hv (Nat.zero_le _) (Nat.le_refl _) hsz (.inl rfl) (by omega);have w0:W Z Z.re b s d d:=W.start hd;obtain ⟨τ',k1,w1⟩:=w0.call p3;exact ⟨d',p1,p2,uN.of hd (yMM (z1:=(d.size:Int)) (by rw [zXK];omega) n3 k1 ⟨rfl,w1⟩)⟩
theorem xNT:zD Tryz.prog 106 [.slice none 0 c,iV 0,iV 0,.func (.func g) ⟨[]⟩ ⟨gc⟩] Z (.tuple ⟨[]⟩) Z :=
 zN.pure (xBU (P0:=fun τ=>τ=Z.re) (yAC (Inv:=fun k i τ=>i=1/\τ=Z.re) (fun k i τ h=>by obtain ⟨rfl,rfl⟩:=h;exact yPI rfl (by omega)) 0 _ Z.re ⟨rfl,rfl⟩) (fun τ h=>yAB ⟨rfl,by rw [h];exact Nat.le_refl _⟩) (by omega))
theorem xTL {n:Int}:zD Tryz.prog 97 [.slice none 0 c,iV 0,iV 0,iV n,.func (.func g) ⟨[]⟩ ⟨gc⟩] Z (.tuple ⟨[]⟩) Z :=
 zN.pure (xLG (Pr:=fun τ=>τ=Z.re) (yEW (Inv:=fun k i1 i2 i3 t10 t11 τ=>i1=0/\i2=0/\τ=Z.re) (fun k i1 i2 i3 t10 t11 τ h=>by obtain ⟨rfl,rfl,rfl⟩:=h;exact xAX xNT rfl (by omega) (by omega)) 0 _ _ _ _ _ Z.re ⟨rfl,rfl,rfl⟩) (fun τ h=>yEV ⟨rfl,by rw [h];exact Nat.le_refl _⟩))
theorem xDJ:zD Tryz.prog 78 [.slice none 0 c,.func (.func g) ⟨[]⟩ ⟨gc⟩] Z (.tuple ⟨[]⟩) Z:=by
 obtain ⟨n,n1,n2,n3⟩:=yZK (Z:=Z.re) (x:=0) (by omega);exact zN.pure (yMM (x_l:=0) (z1:=((0:Nat):Int)) (by rw [zXK];rfl) n3 xTL ⟨rfl,Nat.le_refl _⟩)
end
end
abbrev zMQ (s:Std):Value:=.agg ⟨zK s.free s.row s.used s.day⟩
structure StOk (s:Std):Prop where
 free:-1000000<=s.free/\s.free<=1000000
 row:0<=s.row/\s.row<=1000000
 used:-1000000<=s.used/\s.used<=1000000
 day:-1<=s.day/\s.day<=6
structure DtOk (d:Dty):Prop where
 day:0<=d.day/\d.day<=6
 on:0<=d.on/\d.on<=1439
section
variable {Z:St} {w:Wk} {p q:Option Addr} {l m c d:Nat} {k:Nat}
theorem xPR {p:Option Addr} {l c:Nat} {xs:List Int} {n:Int} (h:yD Z p l xs) (hl:l<=1073741824):zD Pg 58 [.slice p l c,iV n] Z (.bool (xs.contains n)) Z:=by
 have h1:=(SlV.re h).re;have e1:=h.len;have ci:∃ r:Int,zD Pg 83 [.slice p l c,iV n] Z.re (iV r) Z.re/\(0<=r↔n∈xs):=by
  have key:zN Pg 83 [.slice p l c,iV n] Z.re.re fun v s=>(∃ r:Int,v=iV r/\(0<=r↔n∈xs))/\s=Z.re.re:=by
   refine xNV (yPM (Inv:=fun k i τ=>τ=Z.re.re/\∃ j:Nat,i=j/\j+k=l/\n ∉ xs.take j) (Qr:=fun i τ=>τ=Z.re.re/\0<=i/\n∈xs) (Q0:=fun τ=>τ=Z.re.re/\n ∉ xs) ?_ l 0 _ ⟨rfl,0,rfl,by omega,by simp⟩) ?_ ?_
   ·rintro k i τ ⟨rfl,j,rfl,hk,he⟩;by_cases hj:j<l
    ·obtain ⟨a,rfl,x,hx,l1⟩:=wS h1 hj;by_cases hxy:n=x
     ·exact xGQ l1 ⟨rfl,by omega,hxy ▸ List.mem_of_getElem? hx⟩ (by omega) (by omega) hxy
     ·exact xGP l1 ⟨k-1,by omega,rfl,j+1,by omega,by omega,by rw [wA hx,List.mem_append];simp;exact ⟨he,hxy⟩⟩ (by omega) (by omega) hxy (by omega)
    ·rw [List.take_of_length_le (by omega)] at he;exact xGO ⟨rfl,he⟩ (by omega)
   ·rintro i τ ⟨rfl,h2,hn⟩;exact yPK ⟨⟨i,rfl,by simp [h2,hn]⟩,rfl⟩
   ·rintro τ ⟨rfl,hn⟩;exact yPL ⟨⟨-1,rfl,by simp [hn]⟩,rfl⟩
  obtain ⟨v,s,h3,⟨r,rfl,h2⟩,rfl⟩:=key;exact ⟨r,zRZ h3 (Nat.le_refl _) rfl,h2⟩
 obtain ⟨r,c1,c2⟩:=ci;by_cases hn:n∈xs
 ·rw [show xs.contains n=true by simp [hn]];exact (xVA c1 ⟨rfl,Nat.le_refl _⟩ (c2.2 hn)).pure
 ·rw [show xs.contains n=false by simp [hn]];exact (xUZ c1 ⟨rfl,Nat.le_refl _⟩ (fun h=>hn (c2.1 h))).pure
theorem yIF {s:Std} {x:Dty} {e:Int} (hs:StOk s) (hx:DtOk x) (he:-1000000<=e/\e<=1000000):zD Pg 77 [zMQ s,zAL x,iV e] Z (zMQ (take s x e)) Z:=by
 have h1:=hs.used;have h2:=hs.row;have h3:=hs.day;have h4:=hx.day;have h5:=hx.on;unfold take;by_cases e1:s.day=x.day
 ·rw [if_pos e1];exact (xJR ⟨rfl,by simp⟩ (by omega) (by omega) e1).pure
 ·rw [if_neg e1];by_cases e2:s.day=x.day-1
  ·rw [if_pos e2];exact (xJP ⟨rfl,by simp⟩ (by omega) (by omega) e1 (by omega) e2 (by omega) (by omega) (by omega)).pure
  ·rw [if_neg e2];exact (xJQ ⟨rfl,by simp⟩ (by omega) (by omega) e1 (by omega) e2 (by omega) (by omega)).pure
theorem xWU (h:WkP Z 85 88 w p l q m) (hsh:zAG w) (hk:k<m) {s:Std} {x:Dty} (hs:StOk s) (hx:DtOk x) {n:Nat} (hn:n<5):zD Pg (92+n) [.agg ⟨wkc w.days p l c q m d w.rest w.run w.hours⟩,iV (k:Int),zAL x,zMQ s] Z (.bool (holds w n (drv w k) x s)) Z:=by
 have h1:=hs.free;have h4:=hx.day;have h5:=hx.on;have L:Le Z (((Z.re.row (wkc w.days p l c q m d w.rest w.run w.hours) 6).row (zF x.day x.on x.lo x.hi x.route) 5).row (zK s.free s.row s.used s.day) 4):=(((le0 Z).trans (Le.row _ _ _)).trans (Le.row _ _ _)).trans (Le.row _ _ _);obtain ⟨a,rfl,p',l',c',r',n',d',s',j',e',_,hkn,hlv,_,hf⟩:=(h.le L).vld yRY zRT hk;have hm:=h.len.2;have hmem:drv w k∈w.drivers:=by
  unfold drv;rw [List.getD_eq_getElem?_getD,List.getElem?_eq_getElem (by omega)];exact List.getElem_mem _
 have hsx:=hsh _ hmem;match n,hn with
 | 0,_=>exact (xEN (hf 0 _ rfl 26 yZ) (xPR hkn (by have:=hkn.len;omega)) ⟨rfl,Nat.le_refl _⟩ (by omega)).pure
 | 1,_ =>
  have cc:=xPR (c:=d') (n:=x.day) hlv (by have:=hlv.len;omega);show zD Pg 93 _ Z (.bool (!(drv w k).leave.contains x.day)) Z;cases hc:(drv w k).leave.contains x.day with
  | true=>rw [hc] at cc;exact (xKZ (hf 1 _ rfl 26 yZ) cc ⟨rfl,Nat.le_refl _⟩ (by omega)).pure
  | false=>rw [hc] at cc;exact (xKY (hf 1 _ rfl 26 yZ) cc ⟨rfl,Nat.le_refl _⟩ (by omega)).pure
 | 2,_ =>
  show zD Pg 94 _ Z (.bool (decide (s.day≠x.day))) Z;by_cases e:s.day=x.day
  ·rw [decide_eq_false (by simp [e])];exact (yVA ⟨rfl,Nat.le_refl _⟩ e).pure
  ·rw [decide_eq_true e];exact (yVB ⟨rfl,Nat.le_refl _⟩ e).pure
 | 3,_ =>
  show zD Pg 95 _ Z (.bool (decide (s.day=x.day) || decide (w.rest<=x.day*1440+x.on-s.free))) Z;by_cases e:s.day=x.day
  ·rw [decide_eq_true e];exact (yVE ⟨rfl,Nat.le_refl _⟩ e).pure
  ·rw [decide_eq_false e,Bool.false_or];by_cases e2:w.rest<=x.day*1440+x.on-s.free
   ·rw [decide_eq_true e2];exact (yVD ⟨rfl,Nat.le_refl _⟩ e (by omega) (by omega) (by omega) e2).pure
   ·rw [decide_eq_false e2];exact (yVC ⟨rfl,Nat.le_refl _⟩ e (by omega) (by omega) (by omega) e2).pure
 | 4,_ =>
  show zD Pg 96 _ Z (.bool (decide (s.day=x.day) || decide ((take s x x.on).row<=w.run))) Z;by_cases e:s.day=x.day
  ·rw [decide_eq_true e];exact (xEQ ⟨rfl,Nat.le_refl _⟩ e).pure
  ·rw [decide_eq_false e,Bool.false_or];have ct:=yIF (Z:=((Z.re.row (wkc w.days p l c (some a) m d w.rest w.run w.hours) 6).row (zF x.day x.on x.lo x.hi x.route) 5).row (zK s.free s.row s.used s.day) 4) (e:=x.on) hs hx (by omega);by_cases e2:(take s x x.on).row<=w.run
   ·rw [decide_eq_true e2];exact (xEP ct ⟨rfl,Nat.le_refl _⟩ e e2).pure
   ·rw [decide_eq_false e2];exact (xEO ct ⟨rfl,Nat.le_refl _⟩ e e2).pure
end
section
open Go.Sort (swp PermIn SortedIn Below SWO)
def bLt (x y:Rec):Prop:=x.a<y.a\/x.a=y.a/\(x.k<y.k\/x.k=y.k/\x.b<y.b)
instance (x y:Rec):Decidable (bLt x y):=by unfold bLt;infer_instance
def yRT (x y:Rec):Bool:=decide (bLt x y)
theorem xZV:SWO yRT:=by
 refine ⟨fun x=>?_,fun x y z h1 h2=>?_,fun x y z h1 h2=>?_⟩
 ·simp only [yRT,decide_eq_false_iff_not];unfold bLt;omega
 ·simp only [yRT,decide_eq_true_eq] at *;unfold bLt at *;omega
 ·simp only [yRT,decide_eq_false_iff_not] at *;unfold bLt at *;omega
def BOk (x:Rec):Prop:=0<=x.k/\x.k<=5/\0<=x.a/\x.a<=100/\0<=x.b/\x.b<=100
section
variable {Z:St}
theorem xVD {x y z:Int} {b c:Nat} (o:Own Z b [iV x,iV y,iV z] 1):zD Tryz.prog 80 [.slice (some ⟨b,0,none⟩) 3 c] Z (iV (if x=0 then (if y=0 then z else y) else x)) Z:=by
 have h0:=o.re;have l0:=h0.ldI (P:=Tryz.prog) (t:=3) (i:=0) (v:=iV x) zU rfl;have l1:=h0.ldI (P:=Tryz.prog) (t:=3) (i:=1) (v:=iV y) zU rfl;have l2:=h0.ldI (P:=Tryz.prog) (t:=3) (i:=2) (v:=iV z) zU rfl;refine zN.pure (xPT (Pr:=fun n τ=>τ=Z.re/\n=if x=0 then (if y=0 then z else y) else x) (P0:=fun τ=>τ=Z.re/\x=0/\y=0/\z=0)
  (yRF (Inv:=fun k i τ=>τ=Z.re/\((i=0/\k=3)\/(i=1/\k=2/\x=0)\/(i=2/\k=1/\x=0/\y=0)\/(i=3/\x=0/\y=0/\z=0))) ?_ 3 0 Z.re ⟨rfl,.inl ⟨rfl,rfl⟩⟩)
  (fun n τ h=>yRD ⟨by rw [h.2],by rw [h.1];exact Nat.le_refl _⟩) (fun τ h=>yRE ⟨by simp [h.2.1,h.2.2.1,h.2.2.2],by rw [h.1];exact Nat.le_refl _⟩))
 rintro k i τ ⟨rfl,⟨rfl,rfl⟩ | ⟨rfl,rfl,hx⟩ | ⟨rfl,rfl,hx,hy⟩ | ⟨rfl,hx,hy,hz⟩⟩
 ·by_cases hx:x=0
  ·exact zTB l0 ⟨2,by omega,rfl,.inr (.inl ⟨rfl,rfl,hx⟩)⟩
  ·exact zTC l0 ⟨rfl,by rw [if_neg hx]⟩
 ·by_cases hy:y=0
  ·exact zTB l1 ⟨1,by omega,rfl,.inr (.inr (.inl ⟨rfl,rfl,hx,hy⟩))⟩
  ·exact zTC l1 ⟨rfl,by rw [if_pos hx,if_neg hy]⟩
 ·by_cases hz:z=0
  ·exact zTB l2 ⟨0,by omega,rfl,.inr (.inr (.inr ⟨rfl,hx,hy,hz⟩))⟩
  ·exact zTC l2 ⟨rfl,by rw [if_pos hx,if_pos hy]⟩
 ·exact xHU ⟨rfl,hx,hy,hz⟩
theorem wAY:Cmp 79 [] yRT BOk:=by
 intro τ x y hx hy;unfold BOk at hx hy;refine ⟨if x.a-y.a=0 then (if x.k-y.k=0 then x.b-y.b else x.k-y.k) else x.a-y.a, ?_, ?_⟩
 ·have N:New τ.re (((τ.re.row (zBF x) 3).row (zBF y) 3).row [iV (x.a-y.a),iV (x.k-y.k),iV (x.b-y.b)] 1):=((New.row _ _ _).row').row';exact zN.pure (xVH (xVD (zC _ _ _)) ⟨rfl,N.lw⟩ (by omega) (by omega) (by omega) (by omega) (by omega))
 ·simp only [yRT,decide_eq_true_eq];unfold bLt;by_cases h:x.a-y.a=0
  ·rw [if_pos h];by_cases h2:x.k-y.k=0
   ·rw [if_pos h2];omega
   ·rw [if_neg h2];omega
  ·rw [if_neg h];omega
end
end
abbrev zFH (s:Std):List Value:=zK s.free s.row s.used s.day
def stL (f:Nat->Std):List Value:=zFH (f 0)++(zFH (f 1)++(zFH (f 2)++(zFH (f 3)++(zFH (f 4)++zFH (f 5)))))
def zFD:List Value:=[zZ 0,zZ 0,zZ 0,zZ 0,zZ 0,zZ 0,zZ 0,zZ 0,zZ 0,zZ 0,zZ 0,zZ 0,zZ 0,zZ 0,zZ 0,zZ 0,zZ 0,zZ 0,zZ 0,zZ 0,zZ 0,zZ 0,zZ 0,zZ 0]
def zWB:Std:=⟨0,0,0,0⟩
theorem yDR:zFD=stL fun _=>zWB:=rfl
section
variable {Z:St} {b n:Nat} {f:Nat->Std}
theorem yIG (o:Own Z b (stL f) n) {i:Nat} (hi:i<6):zB Tryz.prog Z 107 ⟨b,0+Int.toNat (i:Int)*4,none⟩=some (zMQ (f i)):=by
 rw [Int.toNat_natCast];match i,hi with
 | 0,_=>exact o.ldN (k:=0) vO xC (ds:=zFH (f 0)) rfl rfl (by simp [stL])
 | 1,_=>exact o.ldN (k:=4) vO xC (ds:=zFH (f 1)) rfl rfl (by simp [stL])
 | 2,_=>exact o.ldN (k:=8) vO xC (ds:=zFH (f 2)) rfl rfl (by simp [stL])
 | 3,_=>exact o.ldN (k:=12) vO xC (ds:=zFH (f 3)) rfl rfl (by simp [stL])
 | 4,_=>exact o.ldN (k:=16) vO xC (ds:=zFH (f 4)) rfl rfl (by simp [stL])
 | 5,_=>exact o.ldN (k:=20) vO xC (ds:=zFH (f 5)) rfl rfl (by simp [stL])
theorem xJS (o:Own Z b (stL f) n) {i:Nat} (hi:i<6):zB Tryz.prog Z 3 ⟨b,0+Int.toNat (i:Int)*4+2,none⟩=some (zZ (f i).used):=by
 rw [Int.toNat_natCast];match i,hi with
 | 0,_=>exact o.ld (k:=2) rfl zU rfl
 | 1,_=>exact o.ld (k:=6) rfl zU rfl
 | 2,_=>exact o.ld (k:=10) rfl zU rfl
 | 3,_=>exact o.ld (k:=14) rfl zU rfl
 | 4,_=>exact o.ld (k:=18) rfl zU rfl
 | 5,_=>exact o.ld (k:=22) rfl zU rfl
theorem uD (o:Own Z b (stL f) n):zB Tryz.prog Z 109 ⟨b,0,none⟩=some (.agg ⟨stL f⟩):=o.ldN (k:=0) xQY yIL (ds:=stL f) rfl rfl (by simp [stL])
theorem yTB (o:Own Z b (stL f) n) {i:Nat} (hi:i<6) (s:Std):zQ Tryz.prog (evL [.pointer (some ⟨b,0+Int.toNat (i:Int)*4,none⟩),zMQ s]) Z (.store 107 (.tmp 0) (.tmp 1))=some (undef,Z.own b (stL (upd f i s)) n):=by
 rw [Int.toNat_natCast];match i,hi with
 | 0,_=>exact o.store (k:=0) (vs:=zFH s) rfl xC rfl (by simp [stL]) rfl
 | 1,_=>exact o.store (k:=4) (vs:=zFH s) rfl xC rfl (by simp [stL]) rfl
 | 2,_=>exact o.store (k:=8) (vs:=zFH s) rfl xC rfl (by simp [stL]) rfl
 | 3,_=>exact o.store (k:=12) (vs:=zFH s) rfl xC rfl (by simp [stL]) rfl
 | 4,_=>exact o.store (k:=16) (vs:=zFH s) rfl xC rfl (by simp [stL]) rfl
 | 5,_=>exact o.store (k:=20) (vs:=zFH s) rfl xC rfl (by simp [stL]) rfl
theorem zWJ (o:Own Z b (stL f) n) (g:Nat->Std):zQ Tryz.prog (evL [.pointer (some ⟨b,0,none⟩),.agg ⟨stL g⟩]) Z (.store 109 (.tmp 0) (.tmp 1))=some (undef,Z.own b (stL g) n) :=
 o.store (k:=0) (vs:=stL g) rfl yIL rfl (by simp [stL]) rfl
def st0 (w:Wk) (j:Nat):Nat->Std:=fun k=>if k<j then before (drv w k) else zWB
theorem xZW {w:Wk} {j:Nat}:upd (st0 w j) j (before (drv w j))=st0 w (j+1):=by
 funext k;unfold upd st0;by_cases e:k=j
 ·subst e;rw [if_pos rfl,if_pos (by omega)]
 ·rw [if_neg e];by_cases h:k<j
  ·rw [if_pos h,if_pos (by omega)]
  ·rw [if_neg h,if_neg (by omega)]
variable {w:Wk} {p q:Option Addr} {l m c d:Nat}
theorem yDW (h:WkP Z 85 88 w p l q m) (hm:m<=6):zD Tryz.prog 74 [.agg ⟨wkc w.days p l c q m d w.rest w.run w.hours⟩] Z (.agg ⟨stL (st0 w m)⟩) Z:=by
 have hmm:=h.len.2;obtain ⟨Z1,hZ1⟩:∃ Z1,Z1=(Z.re.row (wkc w.days p l c q m d w.rest w.run w.hours) 6).row zFD 4:=⟨_,rfl⟩;have N1:New Z.re Z1:=by rw [hZ1];exact (New.row _ _ _).row'
 have L1:Le Z Z1:=(le0 Z).trans N1.le;have o1:Own Z1 (Z.y+1) (stL (st0 w 0)) 4:=by
  rw [hZ1];exact zC (Z.re.row (wkc w.days p l c q m d w.rest w.run w.hours) 6) zFD 4
 have hr:zW RD (.agg ⟨stL (st0 w m)⟩)=true:=rfl;refine zN.pure (hv:=hr) (ySY (yCR (Inv:=fun k i τ=>New Z.re τ/\∃ j:Nat,i=j/\j+k=m/\Own τ (Z.y+1) (stL (st0 w j)) 4) (Q0:=fun τ=>New Z.re τ/\Own τ (Z.y+1) (stL (st0 w m)) 4) ?_ m 0 Z1 ⟨N1,0,rfl,by omega,o1⟩ |> fun h=>by rw [hZ1] at h;exact h) ?_)
 ·rintro k i τ ⟨hN,j,rfl,hk,o⟩;by_cases hj:j<m;rotate_left
  ·have:j=m:=by omega
   subst this;exact yMC ⟨hN,o⟩ (by omega)
  have LL:=(le0 Z).trans hN.le;obtain ⟨a,rfl,p',l',c',r',n',d',s',j',e',lx,_,_,_,_⟩:=(h.le LL).vld yRY zRT hj;have hN2:New Z.re ((τ.row (zO none 0 0 none 0 0 none 0 0 0 0 0) 6).own τ.y (zO p' l' c' r' n' d' s' j' e' (drv w j).off (drv w j).row (drv w j).used) 6):=hN.row'.own hN.le.y;have o2:Own ((τ.row (zO none 0 0 none 0 0 none 0 0 0 0 0) 6).own τ.y (zO p' l' c' r' n' d' s' j' e' (drv w j).off (drv w j).row (drv w j).used) 6) (Z.y+1) (stL (st0 w j)) 4:=o.row.own (by have:=o.lt;omega);refine yMD lx (yTB o2 (i:=j) (by omega) (before (drv w j))) ⟨k-1,by omega,hN2.own (by show Z.y<=Z.y+1;omega),j+1,by omega,by omega, ?_⟩ (by omega) (by omega) (by omega) (by omega);rw [<- xZW];exact o2.put
 ·rintro τ ⟨hN,o⟩;exact yCQ (uD o) (zWJ o _) (uD o.put) ⟨rfl,(hN.own (by show Z.y<=Z.y+1;omega)).lw⟩
theorem zUQ:∃ b Z',zD Tryz.prog 76 [] Z (.slice (some ⟨b,0,none⟩) 5 5) Z'/\New Z Z'/\Z.y<=b/\Row Z' ⟨b,0,none⟩ [.int .u8 0,.func (.func 92) ⟨[]⟩ ⟨[]⟩,.int .u8 1,.func (.func 93) ⟨[]⟩ ⟨[]⟩,.int .u8 2,.func (.func 94) ⟨[]⟩ ⟨[]⟩,.int .u8 3,.func (.func 95) ⟨[]⟩ ⟨[]⟩,.int .u8 4,.func (.func 96) ⟨[]⟩ ⟨[]⟩]:=by
 obtain ⟨v,Z',h1,h2,b,rfl,h3,h4⟩:=zN.new (Z:=Z) (P:=Tryz.prog) (f:=76) (args:=[]) (Q:=fun v s=>∃ b,v=.slice (some ⟨b,0,none⟩) 5 5/\Z.y<=b/\Row s ⟨b,0,none⟩ [.int .u8 0,.func (.func 92) ⟨[]⟩ ⟨[]⟩,.int .u8 1,.func (.func 93) ⟨[]⟩ ⟨[]⟩,.int .u8 2,.func (.func 94) ⟨[]⟩ ⟨[]⟩,.int .u8 3,.func (.func 95) ⟨[]⟩ ⟨[]⟩,.int .u8 4,.func (.func 96) ⟨[]⟩ ⟨[]⟩])
  (yJD ⟨New.row _ _ _,Z.re.y,rfl,Nat.le_refl _,xJ _ _ _⟩) (by rintro v s s' ⟨b,rfl,g1,g2⟩ hle;exact ⟨b,rfl,g1,g2.le hle⟩) (by rintro v s hr ⟨b,rfl,_⟩;cases hr)
 exact ⟨b,Z',h1,h2,h3,h4⟩
end
section
noncomputable section
variable (BA BB:Nat) (s1 slices:oAa) (o:lVa) (dF aU dX ba:Nat) (aG aV:Int) (s2 fj:oAa) (qB:(Option Addr)->Nat->Nat->Int->St->Prop) (q7:Int->Int->St->Prop) (qC:(Option Addr)->Nat->Nat->St->Prop) (dQ fo d9 fy:Nat) (aH bi eH:Int) (q0:Int->St->Prop) (q4:St->Prop) (Z:St) (qE:(Option Addr)->Nat->Nat->Int->St->Prop) (q8:Int->Int->St->Prop) (Q:vPa) (Nx q9 Qr:Int->St->Prop) (Q2:(Option Addr)->Nat->Nat->St->Prop) (Q0:St->Prop)
def yQC:Code:=(Code.part [1,0,1,0,0] (qh 102))
def zQS:lNa:=[(2,pq BA 0),(4,pq BB 0),(7,qf o),(8,iV aG)]
def xHA:Alt:=⟨Int,.normal,fun t=>zQS BA BB o t,fun t=>[],fun t Z=>q0 t Z⟩
def yAQ (BA BB:Nat) (o:lVa):lNa:=[(2,pq BA 0),(4,pq BB 0)]
def zOM:Alt:=⟨Unit,(.exit 0),fun t=>yAQ BA BB o,fun t=>[],fun t Z=>q4 Z⟩
def yAS:Prop:=qi qj none yQC 20 (zQS BA BB o aG) [] [xHA BA BB o Nx,zOM BA BB o Q0] Z
def yQD:Prop:=qk qj none yQC 20 (zQS BA BB o aG) [] [zOM BA BB o Q0] Z
def yAR:Prop:=kZ qj (qh 102) [1,0,1,0] (ql 102 Q) (.exit 0) 20 (yAQ BA BB o) Z
def yBI:Code:=(Code.part [1,0,1,0,0] (qh 119))
def zEK:lNa:=[(0,.slice s1 dF dX),(1,.slice s2 dQ d9),(9,.slice s1 dF dX),(10,iV (dF:Int)),(11,iV aH)]
def yRC:Alt:=⟨Int,.normal,fun t=>zEK s1 dF dX s2 dQ d9 t,fun t=>[],fun t Z=>q0 t Z⟩
def zQX (s1:oAa) (dF dX:Nat) (s2:oAa) (dQ d9:Nat) (bi:Int):lNa:=[(4,iV bi)]
def zIA:Alt:=⟨Int,.ret,fun t=>zQX s1 dF dX s2 dQ d9 t,fun t=>[],fun t Z=>q0 t Z⟩
def zQY:lNa:=[(0,.slice s1 dF dX),(1,.slice s2 dQ d9)]
def zIB:Alt:=⟨Unit,(.exit 0),fun t=>zQY s1 dF dX s2 dQ d9,fun t=>[],fun t Z=>q4 Z⟩
def zIC:Prop:=qi qj none yBI 36 (zEK s1 dF dX s2 dQ d9 aH) [] [yRC s1 dF dX s2 dQ d9 Nx,zIA s1 dF dX s2 dQ d9 Qr,zIB s1 dF dX s2 dQ d9 Q0] Z
def yBJ:Prop:=qk qj none yBI 36 (zEK s1 dF dX s2 dQ d9 aH) [] [zIA s1 dF dX s2 dQ d9 Qr,zIB s1 dF dX s2 dQ d9 Q0] Z
def zQZ:Prop:=kZ qj (qh 119) [1,0,1,0] (ql 119 Q) .ret 36 (zQX s1 dF dX s2 dQ d9 bi) Z
def zRA:Prop:=kZ qj (qh 119) [1,0,1,0] (ql 119 Q) (.exit 0) 36 (zQY s1 dF dX s2 dQ d9) Z
def yQX:Code:=(Code.part [1,1,0,1,0,0] (qh 104))
def zKS:lNa:=[(0,.slice slices aU ba),(3,iV aV),(9,.slice slices aU ba),(10,iV (aU:Int)),(11,iV aH)]
def xHS:Alt:=⟨Int × Int,.normal,fun t=>zKS slices aU ba t.1 t.2,fun t=>[],fun t Z=>q7 t.1 t.2 Z⟩
def yBD:lNa:=[(0,.slice slices aU ba),(3,iV aV)]
def zOQ:Alt:=⟨Int,(.exit 0),fun t=>yBD slices aU ba t,fun t=>[],fun t Z=>q0 t Z⟩
def yBH:Prop:=qi qj none yQX 36 (zKS slices aU ba aV aH) [] [xHS slices aU ba q8,zOQ slices aU ba q9] Z
def yQZ:Prop:=qk qj none yQX 36 (zKS slices aU ba aV aH) [] [zOQ slices aU ba q9] Z
def yBF:Prop:=kZ qj (qh 104) [1,1,0,1,0] (ql 104 Q) (.exit 0) 36 (yBD slices aU ba aV) Z
def yQW:Code:=(Code.part [1,1,1,1,0,1,0,0] (qh 104))
def zKR:lNa:=[(6,.slice fj fo fy),(25,.slice slices aU ba),(26,iV (aU:Int)),(27,iV eH)]
def xHR:Alt:=⟨(Option Addr) × Nat × Nat × Int,.normal,fun t=>zKR slices aU ba t.1 t.2.1 t.2.2.1 t.2.2.2,fun t=>[],fun t Z=>qB t.1 t.2.1 t.2.2.1 t.2.2.2 Z⟩
def yBC (slices:oAa) (aU ba:Nat) (fj:oAa) (fo fy:Nat):lNa:=[(6,.slice fj fo fy)]
def zOP:Alt:=⟨(Option Addr) × Nat × Nat,(.exit 2),fun t=>yBC slices aU ba t.1 t.2.1 t.2.2,fun t=>[],fun t Z=>qC t.1 t.2.1 t.2.2 Z⟩
def yBG:Prop:=qi qj none yQW 36 (zKR slices aU ba fj fo fy eH) [] [xHR slices aU ba qE,zOP slices aU ba Q2] Z
def yQY:Prop:=qk qj none yQW 36 (zKR slices aU ba fj fo fy eH) [] [zOP slices aU ba Q2] Z
def yBE:Prop:=kZ qj (qh 104) [1,1,1,1,0,1,0] (ql 104 Q) (.exit 2) 36 (yBC slices aU ba fj fo fy) Z
end
variable {BA BB l1 c1 l2 c2 dF dX dQ d9 aU ba lA cE fo fy lI cJ lB cA lL cQ s_l s_c l3 c3 l5 c5 l6 c6:Nat} {o g_0 cs1838 cs1840:lVa} {Inv:Nat->Int->St->Prop} {Q0 P0:St->Prop} {aG nE nG n3 aH nA bi x y aV eH n n1 n2:Int} {ZD Z ZI ZZB Z4:St} {Nx Qr Pr:Int->St->Prop} {Q:vPa} {q1 q2 s1 s2 slices qD fj qI qA qP s q3 q5 q6:oAa} {s1_a s2_a gh:Addr} {Q2 P2:(Option Addr)->Nat->Nat->St->Prop}
theorem yQB (hb:∀ k aG Z,Inv k aG Z->yAS BA BB o aG Z (NX1 Inv k) Q0):∀ k aG Z,Inv k aG Z->yQD BA BB o aG Z Q0 :=
 xF (ai (xX 0) trivial) hb
theorem xGZ (h1:zAK Pg 98 (qf o) (iV aG)=some (iV nE)) (h2:lz Z 3 ⟨BA,0+Int.toNat aG*1,none⟩ (iV nG)) (h3:qn (evL [pq BA (0+Int.toNat aG*1),iV (nG+nE)]) Z (.store 3 (.tmp 0) (.tmp 1))=some (undef,ZD)) (nx:Nx (aG+1) ZD) (u1:aG<6:=by omega) (u2:Ix aG 6:=by omega) (u3:I6 (nG+nE):=by omega) (u4:I6 (aG+1):=by omega):yAS BA BB o aG Z Nx Q0 :=
 kO 0 (aG+1) [.b true,.g,.v (iV nE),.g,.g,.g,.i,.l (iV nG),.g,.n (nG+nE),.i,.e undef ZD,.n (aG+1),.g] (fun _ f=>an2 (zR u1) h1 (an6 u2 h2 (w64 u3) u2 h3 (w64 u4) f)) nx
theorem xGY (nx:Q0 Z) (u1:¬ aG<6:=by omega):yAS BA BB o aG Z Nx Q0 :=
 kO 1 () [.b false] (fun _ f=>ai (zT u1) f) nx
theorem xOS:let y0:=((Z.row g_0 1).row o 1).row (zJ 0 0 0 0 0 0) 1;∀ (h1:lz y0 98 ⟨(Z.y+1),0,none⟩ (qf o)) (hL:yQD Z.y (Z.y+2) o 0 y0 P0) (k0:∀ Z',P0 Z'->yAR Z.y (Z.y+2) o Z' Q),qg 102 [qf g_0,qf o] Z Q :=
 let s1:=zQS Z.y (Z.y+2) o 0;fun h1 hL k0=>zG [.g,.g,.g,.l (qf o),.g,.lf 20 s1 [zOM Z.y (Z.y+2) o P0]] (kd (ai h1 (ai (ai tt (ai (arf s1) hL)) (ai (kz0 k0) trivial))))
theorem yQA (h1:lz Z 98 (qe BA 0) (qf cs1838)) (h2:qn (evL [pq BB 0,qf cs1838]) Z (.store 98 (.tmp 0) (.tmp 1))=some (undef,ZI)) (h3:lz ZI 98 (qe BB 0) (qf cs1840)) (nx:Q (qf cs1840) ZI):yAR BA BB o Z Q :=
 sK [.l (qf cs1838),.e undef ZI,.l (qf cs1840)] (an3 h1 h2 h3 nx)
theorem xOV:let y0:=(Z.row g_0 1).row o 1;∀ (h1:lz y0 98 (qe Z.y 0) (qf g_0)) (h2:lz y0 98 ⟨(Z.y+1),0,none⟩ (qf o)) (h3:uE Pg .neq 98 (.tmp 5) (.tmp 6) (qf g_0) (qf o)=some (.bool true)) (h4:uV Pg y0 98 (pq Z.y 0) none none none=some (.slice q1 l1 c1)) (h5:uV Pg y0 98 (pq ((Z.y+1)) 0) none none none=some (.slice q2 l2 c2)) (h6:qm 119 [.slice q1 l1 c1,.slice q2 l2 c2] y0 (iV n3) y0) (nx:Q (.bool true) y0) (u1:0<n3:=by omega),qg 103 [qf g_0,qf o] Z Q :=
 let y0:=(Z.row g_0 1).row o 1;fun h1 h2 h3 h4 h5 h6 nx u1=>zG [.g,.g,.g,.l (qf g_0),.l (qf o),.v (.bool true),.g,.v (.slice q1 l1 c1),.v (.slice q2 l2 c2),.c (iV n3) y0,.b true,.g,.g] (kd (ai h1 (an6 h2 h3 h4 h5 h6 (zR u1) nx)))
theorem xOU:let y0:=(Z.row g_0 1).row o 1;∀ (h1:lz y0 98 (qe Z.y 0) (qf g_0)) (h2:lz y0 98 ⟨(Z.y+1),0,none⟩ (qf o)) (h3:uE Pg .neq 98 (.tmp 5) (.tmp 6) (qf g_0) (qf o)=some (.bool true)) (h4:uV Pg y0 98 (pq Z.y 0) none none none=some (.slice q1 l1 c1)) (h5:uV Pg y0 98 (pq ((Z.y+1)) 0) none none none=some (.slice q2 l2 c2)) (h6:qm 119 [.slice q1 l1 c1,.slice q2 l2 c2] y0 (iV n3) y0) (nx:Q (.bool false) y0) (u1:¬ 0<n3:=by omega),qg 103 [qf g_0,qf o] Z Q :=
 let y0:=(Z.row g_0 1).row o 1;fun h1 h2 h3 h4 h5 h6 nx u1=>zG [.g,.g,.g,.l (qf g_0),.l (qf o),.v (.bool true),.g,.v (.slice q1 l1 c1),.v (.slice q2 l2 c2),.c (iV n3) y0,.b false,.g,.g] (kd (ai h1 (an6 h2 h3 h4 h5 h6 (zT u1) nx)))
theorem xOT:let y0:=(Z.row g_0 1).row o 1;∀ (h1:lz y0 98 (qe Z.y 0) (qf g_0)) (h2:lz y0 98 ⟨(Z.y+1),0,none⟩ (qf o)) (h3:uE Pg .neq 98 (.tmp 5) (.tmp 6) (qf g_0) (qf o)=some (.bool false)) (nx:Q (.bool false) y0),qg 103 [qf g_0,qf o] Z Q :=
 fun h1 h2 h3 nx=>zG [.g,.g,.g,.l (qf g_0),.l (qf o),.v (.bool false),.g,.g,.g] (kd (an3 h1 h2 h3 nx))
theorem yDL (hb:∀ k aH Z,Inv k aH Z->zIC s1 dF dX s2 dQ d9 aH Z (NX1 Inv k) Qr Q0):∀ k aH Z,Inv k aH Z->yBJ s1 dF dX s2 dQ d9 aH Z Qr Q0 :=
 xF (ai zAR (ai (xX 0) trivial)) hb
theorem zVK (h1:lz Z 3 (zL s1_a (Int.toNat aH*1)) (iV nE)) (h2:lz Z 3 (zL s2_a (Int.toNat aH*1)) (iV nG)) (h3:qm 129 [iV nE,iV nG] Z (iV nA) Z) (nx:Qr nA Z) (u1:aH<(dF:Int):=by omega) (u2:Ix aH dF:=by omega) (u3:¬ (dQ:Int)<=aH:=by omega) (u4:Ix aH dQ:=by omega) (u5:¬ nA=0:=by omega):zIC (some s1_a) dF dX (some s2_a) dQ d9 aH Z Nx Qr Q0 :=
 kO 1 nA [.b true,.g,.i,.l (iV nE),.g,.g,.g,.g,.g,.b false,.g,.g,.i,.l (iV nG),.g,.g,.g,.c (iV nA) Z,.g,.g,.b true,.g,.g] (fun _ f=>an2 (zR u1) u2 (an6 h1 (yH u3) u4 h2 h3 (zEV u5) f)) nx
theorem yRB (h1:lz Z 3 (zL s1_a (Int.toNat aH*1)) (iV nE)) (h2:lz Z 3 (zL s2_a (Int.toNat aH*1)) (iV nG)) (h3:qm 129 [iV nE,iV nG] Z (iV nA) Z) (nx:Nx (aH+1) Z) (u1:aH<(dF:Int):=by omega) (u2:Ix aH dF:=by omega) (u3:¬ (dQ:Int)<=aH:=by omega) (u4:Ix aH dQ:=by omega) (u5:nA=0:=by omega) (u6:I6 (aH+1):=by omega):zIC (some s1_a) dF dX (some s2_a) dQ d9 aH Z Nx Qr Q0 :=
 kO 0 (aH+1) [.b true,.g,.i,.l (iV nE),.g,.g,.g,.g,.g,.b false,.g,.g,.i,.l (iV nG),.g,.g,.g,.c (iV nA) Z,.g,.g,.b false,.n (aH+1),.g] (fun _ f=>an3 (zR u1) u2 h1 (an6 (yH u3) u4 h2 h3 (vF u5) (w64 u6) f)) nx
theorem yRA (nx:Q0 Z) (u1:¬ aH<(dF:Int):=by omega):zIC s1 dF dX s2 dQ d9 aH Z Nx Qr Q0 :=
 kO 2 () [.b false] (fun _ f=>ai (zT u1) f) nx
theorem yXY (hL:yBJ s1 dF dX s2 dQ d9 0 Z Pr P0) (kr:∀ i4_1' Z',Pr i4_1' Z'->zQZ s1 dF dX s2 dQ d9 i4_1' Z' Q) (k0:∀ Z',P0 Z'->zRA s1 dF dX s2 dQ d9 Z' Q):qg 119 [.slice s1 dF dX,.slice s2 dQ d9] Z Q :=
 zG [.g,.g,.g,.g,.lf 36 (zEK s1 dF dX s2 dQ d9 0) [zIA s1 dF dX s2 dQ d9 Pr,zIB s1 dF dX s2 dQ d9 P0]] (kd (ai (ai tt (ai (arf (zEK s1 dF dX s2 dQ d9 0)) hL)) (ai (kz1 kr) (ai (kz0 k0) trivial))))
theorem yDJ (nx:Q (iV bi) Z):zQZ s1 dF dX s2 dQ d9 bi Z Q :=
 sK [] nx
theorem yDK (nx:Q (iV 0) Z) (u1:¬ (dF:Int)<(dQ:Int):=by omega):zRA s1 dF dX s2 dQ d9 Z Q :=
 sK [.g,.g,.g,.g,.b false,.g] (ai (zT u1) nx)
theorem xVG (h1:qm 132 [iV x] Z (.bool false) Z) (h2:qm 132 [iV y] Z (.bool false) Z) (nx:Q (iV (-1)) Z) (u1:x<y:=by omega):qg 129 [iV x,iV y] Z Q :=
 zG [.g,.g,.c (.bool false) Z,.g,.g,.c (.bool false) Z,.g,.g,.g,.g,.g,.b true,.g] (kd (an3 h1 h2 (zR u1) nx))
theorem xVF (h1:qm 132 [iV x] Z (.bool false) Z) (h2:qm 132 [iV y] Z (.bool false) Z) (nx:Q (iV 1) Z) (u1:¬ x<y:=by omega) (u2:y<x:=by omega):qg 129 [iV x,iV y] Z Q :=
 zG [.g,.g,.c (.bool false) Z,.g,.g,.c (.bool false) Z,.g,.g,.g,.g,.g,.b false,.g,.g,.b true,.g] (kd (an4 h1 h2 (zT u1) (zR u2) nx))
theorem xVE (h1:qm 132 [iV x] Z (.bool false) Z) (h2:qm 132 [iV y] Z (.bool false) Z) (nx:Q (iV 0) Z) (u1:¬ x<y:=by omega) (u2:¬ y<x:=by omega):qg 129 [iV x,iV y] Z Q :=
 zG [.g,.g,.c (.bool false) Z,.g,.g,.c (.bool false) Z,.g,.g,.g,.g,.g,.b false,.g,.g,.b false,.g] (kd (an4 h1 h2 (zT u1) (zT u2) nx))
theorem xNN (nx:Q (.bool false) Z) (u1:x=x:=by omega):qg 132 [iV x] Z Q :=
 zG [.g,.g,.g,.b false,.g] (kd (ai (vF u1) nx))
theorem yQV {Inv:Nat->Int->Int->St->Prop} {Q0:Int->St->Prop} (hb:∀ k aV aH Z,Inv k aV aH Z->yBH slices aU ba aV aH Z (NX2 Inv k) Q0):∀ k aV aH Z,Inv k aV aH Z->yQZ slices aU ba aV aH Z Q0 :=
 zEB (ai (xX 0) trivial) hb
theorem xHQ {Nx:Int->Int->St->Prop} {Q0:Int->St->Prop} (h1:lz Z 26 (zL gh (Int.toNat aH*1)) (.slice qD lA cE)) (nx:Nx (aV+(lA:Int)) (aH+1) Z) (u1:aH<(aU:Int):=by omega) (u2:Ix aH aU:=by omega) (u3:I6 (aV+(lA:Int)):=by omega) (u4:¬ (aV+(lA:Int))<0:=by omega) (u5:I6 (aH+1):=by omega):yBH (some gh) aU ba aV aH Z Nx Q0 :=
 kO 0 ((aV+(lA:Int)),aH+1) [.b true,.i,.l (.slice qD lA cE),.g,.g,.g,.g,.n (aV+(lA:Int)),.g,.g,.b false,.n (aH+1),.g] (fun _ f=>an6 (zR u1) u2 h1 (w64 u3) (zT u4) (w64 u5) f) nx
theorem xHP {Nx:Int->Int->St->Prop} {Q0:Int->St->Prop} (nx:Q0 aV Z) (u1:¬ aH<(aU:Int):=by omega):yBH slices aU ba aV aH Z Nx Q0 :=
 kO 1 aV [.b false] (fun _ f=>ai (zT u1) f) nx
theorem xPQ {P0:Int->St->Prop} (hL:yQZ slices aU ba 0 0 Z P0) (k0:∀ i3_1' Z',P0 i3_1' Z'->yBF slices aU ba i3_1' Z' Q):qg 104 [.slice slices aU ba] Z Q :=
 zG [.g,.g,.g,.g,.g,.lf 36 (zKS slices aU ba 0 0) [zOQ slices aU ba P0]] (kd (ai (ai tt (ai (arf (zKS slices aU ba 0 0)) hL)) (ai (kz1 k0) trivial)))
theorem yQU {Inv:Nat->(Option Addr)->Nat->Nat->Int->St->Prop} (hb:∀ k fj fo fy eH Z,Inv k fj fo fy eH Z->yBG slices aU ba fj fo fy eH Z (NX4 Inv k) Q2):∀ k fj fo fy eH Z,Inv k fj fo fy eH Z->yQY slices aU ba fj fo fy eH Z Q2 :=
 zZZ (ai (xX 2) trivial) hb
theorem xHO {Nx:(Option Addr)->Nat->Nat->Int->St->Prop} (h1:lz Z 26 (zL gh (Int.toNat eH*1)) (.slice qI lI cJ)) (h2:yG Pg 26 26 (.slice fj fo fy) (.slice qI lI cJ) Z=some (.slice qA lB cA,ZZB)) (nx:Nx qA lB cA (eH+1) ZZB) (u1:eH<(aU:Int):=by omega) (u2:Ix eH aU:=by omega) (u3:I6 (eH+1):=by omega):yBG (some gh) aU ba fj fo fy eH Z Nx Q2 :=
 kO 0 (qA,lB,cA,eH+1) [.b true,.i,.l (.slice qI lI cJ),.g,.g,.g,.e (.slice qA lB cA) ZZB,.g,.n (eH+1),.g] (fun _ f=>an5 (zR u1) u2 h1 h2 (w64 u3) f) nx
theorem xHN {Nx:(Option Addr)->Nat->Nat->Int->St->Prop} (nx:Q2 fj fo fy Z) (u1:¬ eH<(aU:Int):=by omega):yBG slices aU ba fj fo fy eH Z Nx Q2 :=
 kO 1 (fj,fo,fy) [.b false] (fun _ f=>ai (zT u1) f) nx
theorem yQT (h1:qm 120 [.slice none 0 0,iV aV] Z (.slice qP lL cQ) ZI) (hL:yQY slices aU ba qP lL cQ 0 ZI P2) (k2:∀ p6_2' l6_2' c6_2' Z',P2 p6_2' l6_2' c6_2' Z'->yBE slices aU ba p6_2' l6_2' c6_2' Z' Q):yBF slices aU ba aV Z Q :=
 sK [.g,.c (.slice qP lL cQ) ZI,.g,.g,.g,.g,.lf 36 (zKR slices aU ba qP lL cQ 0) [zOP slices aU ba P2]] (ai h1 (ai (ai tt (ai (arf (zKR slices aU ba qP lL cQ 0)) hL)) (ai (kz3 k2) trivial)))
theorem yQS (nx:Q (.slice fj fo fy) Z):yBE slices aU ba fj fo fy Z Q :=
 sK [.g,.g] nx
theorem xOR (h1:xO Pg (evL [.slice s s_l s_c]) Z (.call { callee:=.builtin .cap,args:=⟨wW 1⟩,argTypes:=⟨[26]⟩ })=some (iV n1)) (h2:xO Pg (evL [.slice s s_l s_c]) Z (.call { callee:=.builtin .cap,args:=⟨wW 1⟩,argTypes:=⟨[26]⟩ })=some (iV n2)) (h3:uV Pg Z 26 (.slice s s_l s_c) none (some (iV n2)) none=some (.slice q3 l3 c3)) (h4:yG Pg 26 3 (.slice q3 l3 c3) (iV (n-(n1-(s_l:Int)))) Z=some (.slice q5 l5 c5,Z4)) (h5:uV Pg Z4 26 (.slice q5 l5 c5) none (some (iV (s_l:Int))) none=some (.slice q6 l6 c6)) (nx:Q (.slice q6 l6 c6) Z4) (u1:¬ n<0:=by omega) (u2:I6 (n1-(s_l:Int)):=by omega) (u3:I6 (n-(n1-(s_l:Int))):=by omega) (u4:0<(n-(n1-(s_l:Int))):=by omega):qg 120 [.slice s s_l s_c,iV n] Z Q :=
 zG [.g,.g,.b false,.g,.g,.v (iV n1),.g,.g,.n (n1-(s_l:Int)),.n (n-(n1-(s_l:Int))),.g,.g,.b true,.g,.g,.v (iV n2),.v (.slice q3 l3 c3),.g,.e (.slice q5 l5 c5) Z4,.g,.g,.v (.slice q6 l6 c6),.g,.g,.g] (kd (an3 (zT u1) h1 (w64 u2) (an6 (w64 u3) (zR u4) h2 h3 h4 h5 nx)))
theorem xOQ (h1:xO Pg (evL [.slice s s_l s_c]) Z (.call { callee:=.builtin .cap,args:=⟨wW 1⟩,argTypes:=⟨[26]⟩ })=some (iV n1)) (nx:Q (.slice s s_l s_c) Z) (u1:¬ n<0:=by omega) (u2:I6 (n1-(s_l:Int)):=by omega) (u3:I6 (n-(n1-(s_l:Int))):=by omega) (u4:¬ 0<(n-(n1-(s_l:Int))):=by omega):qg 120 [.slice s s_l s_c,iV n] Z Q :=
 zG [.g,.g,.b false,.g,.g,.v (iV n1),.g,.g,.n (n1-(s_l:Int)),.n (n-(n1-(s_l:Int))),.g,.g,.b false,.g,.g] (kd (an5 (zT u1) h1 (w64 u2) (w64 u3) (zT u4) nx))
end
end Go.Proofs.YtgfiniccfpfplaaGreat
