import Derived.Test.YtgfiniccfpfplaaGreatTy
import Derived.Test.YtgfiniccfpfplaaGreatUA
set_option linter.unusedVariables false
set_option maxRecDepth 20000
set_option linter.unusedSimpArgs false
namespace Go.Proofs.YtgfiniccfpfplaaGreat
open Go Go.Lay
open Tryz renaming prog -> Pg
section
noncomputable section
variable (data:oAa) (ar:Addr) (ag ah:Nat) (a_1 hi b first:Int) (az:FuncId) (ao:lVa) (q7:Bool->St->Prop) (t8_1:Bool) (kB aF bZ aA aC a9 aS bi bY bO aE bf cx:Int) (q4:Int->Int->St->Prop) (q0:St->Prop) (Q:Int->St->Prop) (Z:St) (Nx Q2 Q6 Q8:Int->St->Prop) (q5:Int->Int->St->Prop) (q2:vPa) (q1 Q0 q3:St->Prop) (q6 Q4:Int->St->Prop) (Qr:Bool->St->Prop)
def yLJ:Code:=(Code.part [1,0,0] (qh 106))
def zXQ:lNa:=[(0,.slice data ag ah),(1,iV a_1),(2,iV b),(3,.func (.func az) ⟨[]⟩ ⟨ao⟩),(8,iV aF)]
def yQL:Alt:=⟨Int,.normal,fun t=>zXQ data ag ah a_1 b az ao t,fun t=>[],fun t Z=>Q t Z⟩
def yHA (data:oAa) (ag ah:Nat) (a_1 b:Int) (az:FuncId) (ao:lVa):lNa:=[]
def zMJ:Alt:=⟨Unit,(.exit 0),fun t=>yHA data ag ah a_1 b az ao,fun t=>[],fun t Z=>q0 Z⟩
def yLK:Prop:=qi qj none yLJ 53 (zXQ data ag ah a_1 b az ao aF) [] [yQL data ag ah a_1 b az ao Nx,zMJ data ag ah a_1 b az ao Q0] Z
def xDM:Prop:=qk qj none yLJ 53 (zXQ data ag ah a_1 b az ao aF) [] [zMJ data ag ah a_1 b az ao Q0] Z
def xDK:Code:=(Code.part [1,0,0,1,0,0,1,0,0] (qh 106))
def zQT:lNa:=[(0,.slice data ag ah),(1,iV a_1),(2,iV b),(3,.func (.func az) ⟨[]⟩ ⟨ao⟩),(8,iV aF),(9,iV aS)]
def xQC:Alt:=⟨Int,.normal,fun t=>zQT data ag ah a_1 b az ao aF t,fun t=>[],fun t Z=>Q t Z⟩
def yGZ:lNa:=[(0,.slice data ag ah),(1,iV a_1),(2,iV b),(3,.func (.func az) ⟨[]⟩ ⟨ao⟩),(8,iV aF)]
def zSY:Alt:=⟨Unit,(.exit 2),fun t=>yGZ data ag ah a_1 b az ao aF,fun t=>[],fun t Z=>q0 Z⟩
def zXR:Prop:=qi qj none xDK 53 (zQT data ag ah a_1 b az ao aF aS) [] [xQC data ag ah a_1 b az ao aF Nx,zSY data ag ah a_1 b az ao aF q1] Z
def xDL:Prop:=qk qj none xDK 53 (zQT data ag ah a_1 b az ao aF aS) [] [zSY data ag ah a_1 b az ao aF q1] Z
def yHB:Prop:=kZ qj yLJ [1,0,0,1,0] (zFP 53 [yQL data ag ah a_1 b az ao Nx,zMJ data ag ah a_1 b az ao Q0]) (.exit 2) 53 (yGZ data ag ah a_1 b az ao aF) Z
def yHC:Prop:=kZ qj (qh 106) [1,0] (ql 106 q2) (.exit 0) 53 (yHA data ag ah a_1 b az ao) Z
def yNW:Code:=(Code.part [1,0,0] (qh 121))
def zJD:lNa:=[(0,.slice data ag ah),(2,iV hi),(3,iV first),(4,.func (.func az) ⟨[]⟩ ⟨ao⟩),(10,iV aC)]
def xFG:Alt:=⟨Int,.normal,fun t=>zJD data ag ah hi first az ao t,fun t=>[],fun t Z=>Q t Z⟩
def zYT (data:oAa) (ag ah:Nat) (hi first:Int) (az:FuncId) (ao:lVa):lNa:=[]
def zOB:Alt:=⟨Unit,(.exit 0),fun t=>zYT data ag ah hi first az ao,fun t=>[],fun t Z=>q0 Z⟩
def zYS (data:oAa) (ag ah:Nat) (hi first:Int) (az:FuncId) (ao:lVa):lNa:=[]
def zOA:Alt:=⟨Unit,.ret,fun t=>zYS data ag ah hi first az ao,fun t=>[],fun t Z=>q0 Z⟩
def zCH:Prop:=qi qj none yNW 82 (zJD data ag ah hi first az ao aC) [] [xFG data ag ah hi first az ao Nx,zOB data ag ah hi first az ao Q0,zOA data ag ah hi first az ao q3] Z
def yNX:Prop:=qk qj none yNW 82 (zJD data ag ah hi first az ao aC) [] [zOB data ag ah hi first az ao Q0,zOA data ag ah hi first az ao q3] Z
def zYV:Prop:=kZ qj (qh 121) [1,0] (ql 121 q2) (.exit 0) 82 (zYT data ag ah hi first az ao) Z
def zYU:Prop:=kZ qj (qh 121) [1,0] (ql 121 q2) .ret 82 (zYS data ag ah hi first az ao) Z
def yQX:Code:=(Code.part [1,1,1,0,1,0,0] (qh 107))
def zRB (data:oAa) (ag ah:Nat) (az:FuncId) (ao:lVa) (a_1 kB aA:Int):lNa:=[(0,.slice data ag ah),(3,.func (.func az) ⟨[]⟩ ⟨ao⟩),(8,iV a_1),(9,iV 0),(10,iV kB),(11,iV aA)]
def xIK (data:oAa) (ag ah:Nat) (az:FuncId) (ao:lVa) (a_1 kB:Int) (Q:Int->St->Prop):Alt:=⟨Int,.normal,fun t=>zRB data ag ah az ao a_1 kB t,fun t=>[],fun t Z=>Q t Z⟩
def yBD (data:oAa) (ag ah:Nat) (az:FuncId) (ao:lVa) (a_1 kB:Int):lNa:=[(0,.slice data ag ah),(3,.func (.func az) ⟨[]⟩ ⟨ao⟩),(8,iV a_1),(9,iV 0),(10,iV kB)]
def zOU (data:oAa) (ag ah:Nat) (az:FuncId) (ao:lVa) (a_1 kB:Int) (Q:St->Prop):Alt:=⟨Unit,(.exit 0),fun t=>yBD data ag ah az ao a_1 kB,fun t=>[],fun t Z=>Q Z⟩
def yBH (data:oAa) (ag ah:Nat) (az:FuncId) (ao:lVa) (a_1 kB aA:Int) (Z:St) (Nx:Int->St->Prop) (Q0:St->Prop):Prop:=qi qj none yQX 60 (zRB data ag ah az ao a_1 kB aA) [] [xIK data ag ah az ao a_1 kB Nx,zOU data ag ah az ao a_1 kB Q0] Z
def yQZ (data:oAa) (ag ah:Nat) (az:FuncId) (ao:lVa) (a_1 kB aA:Int) (Z:St) (Q0:St->Prop):Prop:=qk qj none yQX 60 (zRB data ag ah az ao a_1 kB aA) [] [zOU data ag ah az ao a_1 kB Q0] Z
def yBF (data:oAa) (ag ah:Nat) (az:FuncId) (ao:lVa) (a_1 kB:Int) (Z:St) (Q:vPa):Prop:=kZ qj (qh 107) [1,1,1,0,1,0] (ql 107 Q) (.exit 0) 60 (yBD data ag ah az ao a_1 kB) Z
def yQW:Code:=(Code.part [1,1,1,1,1,0,0] (qh 107))
def zRA (data:oAa) (ag ah:Nat) (az:FuncId) (ao:lVa) (a_1 eA:Int):lNa:=[(0,.slice data ag ah),(3,.func (.func az) ⟨[]⟩ ⟨ao⟩),(8,iV a_1),(9,iV 0),(12,iV eA)]
def xIJ (data:oAa) (ag ah:Nat) (az:FuncId) (ao:lVa) (a_1:Int) (Q:Int->St->Prop):Alt:=⟨Int,.normal,fun t=>zRA data ag ah az ao a_1 t,fun t=>[],fun t Z=>Q t Z⟩
def yBC (data:oAa) (ag ah:Nat) (az:FuncId) (ao:lVa) (a_1:Int):lNa:=[]
def zOT (data:oAa) (ag ah:Nat) (az:FuncId) (ao:lVa) (a_1:Int) (Q:St->Prop):Alt:=⟨Unit,(.exit 2),fun t=>yBC data ag ah az ao a_1,fun t=>[],fun t Z=>Q Z⟩
def yBG (data:oAa) (ag ah:Nat) (az:FuncId) (ao:lVa) (a_1 eA:Int) (Z:St) (Nx:Int->St->Prop) (Q2:St->Prop):Prop:=qi qj none yQW 60 (zRA data ag ah az ao a_1 eA) [] [xIJ data ag ah az ao a_1 Nx,zOT data ag ah az ao a_1 Q2] Z
def yQY (data:oAa) (ag ah:Nat) (az:FuncId) (ao:lVa) (a_1 eA:Int) (Z:St) (Q2:St->Prop):Prop:=qk qj none yQW 60 (zRA data ag ah az ao a_1 eA) [] [zOT data ag ah az ao a_1 Q2] Z
def yBE (data:oAa) (ag ah:Nat) (az:FuncId) (ao:lVa) (a_1:Int) (Z:St) (Q:vPa):Prop:=kZ qj (qh 107) [1,1,1,1,1,0] (ql 107 Q) (.exit 2) 60 (yBC data ag ah az ao a_1) Z
def zMB:Code:=(Code.part [1,1,1,0,0,0] (qh 112))
def zMA:lNa:=[(0,.slice (some ar) ag ah),(1,iV a_1),(4,.func (.func az) ⟨[]⟩ ⟨ao⟩),(11,iV aA),(12,iV a9)]
def zOM:Alt:=⟨Int × Int,.normal,fun t=>zMA ar ag ah a_1 az ao t.1 t.2,fun t=>[],fun t Z=>q4 t.1 t.2 Z⟩
def zVN (ar:Addr) (ag ah:Nat) (a_1:Int) (az:FuncId) (ao:lVa) (aA:Int):lNa:=[(11,iV aA)]
def zCK:Alt:=⟨Int,(.exit 0),fun t=>zVN ar ag ah a_1 az ao t,fun t=>[],fun t Z=>Q t Z⟩
def yGQ:Prop:=qi qj none zMB 90 (zMA ar ag ah a_1 az ao aA a9) [] [zOM ar ag ah a_1 az ao q5,zCK ar ag ah a_1 az ao q6] Z
def yGP:Prop:=qk qj none zMB 90 (zMA ar ag ah a_1 az ao aA a9) [] [zCK ar ag ah a_1 az ao q6] Z
def yGM:Code:=(Code.part [1,1,1,0,0,0,0,0,0,0] (qh 112))
def zGD:lNa:=[(0,.slice (some ar) ag ah),(1,iV a_1),(4,.func (.func az) ⟨[]⟩ ⟨ao⟩),(11,iV bi),(12,iV a9)]
def yXW:Alt:=⟨Int,.normal,fun t=>zGD ar ag ah a_1 az ao a9 t,fun t=>[],fun t Z=>Q t Z⟩
def zVM:lNa:=[(0,.slice (some ar) ag ah),(1,iV a_1),(4,.func (.func az) ⟨[]⟩ ⟨ao⟩),(11,iV bi),(12,iV a9)]
def zKB:Alt:=⟨Int,(.exit 2),fun t=>zVM ar ag ah a_1 az ao a9 t,fun t=>[],fun t Z=>Q t Z⟩
def zMD:Prop:=qi qj none yGM 90 (zGD ar ag ah a_1 az ao a9 bi) [] [yXW ar ag ah a_1 az ao a9 Nx,zKB ar ag ah a_1 az ao a9 Q2] Z
def yGO:Prop:=qk qj none yGM 90 (zGD ar ag ah a_1 az ao a9 bi) [] [zKB ar ag ah a_1 az ao a9 Q2] Z
def zVO:Prop:=kZ qj zMB [0,0,0] (zFP 90 [zOM ar ag ah a_1 az ao q5,zCK ar ag ah a_1 az ao q6]) (.exit 2) 90 (zVM ar ag ah a_1 az ao a9 bi) Z
def yGL:Code:=(Code.part [1,1,1,0,0,0,0,1,0,0,0] (qh 112))
def zGC:lNa:=[(0,.slice (some ar) ag ah),(1,iV a_1),(4,.func (.func az) ⟨[]⟩ ⟨ao⟩),(11,iV bi),(12,iV bO)]
def yXV:Alt:=⟨Int,.normal,fun t=>zGC ar ag ah a_1 az ao bi t,fun t=>[],fun t Z=>Q t Z⟩
def zVL:lNa:=[(0,.slice (some ar) ag ah),(1,iV a_1),(4,.func (.func az) ⟨[]⟩ ⟨ao⟩),(11,iV bi),(12,iV bO)]
def zKA:Alt:=⟨Int,(.exit 4),fun t=>zVL ar ag ah a_1 az ao bi t,fun t=>[],fun t Z=>Q t Z⟩
def zMC:Prop:=qi qj none yGL 90 (zGC ar ag ah a_1 az ao bi bO) [] [yXV ar ag ah a_1 az ao bi Nx,zKA ar ag ah a_1 az ao bi Q4] Z
def yGN:Prop:=qk qj none yGL 90 (zGC ar ag ah a_1 az ao bi bO) [] [zKA ar ag ah a_1 az ao bi Q4] Z
def zKC:Prop:=kZ qj zMB [0,1,0,0] (zFP 90 [zOM ar ag ah a_1 az ao q5,zCK ar ag ah a_1 az ao q6]) (.exit 4) 90 (zVL ar ag ah a_1 az ao bi bO) Z
def zVP:Prop:=kZ qj (qh 112) [1,1,1,0,0] (ql 112 q2) (.exit 0) 90 (zVN ar ag ah a_1 az ao aA) Z
def xCS:Code:=(Code.part [1,1,1,0,0,0] (qh 113))
def zXK:lNa:=[(0,.slice (some ar) ag ah),(1,iV a_1),(4,.func (.func az) ⟨[]⟩ ⟨ao⟩),(12,iV a9),(13,iV kB)]
def xOL:Alt:=⟨Int,.normal,fun t=>zXK ar ag ah a_1 az ao kB t,fun t=>[],fun t Z=>Q t Z⟩
def yGH:lNa:=[(0,.slice (some ar) ag ah),(1,iV a_1),(4,.func (.func az) ⟨[]⟩ ⟨ao⟩),(12,iV a9),(13,iV kB)]
def zSP:Alt:=⟨Int,(.exit 0),fun t=>yGH ar ag ah a_1 az ao kB t,fun t=>[],fun t Z=>Q t Z⟩
def zXP:Prop:=qi qj none xCS 178 (zXK ar ag ah a_1 az ao kB a9) [] [xOL ar ag ah a_1 az ao kB Nx,zSP ar ag ah a_1 az ao kB q6] Z
def xCX:Prop:=qk qj none xCS 178 (zXK ar ag ah a_1 az ao kB a9) [] [zSP ar ag ah a_1 az ao kB q6] Z
def yGK:Prop:=kZ qj (qh 113) [1,1,1,0,0] (ql 113 q2) (.exit 0) 178 (yGH ar ag ah a_1 az ao kB a9) Z
def xCR:Code:=(Code.part [1,1,1,1,0,0,0] (qh 113))
def zQJ:lNa:=[(0,.slice (some ar) ag ah),(1,iV a_1),(4,.func (.func az) ⟨[]⟩ ⟨ao⟩),(12,iV a9),(13,iV bY)]
def xOK:Alt:=⟨Int,.normal,fun t=>zQJ ar ag ah a_1 az ao a9 t,fun t=>[],fun t Z=>Q t Z⟩
def yGG:lNa:=[(0,.slice (some ar) ag ah),(1,iV a_1),(4,.func (.func az) ⟨[]⟩ ⟨ao⟩),(12,iV a9),(13,iV bY)]
def zSO:Alt:=⟨Int,(.exit 2),fun t=>yGG ar ag ah a_1 az ao a9 t,fun t=>[],fun t Z=>Q t Z⟩
def zXO:Prop:=qi qj none xCR 178 (zQJ ar ag ah a_1 az ao a9 bY) [] [xOK ar ag ah a_1 az ao a9 Nx,zSO ar ag ah a_1 az ao a9 Q2] Z
def xCW:Prop:=qk qj none xCR 178 (zQJ ar ag ah a_1 az ao a9 bY) [] [zSO ar ag ah a_1 az ao a9 Q2] Z
def zSR:Prop:=kZ qj (qh 113) [1,1,1,1,0,0] (ql 113 q2) (.exit 2) 178 (yGG ar ag ah a_1 az ao a9 bY) Z
def zXL:Code:=(Code.part [1,1,1,1,1,1,1,1,1,0,0,0] (qh 113))
def zXJ:lNa:=[(0,.slice (some ar) ag ah),(1,iV a_1),(4,.func (.func az) ⟨[]⟩ ⟨ao⟩),(12,iV bO),(13,iV aE)]
def zZX:Alt:=⟨Int × Int,.normal,fun t=>zXJ ar ag ah a_1 az ao t.1 t.2,fun t=>[],fun t Z=>q4 t.1 t.2 Z⟩
def yGF (ar:Addr) (ag ah:Nat) (a_1:Int) (az:FuncId) (ao:lVa) (aE:Int):lNa:=[(0,.slice (some ar) ag ah),(1,iV a_1),(13,iV aE)]
def zGB:Alt:=⟨Int,(.exit 4),fun t=>yGF ar ag ah a_1 az ao t,fun t=>[],fun t Z=>Q t Z⟩
def xCY:Prop:=qi qj none zXL 178 (zXJ ar ag ah a_1 az ao bO aE) [] [zZX ar ag ah a_1 az ao q5,zGB ar ag ah a_1 az ao Q4] Z
def xCV:Prop:=qk qj none zXL 178 (zXJ ar ag ah a_1 az ao bO aE) [] [zGB ar ag ah a_1 az ao Q4] Z
def xCQ:Code:=(Code.part [1,1,1,1,1,1,1,1,1,0,0,0,0,0,0,0] (qh 113))
def zQI:lNa:=[(0,.slice (some ar) ag ah),(1,iV a_1),(4,.func (.func az) ⟨[]⟩ ⟨ao⟩),(12,iV bf),(13,iV aE)]
def xOJ:Alt:=⟨Int,.normal,fun t=>zQI ar ag ah a_1 az ao aE t,fun t=>[],fun t Z=>Q t Z⟩
def yGE:lNa:=[(0,.slice (some ar) ag ah),(1,iV a_1),(4,.func (.func az) ⟨[]⟩ ⟨ao⟩),(12,iV bf),(13,iV aE)]
def zSN:Alt:=⟨Int,(.exit 6),fun t=>yGE ar ag ah a_1 az ao aE t,fun t=>[],fun t Z=>Q t Z⟩
def zXN:Prop:=qi qj none xCQ 178 (zQI ar ag ah a_1 az ao aE bf) [] [xOJ ar ag ah a_1 az ao aE Nx,zSN ar ag ah a_1 az ao aE Q6] Z
def xCU:Prop:=qk qj none xCQ 178 (zQI ar ag ah a_1 az ao aE bf) [] [zSN ar ag ah a_1 az ao aE Q6] Z
def yGI:Prop:=kZ qj zXL [0,0,0] (zFP 178 [zZX ar ag ah a_1 az ao q5,zGB ar ag ah a_1 az ao Q4]) (.exit 6) 178 (yGE ar ag ah a_1 az ao aE bf) Z
def xCP:Code:=(Code.part [1,1,1,1,1,1,1,1,1,0,0,0,0,1,0,0,0] (qh 113))
def zQH:lNa:=[(0,.slice (some ar) ag ah),(1,iV a_1),(4,.func (.func az) ⟨[]⟩ ⟨ao⟩),(12,iV bf),(13,iV cx)]
def xOI:Alt:=⟨Int,.normal,fun t=>zQH ar ag ah a_1 az ao bf t,fun t=>[],fun t Z=>Q t Z⟩
def yGD:lNa:=[(0,.slice (some ar) ag ah),(1,iV a_1),(4,.func (.func az) ⟨[]⟩ ⟨ao⟩),(12,iV bf),(13,iV cx)]
def zSM:Alt:=⟨Int,(.exit 8),fun t=>yGD ar ag ah a_1 az ao bf t,fun t=>[],fun t Z=>Q t Z⟩
def zXM:Prop:=qi qj none xCP 178 (zQH ar ag ah a_1 az ao bf cx) [] [xOI ar ag ah a_1 az ao bf Nx,zSM ar ag ah a_1 az ao bf Q8] Z
def xCT:Prop:=qk qj none xCP 178 (zQH ar ag ah a_1 az ao bf cx) [] [zSM ar ag ah a_1 az ao bf Q8] Z
def zSQ:Prop:=kZ qj zXL [0,1,0,0] (zFP 178 [zZX ar ag ah a_1 az ao q5,zGB ar ag ah a_1 az ao Q4]) (.exit 8) 178 (yGD ar ag ah a_1 az ao bf cx) Z
def yGJ:Prop:=kZ qj (qh 113) [1,1,1,1,1,1,1,1,1,0,0] (ql 113 q2) (.exit 4) 178 (yGF ar ag ah a_1 az ao aE) Z
def zJY:Code:=(Code.part [1,1,0,1,0,0] (qh 111))
def zQL:lNa:=[(0,.slice data ag ah),(1,iV a_1),(2,iV b),(3,.func (.func az) ⟨[]⟩ ⟨ao⟩),(9,iV bZ),(10,iV aC)]
def zLZ:Alt:=⟨Int × Int,.normal,fun t=>zQL data ag ah a_1 b az ao t.1 t.2,fun t=>[],fun t Z=>q4 t.1 t.2 Z⟩
def yAC (data:oAa) (ag ah:Nat) (a_1 b:Int) (az:FuncId) (ao:lVa):lNa:=[]
def zBN:Alt:=⟨Unit,(.exit 0),fun t=>yAC data ag ah a_1 b az ao,fun t=>[],fun t Z=>q0 Z⟩
def yAB (data:oAa) (ag ah:Nat) (a_1 b:Int) (az:FuncId) (ao:lVa) (t8_1:Bool):lNa:=[(8,.bool t8_1)]
def zBM:Alt:=⟨Bool,.ret,fun t=>yAB data ag ah a_1 b az ao t,fun t=>[],fun t Z=>q7 t Z⟩
def yAG:Prop:=qi qj none zJY 141 (zQL data ag ah a_1 b az ao bZ aC) [] [zLZ data ag ah a_1 b az ao q5,zBN data ag ah a_1 b az ao Q0,zBM data ag ah a_1 b az ao Qr] Z
def yPW:Prop:=qk qj none zJY 141 (zQL data ag ah a_1 b az ao bZ aC) [] [zBN data ag ah a_1 b az ao Q0,zBM data ag ah a_1 b az ao Qr] Z
def yPU:Code:=(Code.part [1,1,0,1,0,0,1,0,0,0,0,0] (qh 111))
def zJX:lNa:=[(0,.slice data ag ah),(1,iV a_1),(2,iV b),(3,.func (.func az) ⟨[]⟩ ⟨ao⟩),(9,iV aS),(10,iV aC)]
def xHQ:Alt:=⟨Int,.normal,fun t=>zJX data ag ah a_1 b az ao aC t,fun t=>[],fun t Z=>Q t Z⟩
def yAA:lNa:=[(0,.slice data ag ah),(1,iV a_1),(2,iV b),(3,.func (.func az) ⟨[]⟩ ⟨ao⟩),(9,iV aS),(10,iV aC)]
def zOJ:Alt:=⟨Int,(.exit 2),fun t=>yAA data ag ah a_1 b az ao aC t,fun t=>[],fun t Z=>Q t Z⟩
def zQO:Prop:=qi qj none yPU 141 (zJX data ag ah a_1 b az ao aC aS) [] [xHQ data ag ah a_1 b az ao aC Nx,zOJ data ag ah a_1 b az ao aC Q2] Z
def yPV:Prop:=qk qj none yPU 141 (zJX data ag ah a_1 b az ao aC aS) [] [zOJ data ag ah a_1 b az ao aC Q2] Z
def zBO:Prop:=kZ qj zJY [1,0,0,0,0] (zFP 141 [zLZ data ag ah a_1 b az ao q5,zBN data ag ah a_1 b az ao Q0,zBM data ag ah a_1 b az ao Qr]) (.exit 2) 141 (yAA data ag ah a_1 b az ao aC aS) Z
def yPT:Code:=(Code.part [1,1,0,1,0,0,1,0,0,1,1,1,1,0,1,0,1,0,0] (qh 111))
def zQK (ar:Addr) (ag ah:Nat) (a_1 b:Int) (az:FuncId) (ao:lVa) (aS aC dK:Int):lNa:=[(0,.slice (some ar) ag ah),(1,iV a_1),(2,iV b),(3,.func (.func az) ⟨[]⟩ ⟨ao⟩),(9,iV aS),(10,iV aC),(11,iV dK)]
def xHP (ar:Addr) (ag ah:Nat) (a_1 b:Int) (az:FuncId) (ao:lVa) (aS aC:Int) (Q:Int->St->Prop):Alt:=⟨Int,.normal,fun t=>zQK ar ag ah a_1 b az ao aS aC t,fun t=>[],fun t Z=>Q t Z⟩
def zZZ (ar:Addr) (ag ah:Nat) (a_1 b:Int) (az:FuncId) (ao:lVa) (aS aC:Int):lNa:=[(0,.slice (some ar) ag ah),(1,iV a_1),(2,iV b),(3,.func (.func az) ⟨[]⟩ ⟨ao⟩),(9,iV aS),(10,iV aC)]
def zOI (ar:Addr) (ag ah:Nat) (a_1 b:Int) (az:FuncId) (ao:lVa) (aS aC:Int) (Q:St->Prop):Alt:=⟨Unit,(.exit 4),fun t=>zZZ ar ag ah a_1 b az ao aS aC,fun t=>[],fun t Z=>Q Z⟩
def zQN (ar:Addr) (ag ah:Nat) (a_1 b:Int) (az:FuncId) (ao:lVa) (aS aC dK:Int) (Z:St) (Nx:Int->St->Prop) (Q4:St->Prop):Prop:=qi qj none yPT 141 (zQK ar ag ah a_1 b az ao aS aC dK) [] [xHP ar ag ah a_1 b az ao aS aC Nx,zOI ar ag ah a_1 b az ao aS aC Q4] Z
def yAD (ar:Addr) (ag ah:Nat) (a_1 b:Int) (az:FuncId) (ao:lVa) (aS aC dK:Int) (Z:St) (Q4:St->Prop):Prop:=qk qj none yPT 141 (zQK ar ag ah a_1 b az ao aS aC dK) [] [zOI ar ag ah a_1 b az ao aS aC Q4] Z
def zOL (data:oAa) (ar:Addr) (ag ah:Nat) (a_1 b:Int) (az:FuncId) (ao:lVa) (aS aC:Int) (Z:St) (Nx:Int->Int->St->Prop) (Q0:St->Prop) (Qr:Bool->St->Prop):Prop:=kZ qj zJY [1,0,0,1,1,1,1,0,1,0,1,0] (zFP 141 [zLZ data ag ah a_1 b az ao Nx,zBN data ag ah a_1 b az ao Q0,zBM data ag ah a_1 b az ao Qr]) (.exit 4) 141 (zZZ ar ag ah a_1 b az ao aS aC) Z
def yPS:Code:=(Code.part [1,1,0,1,0,0,1,0,0,1,1,1,1,1,1,0,1,0,0] (qh 111))
def zJW (ar:Addr) (ag ah:Nat) (a_1 b:Int) (az:FuncId) (ao:lVa) (aS aC bf:Int):lNa:=[(0,.slice (some ar) ag ah),(1,iV a_1),(2,iV b),(3,.func (.func az) ⟨[]⟩ ⟨ao⟩),(9,iV aS),(10,iV aC),(12,iV bf)]
def xHO (ar:Addr) (ag ah:Nat) (a_1 b:Int) (az:FuncId) (ao:lVa) (aS aC:Int) (Q:Int->St->Prop):Alt:=⟨Int,.normal,fun t=>zJW ar ag ah a_1 b az ao aS aC t,fun t=>[],fun t Z=>Q t Z⟩
def zZY (ar:Addr) (ag ah:Nat) (a_1 b:Int) (az:FuncId) (ao:lVa) (aS aC:Int):lNa:=[(0,.slice (some ar) ag ah),(1,iV a_1),(2,iV b),(3,.func (.func az) ⟨[]⟩ ⟨ao⟩),(9,iV aS),(10,iV aC)]
def zHJ (ar:Addr) (ag ah:Nat) (a_1 b:Int) (az:FuncId) (ao:lVa) (aS aC:Int) (Q:St->Prop):Alt:=⟨Unit,(.exit 6),fun t=>zZY ar ag ah a_1 b az ao aS aC,fun t=>[],fun t Z=>Q Z⟩
def zQM (ar:Addr) (ag ah:Nat) (a_1 b:Int) (az:FuncId) (ao:lVa) (aS aC bf:Int) (Z:St) (Nx:Int->St->Prop) (Q6:St->Prop):Prop:=qi qj none yPS 141 (zJW ar ag ah a_1 b az ao aS aC bf) [] [xHO ar ag ah a_1 b az ao aS aC Nx,zHJ ar ag ah a_1 b az ao aS aC Q6] Z
def zJZ (ar:Addr) (ag ah:Nat) (a_1 b:Int) (az:FuncId) (ao:lVa) (aS aC bf:Int) (Z:St) (Q6:St->Prop):Prop:=qk qj none yPS 141 (zJW ar ag ah a_1 b az ao aS aC bf) [] [zHJ ar ag ah a_1 b az ao aS aC Q6] Z
def zOK (data:oAa) (ar:Addr) (ag ah:Nat) (a_1 b:Int) (az:FuncId) (ao:lVa) (aS aC:Int) (Z:St) (Nx:Int->Int->St->Prop) (Q0:St->Prop) (Qr:Bool->St->Prop):Prop:=kZ qj zJY [1,0,0,1,1,1,1,1,1,0,1,0] (zFP 141 [zLZ data ag ah a_1 b az ao Nx,zBN data ag ah a_1 b az ao Q0,zBM data ag ah a_1 b az ao Qr]) (.exit 6) 141 (zZY ar ag ah a_1 b az ao aS aC) Z
def yAF:Prop:=kZ qj (qh 111) [1,1,0,1,0] (ql 111 q2) (.exit 0) 141 (yAC data ag ah a_1 b az ao) Z
def yAE:Prop:=kZ qj (qh 111) [1,1,0,1,0] (ql 111 q2) .ret 141 (yAB data ag ah a_1 b az ao t8_1) Z
end
variable {data:oAa} {ag ah:Nat} {a_1 b aF aS nM nT nU nP nH nI nJ hi first aC nG nF nA nB nD nE nK nQ nR nS nW nHC nIC nBI lo_1 kB aA eA a9 bi bO nV nMB nGB nNB nOB nHB nKB nEB nFB nX nY nZ nAB dL n1 n2 n3 n4 n5 n6 bY nXB nBJ nBK nYB nZB nAC aE bf nCB nIB nPB nQB nRB nSB nWB cx nBL nBM nBN nBO nBP nBQ nBR nBk nBl nBm nBn nBo nBp nBq nBr nBs nBt nBu nBv bZ dK nLB nJB nBC nCC nDC nEC:Int} {az:FuncId} {ao:lVa} {Inv:Nat->Int->St->Prop} {Q0 P0 Pr P6:St->Prop} {Q2 Nx P2 Q4 P4 Q6 Q8 P8:Int->St->Prop} {ar:Addr} {ZKB ZLB Z ZIB ZQ ZBB ZA ZN ZMB ZCB ZBC ZCC ZDC Z7 Z8 ZX ZNB ZEC ZFC ZGC ZHC ZIC ZJC ZDB ZEB ZBA ZBD:St} {Q:vPa} {Qr:Bool->St->Prop} {t8_1:Bool}
theorem yAV (hb:∀ k aF Z,Inv k aF Z->yLK data ag ah a_1 b az ao aF Z (NX1 Inv k) Q0):∀ k aF Z,Inv k aF Z->xDM data ag ah a_1 b az ao aF Z Q0 :=
 xE (ai (xV 0) trivial) hb
theorem yYP {Q2:St->Prop} (hb:∀ k aS Z,Inv k aS Z->zXR data ag ah a_1 b az ao aF aS Z (NX1 Inv k) Q2):∀ k aS Z,Inv k aS Z->xDL data ag ah a_1 b az ao aF aS Z Q2 :=
 xE (ai (xV 2) trivial) hb
theorem xPZ {Q2:St->Prop}:let y0:=rcd nM nT nU;let y1:=rcd nP nH nI;let y2:=zJ ar (Int.toNat (aS-1)*3);let y3:=zJ ar (Int.toNat aS*3);∀ (h1:lz Z 45 y3 (qf y0)) (h2:lz Z 45 y2 (qf y1)) (h3:qm az (qf y0::(qf y1)::ao) Z (iV nJ) Z) (h4:qo (evL [pz y3,qf y1]) Z (.store 45 (.tmp 0) (.tmp 1))=some (undef,ZKB)) (h5:qo (evL [pz y2,qf y0]) ZKB (.store 45 (.tmp 0) (.tmp 1))=some (undef,ZLB)) (nx:Nx (aS-1) ZLB) (u1:a_1<aS:=by omega) (u2:Ix aS ag:=by omega) (u3:I6 (aS-1):=by omega) (u4:Ix (aS-1) ag:=by omega) (u5:nJ<0:=by omega),zXR (some ar) ag ah a_1 b az ao aF aS Z Nx Q2 :=
 let y0:=rcd nM nT nU;let y1:=rcd nP nH nI;fun h1 h2 h3 h4 h5 nx u1 u2 u3 u4 u5=>kO 0 (aS-1) [.g,.g,.b true,.g,.g,.g,.g,.i,.l (qf y0),.g,.g,.n (aS-1),.i,.l (qf y1),.c (iV nJ) Z,.b true,.g,.g,.g,.g,.g,.n (aS-1),.g,.g,.n (aS-1),.i,.l (qf y1),.g,.g,.i,.l (qf y0),.i,.e undef ZKB,.i,.e undef ZLB,.g,.n (aS-1),.g] (fun _ f=>ai (zR u1) (an6 u2 h1 (w64 u3) u4 h2 h3 (an6 (zR u5) (w64 u3) (w64 u3) u4 h2 u2 (an6 h1 u2 h4 u4 h5 (w64 u3) f)))) nx
theorem xPY {Q2:St->Prop} (h1:lz Z 45 (zJ ar (Int.toNat aS*3)) (qf (rcd nM nT nU))) (h2:lz Z 45 (zJ ar (Int.toNat (aS-1)*3)) (qf (rcd nP nH nI))) (h3:qm az (qf (rcd nM nT nU)::(qf (rcd nP nH nI))::ao) Z (iV nJ) Z) (nx:Q2 Z) (u1:a_1<aS:=by omega) (u2:Ix aS ag:=by omega) (u3:I6 (aS-1):=by omega) (u4:Ix (aS-1) ag:=by omega) (u5:¬ nJ<0:=by omega):zXR (some ar) ag ah a_1 b az ao aF aS Z Nx Q2 :=
 kO 1 () [.g,.g,.b true,.g,.g,.g,.g,.i,.l (qf (rcd nM nT nU)),.g,.g,.n (aS-1),.i,.l (qf (rcd nP nH nI)),.c (iV nJ) Z,.b false,.g] (fun _ f=>an2 (zR u1) u2 (an6 h1 (w64 u3) u4 h2 h3 (zT u5) f)) nx
theorem xPX {Q2:St->Prop} (nx:Q2 Z) (u1:¬ a_1<aS:=by omega):zXR data ag ah a_1 b az ao aF aS Z Nx Q2 :=
 kO 1 () [.g,.g,.b false,.g,.g] (fun _ f=>ai (zT u1) f) nx
theorem xQA {P2:St->Prop} (hL:xDL data ag ah a_1 b az ao aF aF Z P2) (k2:∀ Z',P2 Z'->yHB data ag ah a_1 b az ao aF Z' Nx Q0) (u1:aF<b:=by omega):yLK data ag ah a_1 b az ao aF Z Nx Q0 :=
 zCE [.g,.g,.b true,.g,.g,.lf 53 (zQT data ag ah a_1 b az ao aF aF) [zSY data ag ah a_1 b az ao aF P2]] (fun g=>kd (ai (zR u1) (ai (ai tt (ai (arf (zQT data ag ah a_1 b az ao aF aF)) hL)) (ai (kz0 k2) trivial))))
theorem yQK (nx:Q0 Z) (u1:¬ aF<b:=by omega):yLK data ag ah a_1 b az ao aF Z Nx Q0 :=
 kO 1 () [.g,.g,.b false] (fun _ f=>ai (zT u1) f) nx
theorem yYO (nx:Nx (aF+1) Z) (u1:I6 (aF+1):=by omega):yHB data ag ah a_1 b az ao aF Z Nx Q0 :=
 sF 0 (aF+1) [.g,.n (aF+1),.g] (fun _ f=>ai (w64 u1) f) nx
theorem xDJ (hL:xDM data ag ah a_1 b az ao (a_1+1) Z P0) (k0:∀ Z',P0 Z'->yHC data ag ah a_1 b az ao Z' Q) (u1:I6 (a_1+1):=by omega):qg 106 [.slice data ag ah,iV a_1,iV b,.func (.func az) ⟨[]⟩ ⟨ao⟩] Z Q :=
 let s1:=zXQ data ag ah a_1 b az ao (a_1+1);zH [.g,.n (a_1+1),.g,.lf 53 s1 [zMJ data ag ah a_1 b az ao P0]] (kd (ai (w64 u1) (ai (ai tt (ai (arf s1) hL)) (ai (kz0 k0) trivial))))
theorem yAU (nx:Q (.tuple ⟨[]⟩) Z):yHC data ag ah a_1 b az ao Z Q :=
 sK [] nx
theorem yNV {Qr:St->Prop} (hb:∀ k aC Z,Inv k aC Z->zCH data ag ah hi first az ao aC Z (NX1 Inv k) Q0 Qr):∀ k aC Z,Inv k aC Z->yNX data ag ah hi first az ao aC Z Q0 Qr :=
 xE (ai (xV 0) (ai uZ trivial)) hb
theorem xFF {Qr:St->Prop} (nx:Q0 Z) (u1:I6 (2*aC):=by omega) (u2:I6 ((2*aC)+1):=by omega) (u3:hi<=((2*aC)+1):=by omega):zCH data ag ah hi first az ao aC Z Nx Q0 Qr :=
 kO 1 () [.g,.n (2*aC),.n ((2*aC)+1),.g,.g,.g,.b true] (fun _ f=>an3 (w64 u1) (w64 u2) (yE u3) f) nx
@[reducible] def Ha2 (Z:St) (ar:Addr) (first aC nG nF nA nB nD nE nK nQ nR nS nW nHC nIC nBI:Int) (az:FuncId) (ao:lVa):Prop:=qn Z 45 (zJ ar (Int.toNat (first+((2*aC)+1))*3))=some (.agg ⟨rcd nG nF nA⟩)/\qn Z 45 (zJ ar (Int.toNat ((first+((2*aC)+1))+1)*3))=some (.agg ⟨rcd nB nD nE⟩)/\qm az (.agg ⟨rcd nG nF nA⟩::.agg ⟨rcd nB nD nE⟩::ao) Z (iV nK) Z/\qn Z 45 (zJ ar (Int.toNat (first+aC)*3))=some (.agg ⟨rcd nQ nR nS⟩)/\qn Z 45 (zJ ar (Int.toNat (first+(((2*aC)+1)+1))*3))=some (.agg ⟨rcd nW nHC nIC⟩)/\qm az (.agg ⟨rcd nQ nR nS⟩::.agg ⟨rcd nW nHC nIC⟩::ao) Z (iV nBI) Z
theorem xFE {Qr:St->Prop}:let y0:=(2*aC)+1;let y1:=first+aC;∀ (H:Ha2 Z ar first aC nG nF nA nB nD nE nK nQ nR nS nW nHC nIC nBI az ao) (h7:qo (evL [pz (zJ ar (Int.toNat y1*3)),qf (rcd nW nHC nIC)]) Z (.store 45 (.tmp 0) (.tmp 1))=some (undef,ZIB)) (h8:qo (evL [pz (zJ ar (Int.toNat (first+(y0+1))*3)),qf (rcd nQ nR nS)]) ZIB (.store 45 (.tmp 0) (.tmp 1))=some (undef,ZQ)) (nx:Nx (y0+1) ZQ) (u1:I6 (2*aC):=by omega) (u2:I6 y0:=by omega) (u3:¬ hi<=y0:=by omega) (u4:I6 (y0+1):=by omega) (u5:(y0+1)<hi:=by omega) (u6:I6 (first+y0):=by omega) (u7:Ix (first+y0) ag:=by omega) (u8:I6 ((first+y0)+1):=by omega) (u9:Ix ((first+y0)+1) ag:=by omega) (u10:nK<0:=by omega) (u11:I6 y1:=by omega) (u12:Ix y1 ag:=by omega) (u13:I6 (first+(y0+1)):=by omega) (u14:Ix (first+(y0+1)) ag:=by omega) (u15:nBI<0:=by omega),zCH (some ar) ag ah hi first az ao aC Z Nx Q0 Qr :=
 fun H h7 h8 nx u1 u2 u3 u4 u5 u6 u7 u8 u9 u10 u11 u12 u13 u14 u15=>match H with|⟨h1,h2,h3,h4,h5,h6⟩=>let s1:=(2*aC)+1;let s2:=first+(s1+1);let s3:=first+aC;let s4:=first+s1;kO 0 (s1+1) [.g,.n (2*aC),.n s1,.g,.g,.g,.b false,.g,.n (s1+1),.g,.b true,.g,.g,.g,.g,.g,.n s4,.i,.l (qf (rcd nG nF nA)),.g,.g,.g,.n s4,.n (s4+1),.i,.l (qf (rcd nB nD nE)),.c (iV nK) Z,.b true,.g,.g,.n (s1+1),.g,.g,.g,.g,.g,.n s3,.i,.l (qf (rcd nQ nR nS)),.g,.g,.g,.n s2,.i,.l (qf (rcd nW nHC nIC)),.c (iV nBI) Z,.b true,.g,.g,.g,.g,.n s3,.g,.g,.g,.n s2,.g,.g,.g,.n s2,.i,.l (qf (rcd nW nHC nIC)),.g,.g,.g,.n s3,.i,.l (qf (rcd nQ nR nS)),.i,.e undef ZIB,.i,.e undef ZQ,.g,.g] (fun _ f=>an5 (w64 u1) (w64 u2) (yH u3) (w64 u4) (zR u5) (an6 (w64 u6) u7 h1 (w64 u6) (w64 u8) u9 (an6 h2 h3 (zR u10) (w64 u4) (w64 u11) u12 (an6 h4 (w64 u13) u14 h5 h6 (zR u15) (an6 (w64 u11) (w64 u13) (w64 u13) u14 h5 (w64 u11) (an6 u12 h4 u12 h7 u14 h8 f)))))) nx
theorem xFD {Qr:St->Prop} (H:Ha2 Z ar first aC nG nF nA nB nD nE nK nQ nR nS nW nHC nIC nBI az ao) (nx:Qr Z) (u1:I6 (2*aC):=by omega) (u2:I6 ((2*aC)+1):=by omega) (u3:¬ hi<=((2*aC)+1):=by omega) (u4:I6 (((2*aC)+1)+1):=by omega) (u5:(((2*aC)+1)+1)<hi:=by omega) (u6:I6 (first+((2*aC)+1)):=by omega) (u7:Ix (first+((2*aC)+1)) ag:=by omega) (u8:I6 ((first+((2*aC)+1))+1):=by omega) (u9:Ix ((first+((2*aC)+1))+1) ag:=by omega) (u10:nK<0:=by omega) (u11:I6 (first+aC):=by omega) (u12:Ix (first+aC) ag:=by omega) (u13:I6 (first+(((2*aC)+1)+1)):=by omega) (u14:Ix (first+(((2*aC)+1)+1)) ag:=by omega) (u15:¬ nBI<0:=by omega):zCH (some ar) ag ah hi first az ao aC Z Nx Q0 Qr :=
 match H with|⟨h1,h2,h3,h4,h5,h6⟩=>let s1:=(2*aC)+1;let s2:=first+s1;kO 2 () [.g,.n (2*aC),.n s1,.g,.g,.g,.b false,.g,.n (s1+1),.g,.b true,.g,.g,.g,.g,.g,.n s2,.i,.l (qf (rcd nG nF nA)),.g,.g,.g,.n s2,.n (s2+1),.i,.l (qf (rcd nB nD nE)),.c (iV nK) Z,.b true,.g,.g,.n (s1+1),.g,.g,.g,.g,.g,.n (first+aC),.i,.l (qf (rcd nQ nR nS)),.g,.g,.g,.n (first+(s1+1)),.i,.l (qf (rcd nW nHC nIC)),.c (iV nBI) Z,.b false,.g] (fun _ f=>an5 (w64 u1) (w64 u2) (yH u3) (w64 u4) (zR u5) (an6 (w64 u6) u7 h1 (w64 u6) (w64 u8) u9 (an6 h2 h3 (zR u10) (w64 u4) (w64 u11) u12 (an6 h4 (w64 u13) u14 h5 h6 (zT u15) f)))) nx
theorem xFC {Qr:St->Prop}:let s2:=(2*aC)+1;let s1:=first+s2;let s3:=first+aC;let y0:=rcd nG nF nA;let y1:=rcd nQ nR nS;let y2:=zJ ar (Int.toNat s1*3);let y3:=zJ ar (Int.toNat s3*3);∀ (h1:lz Z 45 y2 (qf y0)) (h2:lz Z 45 (zJ ar (Int.toNat (s1+1)*3)) (qf (rcd nB nD nE))) (h3:qm az (qf y0::(qf (rcd nB nD nE))::ao) Z (iV nK) Z) (h4:lz Z 45 y3 (qf y1)) (h5:qm az (qf y1::(qf y0)::ao) Z (iV nW) Z) (h6:qo (evL [pz y3,qf y0]) Z (.store 45 (.tmp 0) (.tmp 1))=some (undef,ZBB)) (h7:qo (evL [pz y2,qf y1]) ZBB (.store 45 (.tmp 0) (.tmp 1))=some (undef,ZA)) (nx:Nx s2 ZA) (u1:I6 (2*aC):=by omega) (u2:I6 s2:=by omega) (u3:¬ hi<=s2:=by omega) (u4:I6 (s2+1):=by omega) (u5:(s2+1)<hi:=by omega) (u6:I6 s1:=by omega) (u7:Ix s1 ag:=by omega) (u8:I6 (s1+1):=by omega) (u9:Ix (s1+1) ag:=by omega) (u10:¬ nK<0:=by omega) (u11:I6 s3:=by omega) (u12:Ix s3 ag:=by omega) (u13:nW<0:=by omega),zCH (some ar) ag ah hi first az ao aC Z Nx Q0 Qr:=
 let s2:=(2*aC)+1;let s1:=first+s2;let s3:=first+aC;let y0:=rcd nG nF nA;let y1:=rcd nQ nR nS;fun h1 h2 h3 h4 h5 h6 h7 nx u1 u2 u3 u4 u5 u6 u7 u8 u9 u10 u11 u12 u13=>kO 0 s2 [.g,.n (2*aC),.n s2,.g,.g,.g,.b false,.g,.n (s2+1),.g,.b true,.g,.g,.g,.g,.g,.n s1,.i,.l (qf y0),.g,.g,.g,.n s1,.n (s1+1),.i,.l (qf (rcd nB nD nE)),.c (iV nK) Z,.b false,.g,.g,.g,.g,.g,.n s3,.i,.l (qf y1),.g,.g,.g,.n s1,.i,.l (qf y0),.c (iV nW) Z,.b true,.g,.g,.g,.g,.n s3,.g,.g,.g,.n s1,.g,.g,.g,.n s1,.i,.l (qf y0),.g,.g,.g,.n s3,.i,.l (qf y1),.i,.e undef ZBB,.i,.e undef ZA,.g,.g] (fun _ f=>an4 (w64 u1) (w64 u2) (yH u3) (w64 u4) (an6 (zR u5) (w64 u6) u7 h1 (w64 u6) (w64 u8) (an6 u9 h2 h3 (zT u10) (w64 u11) u12 (an6 h4 (w64 u6) u7 h1 h5 (zR u13) (an6 (w64 u11) (w64 u6) (w64 u6) u7 h1 (w64 u11) (an6 u12 h4 u12 h6 u7 h7 f)))))) nx
theorem xFB {Qr:St->Prop}:let s2:=2*aC;let s1:=first+(s2+1);let y0:=rcd nG nF nA;∀ (h1:lz Z 45 (zJ ar (Int.toNat s1*3)) (qf y0)) (h2:lz Z 45 (zJ ar (Int.toNat (s1+1)*3)) (qf (rcd nB nD nE))) (h3:qm az (qf y0::(qf (rcd nB nD nE))::ao) Z (iV nK) Z) (h4:lz Z 45 (zJ ar (Int.toNat (first+aC)*3)) (qf (rcd nQ nR nS))) (h5:qm az (qf (rcd nQ nR nS)::(qf y0)::ao) Z (iV nW) Z) (nx:Qr Z) (u1:I6 s2:=by omega) (u2:I6 (s2+1):=by omega) (u3:¬ hi<=(s2+1):=by omega) (u4:I6 ((s2+1)+1):=by omega) (u5:((s2+1)+1)<hi:=by omega) (u6:I6 s1:=by omega) (u7:Ix s1 ag:=by omega) (u8:I6 (s1+1):=by omega) (u9:Ix (s1+1) ag:=by omega) (u10:¬ nK<0:=by omega) (u11:I6 (first+aC):=by omega) (u12:Ix (first+aC) ag:=by omega) (u13:¬ nW<0:=by omega),zCH (some ar) ag ah hi first az ao aC Z Nx Q0 Qr:=
 let s2:=2*aC;let s1:=first+(s2+1);let y0:=rcd nG nF nA;fun h1 h2 h3 h4 h5 nx u1 u2 u3 u4 u5 u6 u7 u8 u9 u10 u11 u12 u13=>kO 2 () [.g,.n s2,.n (s2+1),.g,.g,.g,.b false,.g,.n ((s2+1)+1),.g,.b true,.g,.g,.g,.g,.g,.n s1,.i,.l (qf y0),.g,.g,.g,.n s1,.n (s1+1),.i,.l (qf (rcd nB nD nE)),.c (iV nK) Z,.b false,.g,.g,.g,.g,.g,.n (first+aC),.i,.l (qf (rcd nQ nR nS)),.g,.g,.g,.n s1,.i,.l (qf y0),.c (iV nW) Z,.b false,.g] (fun _ f=>an4 (w64 u1) (w64 u2) (yH u3) (w64 u4) (an6 (zR u5) (w64 u6) u7 h1 (w64 u6) (w64 u8) (an6 u9 h2 h3 (zT u10) (w64 u11) u12 (an6 h4 (w64 u6) u7 h1 h5 (zT u13) f)))) nx
theorem xFA {Qr:St->Prop}:let s1:=(2*aC)+1;let s2:=first+aC;let s3:=first+s1;let y0:=rcd nG nF nA;let y1:=rcd nB nD nE;let y2:=zJ ar (Int.toNat s2*3);let y3:=zJ ar (Int.toNat s3*3);∀ (h1:lz Z 45 y2 (qf y0)) (h2:lz Z 45 y3 (qf y1)) (h3:qm az (qf y0::(qf y1)::ao) Z (iV nK) Z) (h4:qo (evL [pz y2,qf y1]) Z (.store 45 (.tmp 0) (.tmp 1))=some (undef,ZN)) (h5:qo (evL [pz y3,qf y0]) ZN (.store 45 (.tmp 0) (.tmp 1))=some (undef,ZMB)) (nx:Nx s1 ZMB) (u1:I6 (2*aC):=by omega) (u2:I6 s1:=by omega) (u3:¬ hi<=s1:=by omega) (u4:I6 (s1+1):=by omega) (u5:¬ (s1+1)<hi:=by omega) (u6:I6 s2:=by omega) (u7:Ix s2 ag:=by omega) (u8:I6 s3:=by omega) (u9:Ix s3 ag:=by omega) (u10:nK<0:=by omega),zCH (some ar) ag ah hi first az ao aC Z Nx Q0 Qr:=
 let s1:=(2*aC)+1;let s2:=first+aC;let s3:=first+s1;let y0:=rcd nG nF nA;let y1:=rcd nB nD nE;fun h1 h2 h3 h4 h5 nx u1 u2 u3 u4 u5 u6 u7 u8 u9 u10=>kO 0 s1 [.g,.n (2*aC),.n s1,.g,.g,.g,.b false,.g,.n (s1+1),.g,.b false,.g,.g,.g,.g,.g,.g,.n s2,.i,.l (qf y0),.g,.g,.g,.n s3,.i,.l (qf y1),.c (iV nK) Z,.b true,.g,.g,.g,.g,.n s2,.g,.g,.g,.n s3,.g,.g,.g,.n s3,.i,.l (qf y1),.g,.g,.g,.n s2,.i,.l (qf y0),.i,.e undef ZN,.i,.e undef ZMB,.g,.g] (fun _ f=>ai (w64 u1) (an6 (w64 u2) (yH u3) (w64 u4) (zT u5) (w64 u6) u7 (an6 h1 (w64 u8) u9 h2 h3 (zR u10) (an6 (w64 u6) (w64 u8) (w64 u8) u9 h2 (w64 u6) (an6 u7 h1 u7 h4 u9 h5 f))))) nx
theorem xEZ {Qr:St->Prop} (h1:lz Z 45 (zJ ar (Int.toNat (first+aC)*3)) (qf (rcd nG nF nA))) (h2:lz Z 45 (zJ ar (Int.toNat (first+((2*aC)+1))*3)) (qf (rcd nB nD nE))) (h3:qm az (qf (rcd nG nF nA)::(qf (rcd nB nD nE))::ao) Z (iV nK) Z) (nx:Qr Z) (u1:I6 (2*aC):=by omega) (u2:I6 ((2*aC)+1):=by omega) (u3:¬ hi<=((2*aC)+1):=by omega) (u4:I6 (((2*aC)+1)+1):=by omega) (u5:¬ (((2*aC)+1)+1)<hi:=by omega) (u6:I6 (first+aC):=by omega) (u7:Ix (first+aC) ag:=by omega) (u8:I6 (first+((2*aC)+1)):=by omega) (u9:Ix (first+((2*aC)+1)) ag:=by omega) (u10:¬ nK<0:=by omega):zCH (some ar) ag ah hi first az ao aC Z Nx Q0 Qr :=
 let s1:=(2*aC)+1;kO 2 () [.g,.n (2*aC),.n s1,.g,.g,.g,.b false,.g,.n (s1+1),.g,.b false,.g,.g,.g,.g,.g,.g,.n (first+aC),.i,.l (qf (rcd nG nF nA)),.g,.g,.g,.n (first+s1),.i,.l (qf (rcd nB nD nE)),.c (iV nK) Z,.b false,.g] (fun _ f=>ai (w64 u1) (an6 (w64 u2) (yH u3) (w64 u4) (zT u5) (w64 u6) u7 (an6 h1 (w64 u8) u9 h2 h3 (zT u10) f))) nx
theorem xMF (hL:yNX data ag ah hi first az ao lo_1 Z P0 Pr) (k0:∀ Z',P0 Z'->zYV data ag ah hi first az ao Z' Q) (kr:∀ Z',Pr Z'->zYU data ag ah hi first az ao Z' Q):qg 121 [.slice data ag ah,iV lo_1,iV hi,iV first,.func (.func az) ⟨[]⟩ ⟨ao⟩] Z Q :=
 zH [.g,.g,.lf 82 (zJD data ag ah hi first az ao lo_1) [zOB data ag ah hi first az ao P0,zOA data ag ah hi first az ao Pr]] (kd (ai (ai tt (ai (arf (zJD data ag ah hi first az ao lo_1)) hL)) (ai (kz0 k0) (ai (kz0 kr) trivial))))
theorem yNU (nx:Q (.tuple ⟨[]⟩) Z):zYV data ag ah hi first az ao Z Q :=
 sK [] nx
theorem yNT (nx:Q (.tuple ⟨[]⟩) Z):zYU data ag ah hi first az ao Z Q :=
 sK [] nx
theorem yQV (hb:∀ k aA Z,Inv k aA Z->yBH data ag ah az ao a_1 kB aA Z (NX1 Inv k) Q0):∀ k aA Z,Inv k aA Z->yQZ data ag ah az ao a_1 kB aA Z Q0 :=
 xE (ai (xV 0) trivial) hb
theorem xII (h1:qm 121 [.slice data ag ah,iV aA,iV kB,iV a_1,.func (.func az) ⟨[]⟩ ⟨ao⟩] Z (.tuple ⟨[]⟩) ZCB) (nx:Nx (aA-1) ZCB) (u1:0<=aA:=by omega) (u2:I6 (aA-1):=by omega):yBH data ag ah az ao a_1 kB aA Z Nx Q0 :=
 kO 0 (aA-1) [.g,.b true,.g,.g,.g,.g,.g,.c (.tuple ⟨[]⟩) ZCB,.g,.n (aA-1),.g] (fun _ f=>an3 (yE u1) h1 (w64 u2) f) nx
theorem xIH (nx:Q0 Z) (u1:¬ 0<=aA:=by omega):yBH data ag ah az ao a_1 kB aA Z Nx Q0 :=
 kO 1 () [.g,.b false] (fun _ f=>ai (yH u1) f) nx
theorem xQU (h1:IntKind.wrap .i64 (Int.tdiv ((b-a_1)-1) 2)=Int.tdiv ((b-a_1)-1) 2) (hL:yQZ data ag ah az ao a_1 (b-a_1) (Int.tdiv ((b-a_1)-1) 2) Z P0) (k0:∀ Z',P0 Z'->yBF data ag ah az ao a_1 (b-a_1) Z' Q) (u1:I6 (b-a_1):=by omega) (u2:I6 ((b-a_1)-1):=by omega):qg 107 [.slice data ag ah,iV a_1,iV b,.func (.func az) ⟨[]⟩ ⟨ao⟩] Z Q :=
 let s1:=zRB data ag ah az ao a_1 (b-a_1) (Int.tdiv ((b-a_1)-1) 2);zH [.g,.g,.g,.g,.g,.n (b-a_1),.g,.g,.n ((b-a_1)-1),.n (Int.tdiv ((b-a_1)-1) 2),.g,.lf 60 s1 [zOU data ag ah az ao a_1 (b-a_1) P0]] (kd (an3 (w64 u1) (w64 u2) h1 (ai (ai tt (ai (arf s1) hL)) (ai (kz0 k0) trivial))))
theorem yQU {Q2:St->Prop} (hb:∀ k eA Z,Inv k eA Z->yBG data ag ah az ao a_1 eA Z (NX1 Inv k) Q2):∀ k eA Z,Inv k eA Z->yQY data ag ah az ao a_1 eA Z Q2 :=
 xE (ai (xV 2) trivial) hb
theorem xIG {Q2:St->Prop} (h1:lz Z 45 (zJ ar (Int.toNat (a_1+eA)*3)) (qf (rcd nM nT nU))) (h2:lz Z 45 (zJ ar (Int.toNat a_1*3)) (qf (rcd nP nH nI))) (h3:qo (evL [pz (zJ ar (Int.toNat a_1*3)),qf (rcd nM nT nU)]) Z (.store 45 (.tmp 0) (.tmp 1))=some (undef,ZBC)) (h4:qo (evL [pz (zJ ar (Int.toNat (a_1+eA)*3)),qf (rcd nP nH nI)]) ZBC (.store 45 (.tmp 0) (.tmp 1))=some (undef,ZKB)) (h5:qm 121 [.slice (some ar) ag ah,iV 0,iV eA,iV a_1,.func (.func az) ⟨[]⟩ ⟨ao⟩] ZKB (.tuple ⟨[]⟩) ZLB) (nx:Nx (eA-1) ZLB) (u1:0<=eA:=by omega) (u2:I6 (a_1+eA):=by omega) (u3:Ix (a_1+eA) ag:=by omega) (u4:Ix a_1 ag:=by omega) (u5:I6 (eA-1):=by omega):yBG (some ar) ag ah az ao a_1 eA Z Nx Q2 :=
 kO 0 (eA-1) [.g,.b true,.g,.g,.g,.g,.g,.n (a_1+eA),.g,.g,.g,.n (a_1+eA),.i,.l (qf (rcd nM nT nU)),.g,.g,.i,.l (qf (rcd nP nH nI)),.i,.e undef ZBC,.i,.e undef ZKB,.g,.g,.g,.g,.g,.c (.tuple ⟨[]⟩) ZLB,.g,.n (eA-1),.g] (fun _ f=>ai (yE u1) (an6 (w64 u2) (w64 u2) u3 h1 u4 h2 (an6 u4 h3 u3 h4 h5 (w64 u5) f))) nx
theorem xIF {Q2:St->Prop} (nx:Q2 Z) (u1:¬ 0<=eA:=by omega):yBG data ag ah az ao a_1 eA Z Nx Q2 :=
 kO 1 () [.g,.b false] (fun _ f=>ai (yH u1) f) nx
theorem yQT {P2:St->Prop} (hL:yQY data ag ah az ao a_1 (kB-1) Z P2) (k2:∀ Z',P2 Z'->yBE data ag ah az ao a_1 Z' Q) (u1:I6 (kB-1):=by omega):yBF data ag ah az ao a_1 kB Z Q :=
 let s1:=zRA data ag ah az ao a_1 (kB-1);sK [.g,.n (kB-1),.g,.lf 60 s1 [zOT data ag ah az ao a_1 P2]] (ai (w64 u1) (ai (ai tt (ai (arf s1) hL)) (ai (kz0 k2) trivial)))
theorem yQS (nx:Q (.tuple ⟨[]⟩) Z):yBE data ag ah az ao a_1 Z Q :=
 sK [] nx
theorem yKT {Inv:Nat->Int->Int->St->Prop} {Q0:Int->St->Prop} (hb:∀ k aA a9 Z,Inv k aA a9 Z->yGQ ar ag ah a_1 az ao aA a9 Z (NX2 Inv k) Q0):∀ k aA a9 Z,Inv k aA a9 Z->yGP ar ag ah a_1 az ao aA a9 Z Q0 :=
 zCR (ai (xV 0) trivial) hb
theorem yKS (hb:∀ k bi Z,Inv k bi Z->zMD ar ag ah a_1 az ao a9 bi Z (NX1 Inv k) Q2):∀ k bi Z,Inv k bi Z->yGO ar ag ah a_1 az ao a9 bi Z Q2 :=
 xE (ai (xV 2) trivial) hb
theorem yXT (h1:lz Z 45 (zJ ar (Int.toNat a_1*3)) (qf (rcd nM nT nU))) (h2:lz Z 45 (zJ ar (Int.toNat bi*3)) (qf (rcd nP nH nI))) (h3:qm az (qf (rcd nM nT nU)::(qf (rcd nP nH nI))::ao) Z (iV nJ) Z) (nx:Q2 bi Z) (u1:bi<=a9:=by omega) (u2:Ix a_1 ag:=by omega) (u3:Ix bi ag:=by omega) (u4:nJ<0:=by omega):zMD ar ag ah a_1 az ao a9 bi Z Nx Q2 :=
 kO 1 bi [.g,.g,.b true,.g,.g,.g,.g,.i,.l (qf (rcd nM nT nU)),.g,.g,.i,.l (qf (rcd nP nH nI)),.c (iV nJ) Z,.b true,.g,.g] (fun _ f=>ai (yE u1) (an6 u2 h1 u3 h2 h3 (zR u4) f)) nx
theorem yXS (h1:lz Z 45 (zJ ar (Int.toNat a_1*3)) (qf (rcd nM nT nU))) (h2:lz Z 45 (zJ ar (Int.toNat bi*3)) (qf (rcd nP nH nI))) (h3:qm az (qf (rcd nM nT nU)::(qf (rcd nP nH nI))::ao) Z (iV nJ) Z) (nx:Nx (bi+1) Z) (u1:bi<=a9:=by omega) (u2:Ix a_1 ag:=by omega) (u3:Ix bi ag:=by omega) (u4:¬ nJ<0:=by omega) (u5:I6 (bi+1):=by omega):zMD ar ag ah a_1 az ao a9 bi Z Nx Q2 :=
 kO 0 (bi+1) [.g,.g,.b true,.g,.g,.g,.g,.i,.l (qf (rcd nM nT nU)),.g,.g,.i,.l (qf (rcd nP nH nI)),.c (iV nJ) Z,.b false,.g,.g,.g,.n (bi+1),.g] (fun _ f=>an2 (yE u1) u2 (an6 h1 u3 h2 h3 (zT u4) (w64 u5) f)) nx
theorem yXR (nx:Q2 bi Z) (u1:¬ bi<=a9:=by omega):zMD ar ag ah a_1 az ao a9 bi Z Nx Q2 :=
 kO 1 bi [.g,.g,.b false,.g,.g] (fun _ f=>ai (yH u1) f) nx
theorem yXU {Nx:Int->Int->St->Prop} {Q0:Int->St->Prop} (hL:yGO ar ag ah a_1 az ao a9 aA Z P2) (k2:∀ i11_2' Z',P2 i11_2' Z'->zVO ar ag ah a_1 az ao a9 i11_2' Z' Nx Q0):yGQ ar ag ah a_1 az ao aA a9 Z Nx Q0 :=
 zCE [.lf 90 (zGD ar ag ah a_1 az ao a9 aA) [zKB ar ag ah a_1 az ao a9 P2]] (fun g=>kd (ai (ai tt (ai (arf (zGD ar ag ah a_1 az ao a9 aA)) hL)) (ai (kz1 k2) trivial)))
theorem yKR (hb:∀ k bO Z,Inv k bO Z->zMC ar ag ah a_1 az ao bi bO Z (NX1 Inv k) Q4):∀ k bO Z,Inv k bO Z->yGN ar ag ah a_1 az ao bi bO Z Q4 :=
 xE (ai (xV 4) trivial) hb
theorem yXQ (h1:lz Z 45 (zJ ar (Int.toNat a_1*3)) (qf (rcd nV nMB nGB))) (h2:lz Z 45 (zJ ar (Int.toNat bO*3)) (qf (rcd nNB nOB nHB))) (h3:qm az (qf (rcd nV nMB nGB)::(qf (rcd nNB nOB nHB))::ao) Z (iV nKB) Z) (nx:Nx (bO-1) Z) (u1:bi<=bO:=by omega) (u2:Ix a_1 ag:=by omega) (u3:Ix bO ag:=by omega) (u4:nKB<0:=by omega) (u5:I6 (bO-1):=by omega):zMC ar ag ah a_1 az ao bi bO Z Nx Q4 :=
 kO 0 (bO-1) [.g,.g,.b true,.g,.g,.g,.g,.i,.l (qf (rcd nV nMB nGB)),.g,.g,.i,.l (qf (rcd nNB nOB nHB)),.c (iV nKB) Z,.b true,.g,.g,.n (bO-1),.g] (fun _ f=>an2 (yE u1) u2 (an6 h1 u3 h2 h3 (zR u4) (w64 u5) f)) nx
theorem yXP (h1:lz Z 45 (zJ ar (Int.toNat a_1*3)) (qf (rcd nV nMB nGB))) (h2:lz Z 45 (zJ ar (Int.toNat bO*3)) (qf (rcd nNB nOB nHB))) (h3:qm az (qf (rcd nV nMB nGB)::(qf (rcd nNB nOB nHB))::ao) Z (iV nKB) Z) (nx:Q4 bO Z) (u1:bi<=bO:=by omega) (u2:Ix a_1 ag:=by omega) (u3:Ix bO ag:=by omega) (u4:¬ nKB<0:=by omega):zMC ar ag ah a_1 az ao bi bO Z Nx Q4 :=
 kO 1 bO [.g,.g,.b true,.g,.g,.g,.g,.i,.l (qf (rcd nV nMB nGB)),.g,.g,.i,.l (qf (rcd nNB nOB nHB)),.c (iV nKB) Z,.b false,.g] (fun _ f=>ai (yE u1) (an6 u2 h1 u3 h2 h3 (zT u4) f)) nx
theorem yXO (nx:Q4 bO Z) (u1:¬ bi<=bO:=by omega):zMC ar ag ah a_1 az ao bi bO Z Nx Q4 :=
 kO 1 bO [.g,.g,.b false,.g,.g] (fun _ f=>ai (yH u1) f) nx
theorem yKP {Nx:Int->Int->St->Prop} {Q0:Int->St->Prop} (hL:yGN ar ag ah a_1 az ao bi a9 Z P4) (k4:∀ i12_3' Z',P4 i12_3' Z'->zKC ar ag ah a_1 az ao bi i12_3' Z' Nx Q0):zVO ar ag ah a_1 az ao a9 bi Z Nx Q0 :=
 sK [.lf 90 (zGC ar ag ah a_1 az ao bi a9) [zKA ar ag ah a_1 az ao bi P4]] (ai (ai tt (ai (arf (zGC ar ag ah a_1 az ao bi a9)) hL)) (ai (kz1 k4) trivial))
theorem yKO {Nx:Int->Int->St->Prop} {Q0:Int->St->Prop} (nx:Q0 bi Z) (u1:bO<bi:=by omega):zKC ar ag ah a_1 az ao bi bO Z Nx Q0 :=
 sF 1 bi [.g,.g,.b true] (fun _ f=>ai (zR u1) f) nx
theorem yKN {Nx:Int->Int->St->Prop} {Q0:Int->St->Prop} (h1:lz Z 45 (zJ ar (Int.toNat bO*3)) (qf (rcd nEB nFB nX))) (h2:lz Z 45 (zJ ar (Int.toNat bi*3)) (qf (rcd nY nZ nAB))) (h3:qo (evL [pz (zJ ar (Int.toNat bi*3)),qf (rcd nEB nFB nX)]) Z (.store 45 (.tmp 0) (.tmp 1))=some (undef,ZCC)) (h4:qo (evL [pz (zJ ar (Int.toNat bO*3)),qf (rcd nY nZ nAB)]) ZCC (.store 45 (.tmp 0) (.tmp 1))=some (undef,ZDC)) (nx:Nx (bi+1) (bO-1) ZDC) (u1:¬ bO<bi:=by omega) (u2:Ix bO ag:=by omega) (u3:Ix bi ag:=by omega) (u4:I6 (bi+1):=by omega) (u5:I6 (bO-1):=by omega):zKC ar ag ah a_1 az ao bi bO Z Nx Q0 :=
 sF 0 (bi+1,bO-1) [.g,.g,.b false,.g,.g,.g,.g,.g,.g,.i,.l (qf (rcd nEB nFB nX)),.g,.g,.i,.l (qf (rcd nY nZ nAB)),.i,.e undef ZCC,.i,.e undef ZDC,.g,.n (bi+1),.g,.g,.n (bO-1),.g] (fun _ f=>an5 (zT u1) u2 h1 u3 h2 (an6 u3 h3 u2 h4 (w64 u4) (w64 u5) f)) nx
theorem xHR {P0:Int->St->Prop} (h1:lz Z 45 (zJ ar (Int.toNat dL*3)) (qf (rcd n1 n2 n3))) (h2:lz Z 45 (zJ ar (Int.toNat a_1*3)) (qf (rcd n4 n5 n6))) (h3:qo (evL [pz (zJ ar (Int.toNat a_1*3)),qf (rcd n1 n2 n3)]) Z (.store 45 (.tmp 0) (.tmp 1))=some (undef,Z7)) (h4:qo (evL [pz (zJ ar (Int.toNat dL*3)),qf (rcd n4 n5 n6)]) Z7 (.store 45 (.tmp 0) (.tmp 1))=some (undef,Z8)) (hL:yGP ar ag ah a_1 az ao (a_1+1) (b-1) Z8 P0) (k0:∀ i11_1' Z',P0 i11_1' Z'->zVP ar ag ah a_1 az ao i11_1' Z' Q) (u1:Ix dL ag:=by omega) (u2:Ix a_1 ag:=by omega) (u3:I6 (a_1+1):=by omega) (u4:I6 (b-1):=by omega):qg 112 [.slice (some ar) ag ah,iV a_1,iV b,iV dL,.func (.func az) ⟨[]⟩ ⟨ao⟩] Z Q :=
 let s1:=zMA ar ag ah a_1 az ao (a_1+1) (b-1);zH [.g,.g,.g,.g,.g,.g,.g,.i,.l (qf (rcd n1 n2 n3)),.g,.g,.i,.l (qf (rcd n4 n5 n6)),.i,.e undef Z7,.i,.e undef Z8,.g,.n (a_1+1),.g,.n (b-1),.g,.g,.lf 90 s1 [zCK ar ag ah a_1 az ao P0]] (kd (an4 u1 h1 u2 h2 (an6 u2 h3 u1 h4 (w64 u3) (w64 u4) (ai (ai tt (ai (arf s1) hL)) (ai (kz1 k0) trivial)))))
theorem yKQ (nx:Q (iV aA) Z):zVP ar ag ah a_1 az ao aA Z Q :=
 sK [.g,.g] nx
theorem yXM {Q0:Int->St->Prop} (hb:∀ k a9 Z,Inv k a9 Z->zXP ar ag ah a_1 az ao kB a9 Z (NX1 Inv k) Q0):∀ k a9 Z,Inv k a9 Z->xCX ar ag ah a_1 az ao kB a9 Z Q0 :=
 xE (ai (xV 0) trivial) hb
theorem xOH {Q0:Int->St->Prop} (h1:lz Z 45 (zJ ar (Int.toNat a9*3)) (qf (rcd nG nF nA))) (h2:lz Z 45 (zJ ar (Int.toNat a_1*3)) (qf (rcd nB nD nE))) (h3:qm az (qf (rcd nG nF nA)::(qf (rcd nB nD nE))::ao) Z (iV nK) Z) (nx:Nx (a9+1) Z) (u1:a9<=kB:=by omega) (u2:Ix a9 ag:=by omega) (u3:Ix a_1 ag:=by omega) (u4:nK<0:=by omega) (u5:I6 (a9+1):=by omega):zXP ar ag ah a_1 az ao kB a9 Z Nx Q0 :=
 kO 0 (a9+1) [.g,.g,.b true,.g,.g,.g,.g,.i,.l (qf (rcd nG nF nA)),.g,.g,.i,.l (qf (rcd nB nD nE)),.c (iV nK) Z,.b true,.g,.g,.n (a9+1),.g] (fun _ f=>an2 (yE u1) u2 (an6 h1 u3 h2 h3 (zR u4) (w64 u5) f)) nx
theorem xOG {Q0:Int->St->Prop} (h1:lz Z 45 (zJ ar (Int.toNat a9*3)) (qf (rcd nG nF nA))) (h2:lz Z 45 (zJ ar (Int.toNat a_1*3)) (qf (rcd nB nD nE))) (h3:qm az (qf (rcd nG nF nA)::(qf (rcd nB nD nE))::ao) Z (iV nK) Z) (nx:Q0 a9 Z) (u1:a9<=kB:=by omega) (u2:Ix a9 ag:=by omega) (u3:Ix a_1 ag:=by omega) (u4:¬ nK<0:=by omega):zXP ar ag ah a_1 az ao kB a9 Z Nx Q0 :=
 kO 1 a9 [.g,.g,.b true,.g,.g,.g,.g,.i,.l (qf (rcd nG nF nA)),.g,.g,.i,.l (qf (rcd nB nD nE)),.c (iV nK) Z,.b false,.g] (fun _ f=>ai (yE u1) (an6 u2 h1 u3 h2 h3 (zT u4) f)) nx
theorem xOF {Q0:Int->St->Prop} (nx:Q0 a9 Z) (u1:¬ a9<=kB:=by omega):zXP ar ag ah a_1 az ao kB a9 Z Nx Q0 :=
 kO 1 a9 [.g,.g,.b false,.g,.g] (fun _ f=>ai (yH u1) f) nx
theorem xVR {P0:Int->St->Prop} (h1:lz Z 45 (zJ ar (Int.toNat dL*3)) (qf (rcd n1 n2 n3))) (h2:lz Z 45 (zJ ar (Int.toNat a_1*3)) (qf (rcd n4 n5 n6))) (h3:qo (evL [pz (zJ ar (Int.toNat a_1*3)),qf (rcd n1 n2 n3)]) Z (.store 45 (.tmp 0) (.tmp 1))=some (undef,Z7)) (h4:qo (evL [pz (zJ ar (Int.toNat dL*3)),qf (rcd n4 n5 n6)]) Z7 (.store 45 (.tmp 0) (.tmp 1))=some (undef,Z8)) (hL:xCX ar ag ah a_1 az ao (b-1) (a_1+1) Z8 P0) (k0:∀ i12_1' Z',P0 i12_1' Z'->yGK ar ag ah a_1 az ao (b-1) i12_1' Z' Q) (u1:Ix dL ag:=by omega) (u2:Ix a_1 ag:=by omega) (u3:I6 (a_1+1):=by omega) (u4:I6 (b-1):=by omega):qg 113 [.slice (some ar) ag ah,iV a_1,iV b,iV dL,.func (.func az) ⟨[]⟩ ⟨ao⟩] Z Q :=
 let s1:=zXK ar ag ah a_1 az ao (b-1) (a_1+1);zH [.g,.g,.g,.g,.g,.g,.g,.g,.i,.l (qf (rcd n1 n2 n3)),.g,.g,.i,.l (qf (rcd n4 n5 n6)),.i,.e undef Z7,.i,.e undef Z8,.g,.n (a_1+1),.g,.n (b-1),.g,.g,.lf 178 s1 [zSP ar ag ah a_1 az ao (b-1) P0]] (kd (an4 u1 h1 u2 h2 (an6 u2 h3 u1 h4 (w64 u3) (w64 u4) (ai (ai tt (ai (arf s1) hL)) (ai (kz1 k0) trivial)))))
theorem yXL (hb:∀ k bY Z,Inv k bY Z->zXO ar ag ah a_1 az ao a9 bY Z (NX1 Inv k) Q2):∀ k bY Z,Inv k bY Z->xCW ar ag ah a_1 az ao a9 bY Z Q2 :=
 xE (ai (xV 2) trivial) hb
theorem xOE (h1:lz Z 45 (zJ ar (Int.toNat bY*3)) (qf (rcd nM nT nU))) (h2:lz Z 45 (zJ ar (Int.toNat a_1*3)) (qf (rcd nP nH nI))) (h3:qm az (qf (rcd nM nT nU)::(qf (rcd nP nH nI))::ao) Z (iV nJ) Z) (nx:Q2 bY Z) (u1:a9<=bY:=by omega) (u2:Ix bY ag:=by omega) (u3:Ix a_1 ag:=by omega) (u4:nJ<0:=by omega):zXO ar ag ah a_1 az ao a9 bY Z Nx Q2 :=
 kO 1 bY [.g,.g,.b true,.g,.g,.g,.g,.i,.l (qf (rcd nM nT nU)),.g,.g,.i,.l (qf (rcd nP nH nI)),.c (iV nJ) Z,.b true,.g,.g] (fun _ f=>ai (yE u1) (an6 u2 h1 u3 h2 h3 (zR u4) f)) nx
theorem xOD (h1:lz Z 45 (zJ ar (Int.toNat bY*3)) (qf (rcd nM nT nU))) (h2:lz Z 45 (zJ ar (Int.toNat a_1*3)) (qf (rcd nP nH nI))) (h3:qm az (qf (rcd nM nT nU)::(qf (rcd nP nH nI))::ao) Z (iV nJ) Z) (nx:Nx (bY-1) Z) (u1:a9<=bY:=by omega) (u2:Ix bY ag:=by omega) (u3:Ix a_1 ag:=by omega) (u4:¬ nJ<0:=by omega) (u5:I6 (bY-1):=by omega):zXO ar ag ah a_1 az ao a9 bY Z Nx Q2 :=
 kO 0 (bY-1) [.g,.g,.b true,.g,.g,.g,.g,.i,.l (qf (rcd nM nT nU)),.g,.g,.i,.l (qf (rcd nP nH nI)),.c (iV nJ) Z,.b false,.g,.g,.g,.n (bY-1),.g] (fun _ f=>an2 (yE u1) u2 (an6 h1 u3 h2 h3 (zT u4) (w64 u5) f)) nx
theorem xOC (nx:Q2 bY Z) (u1:¬ a9<=bY:=by omega):zXO ar ag ah a_1 az ao a9 bY Z Nx Q2 :=
 kO 1 bY [.g,.g,.b false,.g,.g] (fun _ f=>ai (yH u1) f) nx
theorem yXH (hL:xCW ar ag ah a_1 az ao a9 kB Z P2) (k2:∀ i13_2' Z',P2 i13_2' Z'->zSR ar ag ah a_1 az ao a9 i13_2' Z' Q):yGK ar ag ah a_1 az ao kB a9 Z Q :=
 sK [.lf 178 (zQJ ar ag ah a_1 az ao a9 kB) [zSO ar ag ah a_1 az ao a9 P2]] (ai (ai tt (ai (arf (zQJ ar ag ah a_1 az ao a9 kB)) hL)) (ai (kz1 k2) trivial))
theorem yXG (h1:lz Z 45 (zJ ar (Int.toNat a_1*3)) (qf (rcd nXB nBJ nBK))) (h2:lz Z 45 (zJ ar (Int.toNat bY*3)) (qf (rcd nYB nZB nAC))) (h3:qo (evL [pz (zJ ar (Int.toNat bY*3)),qf (rcd nXB nBJ nBK)]) Z (.store 45 (.tmp 0) (.tmp 1))=some (undef,ZX)) (h4:qo (evL [pz (zJ ar (Int.toNat a_1*3)),qf (rcd nYB nZB nAC)]) ZX (.store 45 (.tmp 0) (.tmp 1))=some (undef,ZNB)) (nx:Q (.tuple ⟨[iV bY,.bool true]⟩) ZNB) (u1:bY<a9:=by omega) (u2:Ix a_1 ag:=by omega) (u3:Ix bY ag:=by omega):zSR ar ag ah a_1 az ao a9 bY Z Q :=
 sK [.g,.g,.b true,.g,.g,.g,.g,.g,.g,.i,.l (qf (rcd nXB nBJ nBK)),.g,.g,.i,.l (qf (rcd nYB nZB nAC)),.i,.e undef ZX,.i,.e undef ZNB,.g,.g,.g] (an3 (zR u1) u2 h1 (an6 u3 h2 u3 h3 u2 h4 nx))
theorem yXK {Inv:Nat->Int->Int->St->Prop} (hb:∀ k bO aE Z,Inv k bO aE Z->xCY ar ag ah a_1 az ao bO aE Z (NX2 Inv k) Q4):∀ k bO aE Z,Inv k bO aE Z->xCV ar ag ah a_1 az ao bO aE Z Q4 :=
 zCR (ai (xV 4) trivial) hb
theorem yXJ (hb:∀ k bf Z,Inv k bf Z->zXN ar ag ah a_1 az ao aE bf Z (NX1 Inv k) Q6):∀ k bf Z,Inv k bf Z->xCU ar ag ah a_1 az ao aE bf Z Q6 :=
 xE (ai (xV 6) trivial) hb
theorem xOA (h1:lz Z 45 (zJ ar (Int.toNat bf*3)) (qf (rcd nCB nIB nPB))) (h2:lz Z 45 (zJ ar (Int.toNat a_1*3)) (qf (rcd nQB nRB nSB))) (h3:qm az (qf (rcd nCB nIB nPB)::(qf (rcd nQB nRB nSB))::ao) Z (iV nWB) Z) (nx:Nx (bf+1) Z) (u1:bf<=aE:=by omega) (u2:Ix bf ag:=by omega) (u3:Ix a_1 ag:=by omega) (u4:nWB<0:=by omega) (u5:I6 (bf+1):=by omega):zXN ar ag ah a_1 az ao aE bf Z Nx Q6 :=
 kO 0 (bf+1) [.g,.g,.b true,.g,.g,.g,.g,.i,.l (qf (rcd nCB nIB nPB)),.g,.g,.i,.l (qf (rcd nQB nRB nSB)),.c (iV nWB) Z,.b true,.g,.g,.n (bf+1),.g] (fun _ f=>an2 (yE u1) u2 (an6 h1 u3 h2 h3 (zR u4) (w64 u5) f)) nx
theorem xNZ (h1:lz Z 45 (zJ ar (Int.toNat bf*3)) (qf (rcd nCB nIB nPB))) (h2:lz Z 45 (zJ ar (Int.toNat a_1*3)) (qf (rcd nQB nRB nSB))) (h3:qm az (qf (rcd nCB nIB nPB)::(qf (rcd nQB nRB nSB))::ao) Z (iV nWB) Z) (nx:Q6 bf Z) (u1:bf<=aE:=by omega) (u2:Ix bf ag:=by omega) (u3:Ix a_1 ag:=by omega) (u4:¬ nWB<0:=by omega):zXN ar ag ah a_1 az ao aE bf Z Nx Q6 :=
 kO 1 bf [.g,.g,.b true,.g,.g,.g,.g,.i,.l (qf (rcd nCB nIB nPB)),.g,.g,.i,.l (qf (rcd nQB nRB nSB)),.c (iV nWB) Z,.b false,.g] (fun _ f=>ai (yE u1) (an6 u2 h1 u3 h2 h3 (zT u4) f)) nx
theorem xNY (nx:Q6 bf Z) (u1:¬ bf<=aE:=by omega):zXN ar ag ah a_1 az ao aE bf Z Nx Q6 :=
 kO 1 bf [.g,.g,.b false,.g,.g] (fun _ f=>ai (yH u1) f) nx
theorem xOB {Nx:Int->Int->St->Prop} {P6:Int->St->Prop} (hL:xCU ar ag ah a_1 az ao aE bO Z P6) (k6:∀ i12_4' Z',P6 i12_4' Z'->yGI ar ag ah a_1 az ao aE i12_4' Z' Nx Q4):xCY ar ag ah a_1 az ao bO aE Z Nx Q4 :=
 zCE [.lf 178 (zQI ar ag ah a_1 az ao aE bO) [zSN ar ag ah a_1 az ao aE P6]] (fun g=>kd (ai (ai tt (ai (arf (zQI ar ag ah a_1 az ao aE bO)) hL)) (ai (kz1 k6) trivial)))
theorem yXI (hb:∀ k cx Z,Inv k cx Z->zXM ar ag ah a_1 az ao bf cx Z (NX1 Inv k) Q8):∀ k cx Z,Inv k cx Z->xCT ar ag ah a_1 az ao bf cx Z Q8 :=
 xE (ai (xV 8) trivial) hb
theorem xNX (h1:lz Z 45 (zJ ar (Int.toNat cx*3)) (qf (rcd nBL nBM nBN))) (h2:lz Z 45 (zJ ar (Int.toNat a_1*3)) (qf (rcd nBO nBP nBQ))) (h3:qm az (qf (rcd nBL nBM nBN)::(qf (rcd nBO nBP nBQ))::ao) Z (iV nBR) Z) (nx:Q8 cx Z) (u1:bf<=cx:=by omega) (u2:Ix cx ag:=by omega) (u3:Ix a_1 ag:=by omega) (u4:nBR<0:=by omega):zXM ar ag ah a_1 az ao bf cx Z Nx Q8 :=
 kO 1 cx [.g,.g,.b true,.g,.g,.g,.g,.i,.l (qf (rcd nBL nBM nBN)),.g,.g,.i,.l (qf (rcd nBO nBP nBQ)),.c (iV nBR) Z,.b true,.g,.g] (fun _ f=>ai (yE u1) (an6 u2 h1 u3 h2 h3 (zR u4) f)) nx
theorem xNW (h1:lz Z 45 (zJ ar (Int.toNat cx*3)) (qf (rcd nBL nBM nBN))) (h2:lz Z 45 (zJ ar (Int.toNat a_1*3)) (qf (rcd nBO nBP nBQ))) (h3:qm az (qf (rcd nBL nBM nBN)::(qf (rcd nBO nBP nBQ))::ao) Z (iV nBR) Z) (nx:Nx (cx-1) Z) (u1:bf<=cx:=by omega) (u2:Ix cx ag:=by omega) (u3:Ix a_1 ag:=by omega) (u4:¬ nBR<0:=by omega) (u5:I6 (cx-1):=by omega):zXM ar ag ah a_1 az ao bf cx Z Nx Q8 :=
 kO 0 (cx-1) [.g,.g,.b true,.g,.g,.g,.g,.i,.l (qf (rcd nBL nBM nBN)),.g,.g,.i,.l (qf (rcd nBO nBP nBQ)),.c (iV nBR) Z,.b false,.g,.g,.g,.n (cx-1),.g] (fun _ f=>an2 (yE u1) u2 (an6 h1 u3 h2 h3 (zT u4) (w64 u5) f)) nx
theorem xNV (nx:Q8 cx Z) (u1:¬ bf<=cx:=by omega):zXM ar ag ah a_1 az ao bf cx Z Nx Q8 :=
 kO 1 cx [.g,.g,.b false,.g,.g] (fun _ f=>ai (yH u1) f) nx
theorem yXD {Nx:Int->Int->St->Prop} (hL:xCT ar ag ah a_1 az ao bf aE Z P8) (k8:∀ i13_5' Z',P8 i13_5' Z'->zSQ ar ag ah a_1 az ao bf i13_5' Z' Nx Q4):yGI ar ag ah a_1 az ao aE bf Z Nx Q4 :=
 sK [.lf 178 (zQH ar ag ah a_1 az ao bf aE) [zSM ar ag ah a_1 az ao bf P8]] (ai (ai tt (ai (arf (zQH ar ag ah a_1 az ao bf aE)) hL)) (ai (kz1 k8) trivial))
theorem yXC {Nx:Int->Int->St->Prop} (nx:Q4 cx Z) (u1:cx<bf:=by omega):zSQ ar ag ah a_1 az ao bf cx Z Nx Q4 :=
 sF 1 cx [.g,.g,.b true] (fun _ f=>ai (zR u1) f) nx
theorem yXB {Nx:Int->Int->St->Prop} (h1:lz Z 45 (zJ ar (Int.toNat cx*3)) (qf (rcd nBk nBl nBm))) (h2:lz Z 45 (zJ ar (Int.toNat bf*3)) (qf (rcd nBn nBo nBp))) (h3:qo (evL [pz (zJ ar (Int.toNat bf*3)),qf (rcd nBk nBl nBm)]) Z (.store 45 (.tmp 0) (.tmp 1))=some (undef,ZEC)) (h4:qo (evL [pz (zJ ar (Int.toNat cx*3)),qf (rcd nBn nBo nBp)]) ZEC (.store 45 (.tmp 0) (.tmp 1))=some (undef,ZFC)) (nx:Nx (bf+1) (cx-1) ZFC) (u1:¬ cx<bf:=by omega) (u2:Ix cx ag:=by omega) (u3:Ix bf ag:=by omega) (u4:I6 (bf+1):=by omega) (u5:I6 (cx-1):=by omega):zSQ ar ag ah a_1 az ao bf cx Z Nx Q4 :=
 sF 0 (bf+1,cx-1) [.g,.g,.b false,.g,.g,.g,.g,.g,.g,.i,.l (qf (rcd nBk nBl nBm)),.g,.g,.i,.l (qf (rcd nBn nBo nBp)),.i,.e undef ZEC,.i,.e undef ZFC,.g,.n (bf+1),.g,.g,.n (cx-1),.g] (fun _ f=>an5 (zT u1) u2 h1 u3 h2 (an6 u3 h3 u2 h4 (w64 u4) (w64 u5) f)) nx
theorem yXF (h1:lz Z 45 (zJ ar (Int.toNat bY*3)) (qf (rcd nXB nBJ nBK))) (h2:lz Z 45 (zJ ar (Int.toNat a9*3)) (qf (rcd nYB nZB nAC))) (h3:qo (evL [pz (zJ ar (Int.toNat a9*3)),qf (rcd nXB nBJ nBK)]) Z (.store 45 (.tmp 0) (.tmp 1))=some (undef,ZX)) (h4:qo (evL [pz (zJ ar (Int.toNat bY*3)),qf (rcd nYB nZB nAC)]) ZX (.store 45 (.tmp 0) (.tmp 1))=some (undef,ZNB)) (hL:xCV ar ag ah a_1 az ao (a9+1) (bY-1) ZNB P4) (k4:∀ i13_3' Z',P4 i13_3' Z'->yGJ ar ag ah a_1 az ao i13_3' Z' Q) (u1:¬ bY<a9:=by omega) (u2:Ix bY ag:=by omega) (u3:Ix a9 ag:=by omega) (u4:I6 (a9+1):=by omega) (u5:I6 (bY-1):=by omega):zSR ar ag ah a_1 az ao a9 bY Z Q :=
 let s1:=zXJ ar ag ah a_1 az ao (a9+1) (bY-1);sK [.g,.g,.b false,.g,.g,.g,.g,.g,.g,.i,.l (qf (rcd nXB nBJ nBK)),.g,.g,.i,.l (qf (rcd nYB nZB nAC)),.i,.e undef ZX,.i,.e undef ZNB,.g,.n (a9+1),.g,.g,.n (bY-1),.g,.lf 178 s1 [zGB ar ag ah a_1 az ao P4]] (an5 (zT u1) u2 h1 u3 h2 (an6 u3 h3 u2 h4 (w64 u4) (w64 u5) (ai (ai tt (ai (arf s1) hL)) (ai (kz1 k4) trivial))))
theorem yXE (h1:lz Z 45 (zJ ar (Int.toNat a_1*3)) (qf (rcd nBq nBr nBs))) (h2:lz Z 45 (zJ ar (Int.toNat aE*3)) (qf (rcd nBt nBu nBv))) (h3:qo (evL [pz (zJ ar (Int.toNat aE*3)),qf (rcd nBq nBr nBs)]) Z (.store 45 (.tmp 0) (.tmp 1))=some (undef,ZGC)) (h4:qo (evL [pz (zJ ar (Int.toNat a_1*3)),qf (rcd nBt nBu nBv)]) ZGC (.store 45 (.tmp 0) (.tmp 1))=some (undef,ZHC)) (nx:Q (.tuple ⟨[iV aE,.bool false]⟩) ZHC) (u1:Ix a_1 ag:=by omega) (u2:Ix aE ag:=by omega):yGJ ar ag ah a_1 az ao aE Z Q :=
 sK [.g,.g,.g,.g,.g,.g,.i,.l (qf (rcd nBq nBr nBs)),.g,.g,.i,.l (qf (rcd nBt nBu nBv)),.i,.e undef ZGC,.i,.e undef ZHC,.g,.g,.g] (an2 u1 h1 (an6 u2 h2 u2 h3 u1 h4 nx))
theorem yPR {Inv:Nat->Int->Int->St->Prop} (hb:∀ k bZ aC Z,Inv k bZ aC Z->yAG data ag ah a_1 b az ao bZ aC Z (NX2 Inv k) Q0 Qr):∀ k bZ aC Z,Inv k bZ aC Z->yPW data ag ah a_1 b az ao bZ aC Z Q0 Qr :=
 zCR (ai (xV 0) (ai uZ trivial)) hb
theorem yPQ (hb:∀ k aS Z,Inv k aS Z->zQO data ag ah a_1 b az ao aC aS Z (NX1 Inv k) Q2):∀ k aS Z,Inv k aS Z->yPV data ag ah a_1 b az ao aC aS Z Q2 :=
 xE (ai (xV 2) trivial) hb
theorem xHL (h1:lz Z 45 (zJ ar (Int.toNat aS*3)) (qf (rcd nM nT nU))) (h2:lz Z 45 (zJ ar (Int.toNat (aS-1)*3)) (qf (rcd nP nH nI))) (h3:qm az (qf (rcd nM nT nU)::(qf (rcd nP nH nI))::ao) Z (iV nJ) Z) (nx:Q2 aS Z) (u1:aS<b:=by omega) (u2:Ix aS ag:=by omega) (u3:I6 (aS-1):=by omega) (u4:Ix (aS-1) ag:=by omega) (u5:nJ<0:=by omega):zQO (some ar) ag ah a_1 b az ao aC aS Z Nx Q2 :=
 kO 1 aS [.g,.g,.b true,.g,.g,.g,.g,.i,.l (qf (rcd nM nT nU)),.g,.g,.n (aS-1),.i,.l (qf (rcd nP nH nI)),.c (iV nJ) Z,.b true,.g,.g] (fun _ f=>an2 (zR u1) u2 (an6 h1 (w64 u3) u4 h2 h3 (zR u5) f)) nx
theorem xHK (h1:lz Z 45 (zJ ar (Int.toNat aS*3)) (qf (rcd nM nT nU))) (h2:lz Z 45 (zJ ar (Int.toNat (aS-1)*3)) (qf (rcd nP nH nI))) (h3:qm az (qf (rcd nM nT nU)::(qf (rcd nP nH nI))::ao) Z (iV nJ) Z) (nx:Nx (aS+1) Z) (u1:aS<b:=by omega) (u2:Ix aS ag:=by omega) (u3:I6 (aS-1):=by omega) (u4:Ix (aS-1) ag:=by omega) (u5:¬ nJ<0:=by omega) (u6:I6 (aS+1):=by omega):zQO (some ar) ag ah a_1 b az ao aC aS Z Nx Q2 :=
 kO 0 (aS+1) [.g,.g,.b true,.g,.g,.g,.g,.i,.l (qf (rcd nM nT nU)),.g,.g,.n (aS-1),.i,.l (qf (rcd nP nH nI)),.c (iV nJ) Z,.b false,.g,.g,.g,.n (aS+1),.g] (fun _ f=>an3 (zR u1) u2 h1 (an6 (w64 u3) u4 h2 h3 (zT u5) (w64 u6) f)) nx
theorem xHJ (nx:Q2 aS Z) (u1:¬ aS<b:=by omega):zQO data ag ah a_1 b az ao aC aS Z Nx Q2 :=
 kO 1 aS [.g,.g,.b false,.g,.g] (fun _ f=>ai (zT u1) f) nx
theorem xHN {Nx:Int->Int->St->Prop} (hL:yPV data ag ah a_1 b az ao aC bZ Z P2) (k2:∀ i9_2' Z',P2 i9_2' Z'->zBO data ag ah a_1 b az ao aC i9_2' Z' Nx Q0 Qr) (u1:aC<5:=by omega):yAG data ag ah a_1 b az ao bZ aC Z Nx Q0 Qr :=
 zCE [.g,.b true,.lf 141 (zJX data ag ah a_1 b az ao aC bZ) [zOJ data ag ah a_1 b az ao aC P2]] (fun g=>kd (ai (zR u1) (ai (ai tt (ai (arf (zJX data ag ah a_1 b az ao aC bZ)) hL)) (ai (kz1 k2) trivial))))
theorem xHM {Nx:Int->Int->St->Prop} (nx:Q0 Z) (u1:¬ aC<5:=by omega):yAG data ag ah a_1 b az ao bZ aC Z Nx Q0 Qr :=
 kO 1 () [.g,.b false] (fun _ f=>ai (zT u1) f) nx
theorem yPK {Nx:Int->Int->St->Prop} (nx:Qr true Z) (u1:aS=b:=by omega):zBO data ag ah a_1 b az ao aC aS Z Nx Q0 Qr :=
 sF 2 true [.g,.g,.b true,.g] (fun _ f=>ai (xK u1) f) nx
theorem yPJ {Nx:Int->Int->St->Prop} (nx:Qr false Z) (u1:¬ aS=b:=by omega) (u2:I6 (b-a_1):=by omega) (u3:(b-a_1)<50:=by omega):zBO data ag ah a_1 b az ao aC aS Z Nx Q0 Qr :=
 sF 2 false [.g,.g,.b false,.g,.g,.n (b-a_1),.b true,.g] (fun _ f=>an3 (xI u1) (w64 u2) (zR u3) f) nx
theorem yPP {Q4:St->Prop} (hb:∀ k dK Z,Inv k dK Z->zQN ar ag ah a_1 b az ao aS aC dK Z (NX1 Inv k) Q4):∀ k dK Z,Inv k dK Z->yAD ar ag ah a_1 b az ao aS aC dK Z Q4 :=
 xE (ai (xV 4) trivial) hb
theorem xHI {Q4:St->Prop}:let y0:=rcd nNB nOB nHB;let y1:=rcd nV nMB nGB;let y2:=zJ ar (Int.toNat (dK-1)*3);let y3:=zJ ar (Int.toNat dK*3);∀ (h1:lz Z 45 y3 (qf y1)) (h2:lz Z 45 y2 (qf y0)) (h3:qm az (qf y1::(qf y0)::ao) Z (iV nKB) Z) (h4:qo (evL [pz y3,qf y0]) Z (.store 45 (.tmp 0) (.tmp 1))=some (undef,ZIC)) (h5:qo (evL [pz y2,qf y1]) ZIC (.store 45 (.tmp 0) (.tmp 1))=some (undef,ZJC)) (nx:Nx (dK-1) ZJC) (u1:1<=dK:=by omega) (u2:Ix dK ag:=by omega) (u3:I6 (dK-1):=by omega) (u4:Ix (dK-1) ag:=by omega) (u5:nKB<0:=by omega),zQN ar ag ah a_1 b az ao aS aC dK Z Nx Q4 :=
 let s1:=dK-1;let y0:=rcd nNB nOB nHB;let y1:=rcd nV nMB nGB;fun h1 h2 h3 h4 h5 nx u1 u2 u3 u4 u5=>kO 0 s1 [.g,.b true,.g,.g,.g,.i,.l (qf y1),.g,.g,.n s1,.i,.l (qf y0),.c (iV nKB) Z,.b true,.g,.g,.g,.g,.g,.n s1,.g,.g,.n s1,.i,.l (qf y0),.g,.g,.i,.l (qf y1),.i,.e undef ZIC,.i,.e undef ZJC,.g,.n s1,.g] (fun _ f=>ai (yE u1) (an6 u2 h1 (w64 u3) u4 h2 h3 (an6 (zR u5) (w64 u3) (w64 u3) u4 h2 u2 (an6 h1 u2 h4 u4 h5 (w64 u3) f)))) nx
theorem xHH {Q4:St->Prop} (h1:lz Z 45 (zJ ar (Int.toNat dK*3)) (qf (rcd nV nMB nGB))) (h2:lz Z 45 (zJ ar (Int.toNat (dK-1)*3)) (qf (rcd nNB nOB nHB))) (h3:qm az (qf (rcd nV nMB nGB)::(qf (rcd nNB nOB nHB))::ao) Z (iV nKB) Z) (nx:Q4 Z) (u1:1<=dK:=by omega) (u2:Ix dK ag:=by omega) (u3:I6 (dK-1):=by omega) (u4:Ix (dK-1) ag:=by omega) (u5:¬ nKB<0:=by omega):zQN ar ag ah a_1 b az ao aS aC dK Z Nx Q4 :=
 kO 1 () [.g,.b true,.g,.g,.g,.i,.l (qf (rcd nV nMB nGB)),.g,.g,.n (dK-1),.i,.l (qf (rcd nNB nOB nHB)),.c (iV nKB) Z,.b false,.g] (fun _ f=>an2 (yE u1) u2 (an6 h1 (w64 u3) u4 h2 h3 (zT u5) f)) nx
theorem xHG {Q4:St->Prop} (nx:Q4 Z) (u1:¬ 1<=dK:=by omega):zQN ar ag ah a_1 b az ao aS aC dK Z Nx Q4 :=
 kO 1 () [.g,.b false] (fun _ f=>ai (yH u1) f) nx
theorem yPI {Nx:Int->Int->St->Prop} {P4:St->Prop} (h1:lz Z 45 (zJ ar (Int.toNat (aS-1)*3)) (qf (rcd nLB nJB nBC))) (h2:lz Z 45 (zJ ar (Int.toNat aS*3)) (qf (rcd nCC nDC nEC))) (h3:qo (evL [pz (zJ ar (Int.toNat aS*3)),qf (rcd nLB nJB nBC)]) Z (.store 45 (.tmp 0) (.tmp 1))=some (undef,ZDB)) (h4:qo (evL [pz (zJ ar (Int.toNat (aS-1)*3)),qf (rcd nCC nDC nEC)]) ZDB (.store 45 (.tmp 0) (.tmp 1))=some (undef,ZEB)) (hL:yAD ar ag ah a_1 b az ao aS aC (aS-1) ZEB P4) (k4:∀ Z',P4 Z'->zOL (some ar) ar ag ah a_1 b az ao aS aC Z' Nx Q0 Qr) (u1:¬ aS=b:=by omega) (u2:I6 (b-a_1):=by omega) (u3:¬ (b-a_1)<50:=by omega) (u4:I6 (aS-1):=by omega) (u5:Ix (aS-1) ag:=by omega) (u6:Ix aS ag:=by omega) (u7:I6 (aS-a_1):=by omega) (u8:2<=(aS-a_1):=by omega):zBO (some ar) ag ah a_1 b az ao aC aS Z Nx Q0 Qr :=
 let s1:=zQK ar ag ah a_1 b az ao aS aC (aS-1);sK [.g,.g,.b false,.g,.g,.n (b-a_1),.b false,.g,.g,.g,.g,.n (aS-1),.g,.g,.n (aS-1),.i,.l (qf (rcd nLB nJB nBC)),.g,.g,.i,.l (qf (rcd nCC nDC nEC)),.i,.e undef ZDB,.i,.e undef ZEB,.g,.g,.n (aS-a_1),.b true,.g,.n (aS-1),.g,.lf 141 s1 [zOI ar ag ah a_1 b az ao aS aC P4]] (an4 (xI u1) (w64 u2) (zT u3) (w64 u4) (an6 (w64 u4) u5 h1 u6 h2 u6 (an6 h3 u5 h4 (w64 u7) (yE u8) (w64 u4) (ai (ai tt (ai (arf s1) hL)) (ai (kz0 k4) trivial)))))
theorem yPO {Q6:St->Prop} (hb:∀ k bf Z,Inv k bf Z->zQM ar ag ah a_1 b az ao aS aC bf Z (NX1 Inv k) Q6):∀ k bf Z,Inv k bf Z->zJZ ar ag ah a_1 b az ao aS aC bf Z Q6 :=
 xE (ai (xV 6) trivial) hb
theorem xHF {Q6:St->Prop}:let y0:=rcd nCB nIB nPB;let y1:=rcd nQB nRB nSB;let y2:=zJ ar (Int.toNat (bf-1)*3);let y3:=zJ ar (Int.toNat bf*3);∀ (h1:lz Z 45 y3 (qf y0)) (h2:lz Z 45 y2 (qf y1)) (h3:qm az (qf y0::(qf y1)::ao) Z (iV nWB) Z) (h4:qo (evL [pz y3,qf y1]) Z (.store 45 (.tmp 0) (.tmp 1))=some (undef,ZBA)) (h5:qo (evL [pz y2,qf y0]) ZBA (.store 45 (.tmp 0) (.tmp 1))=some (undef,ZBD)) (nx:Nx (bf+1) ZBD) (u1:bf<b:=by omega) (u2:Ix bf ag:=by omega) (u3:I6 (bf-1):=by omega) (u4:Ix (bf-1) ag:=by omega) (u5:nWB<0:=by omega) (u6:I6 (bf+1):=by omega),zQM ar ag ah a_1 b az ao aS aC bf Z Nx Q6 :=
 let s1:=bf-1;let y0:=rcd nCB nIB nPB;let y1:=rcd nQB nRB nSB;fun h1 h2 h3 h4 h5 nx u1 u2 u3 u4 u5 u6=>kO 0 (bf+1) [.g,.g,.b true,.g,.g,.g,.i,.l (qf y0),.g,.g,.n s1,.i,.l (qf y1),.c (iV nWB) Z,.b true,.g,.g,.g,.g,.g,.n s1,.g,.g,.n s1,.i,.l (qf y1),.g,.g,.i,.l (qf y0),.i,.e undef ZBA,.i,.e undef ZBD,.g,.n (bf+1),.g] (fun _ f=>ai (zR u1) (an6 u2 h1 (w64 u3) u4 h2 h3 (an6 (zR u5) (w64 u3) (w64 u3) u4 h2 u2 (an6 h1 u2 h4 u4 h5 (w64 u6) f)))) nx
theorem xHE {Q6:St->Prop} (h1:lz Z 45 (zJ ar (Int.toNat bf*3)) (qf (rcd nCB nIB nPB))) (h2:lz Z 45 (zJ ar (Int.toNat (bf-1)*3)) (qf (rcd nQB nRB nSB))) (h3:qm az (qf (rcd nCB nIB nPB)::(qf (rcd nQB nRB nSB))::ao) Z (iV nWB) Z) (nx:Q6 Z) (u1:bf<b:=by omega) (u2:Ix bf ag:=by omega) (u3:I6 (bf-1):=by omega) (u4:Ix (bf-1) ag:=by omega) (u5:¬ nWB<0:=by omega):zQM ar ag ah a_1 b az ao aS aC bf Z Nx Q6 :=
 kO 1 () [.g,.g,.b true,.g,.g,.g,.i,.l (qf (rcd nCB nIB nPB)),.g,.g,.n (bf-1),.i,.l (qf (rcd nQB nRB nSB)),.c (iV nWB) Z,.b false,.g] (fun _ f=>an2 (zR u1) u2 (an6 h1 (w64 u3) u4 h2 h3 (zT u5) f)) nx
theorem xHD {Q6:St->Prop} (nx:Q6 Z) (u1:¬ bf<b:=by omega):zQM ar ag ah a_1 b az ao aS aC bf Z Nx Q6 :=
 kO 1 () [.g,.g,.b false] (fun _ f=>ai (zT u1) f) nx
theorem yPH {Nx:Int->Int->St->Prop} (h1:lz Z 45 (zJ ar (Int.toNat (aS-1)*3)) (qf (rcd nLB nJB nBC))) (h2:lz Z 45 (zJ ar (Int.toNat aS*3)) (qf (rcd nCC nDC nEC))) (h3:qo (evL [pz (zJ ar (Int.toNat aS*3)),qf (rcd nLB nJB nBC)]) Z (.store 45 (.tmp 0) (.tmp 1))=some (undef,ZDB)) (h4:qo (evL [pz (zJ ar (Int.toNat (aS-1)*3)),qf (rcd nCC nDC nEC)]) ZDB (.store 45 (.tmp 0) (.tmp 1))=some (undef,ZEB)) (hL:zJZ ar ag ah a_1 b az ao aS aC (aS+1) ZEB P6) (k6:∀ Z',P6 Z'->zOK (some ar) ar ag ah a_1 b az ao aS aC Z' Nx Q0 Qr) (u1:¬ aS=b:=by omega) (u2:I6 (b-a_1):=by omega) (u3:¬ (b-a_1)<50:=by omega) (u4:I6 (aS-1):=by omega) (u5:Ix (aS-1) ag:=by omega) (u6:Ix aS ag:=by omega) (u7:I6 (aS-a_1):=by omega) (u8:¬ 2<=(aS-a_1):=by omega) (u9:I6 (b-aS):=by omega) (u10:2<=(b-aS):=by omega) (u11:I6 (aS+1):=by omega):zBO (some ar) ag ah a_1 b az ao aC aS Z Nx Q0 Qr :=
 let s1:=zJW ar ag ah a_1 b az ao aS aC (aS+1);sK [.g,.g,.b false,.g,.g,.n (b-a_1),.b false,.g,.g,.g,.g,.n (aS-1),.g,.g,.n (aS-1),.i,.l (qf (rcd nLB nJB nBC)),.g,.g,.i,.l (qf (rcd nCC nDC nEC)),.i,.e undef ZDB,.i,.e undef ZEB,.g,.g,.n (aS-a_1),.b false,.g,.g,.n (b-aS),.b true,.g,.n (aS+1),.g,.lf 141 s1 [zHJ ar ag ah a_1 b az ao aS aC P6]] (an6 (xI u1) (w64 u2) (zT u3) (w64 u4) (w64 u4) u5 (an6 h1 u6 h2 u6 h3 u5 (an6 h4 (w64 u7) (yH u8) (w64 u9) (yE u10) (w64 u11) (ai (ai tt (ai (arf s1) hL)) (ai (kz0 k6) trivial)))))
theorem yPG {Nx:Int->Int->St->Prop} (h1:lz Z 45 (zJ ar (Int.toNat (aS-1)*3)) (qf (rcd nLB nJB nBC))) (h2:lz Z 45 (zJ ar (Int.toNat aS*3)) (qf (rcd nCC nDC nEC))) (h3:qo (evL [pz (zJ ar (Int.toNat aS*3)),qf (rcd nLB nJB nBC)]) Z (.store 45 (.tmp 0) (.tmp 1))=some (undef,ZDB)) (h4:qo (evL [pz (zJ ar (Int.toNat (aS-1)*3)),qf (rcd nCC nDC nEC)]) ZDB (.store 45 (.tmp 0) (.tmp 1))=some (undef,ZEB)) (nx:Nx aS (aC+1) ZEB) (u1:¬ aS=b:=by omega) (u2:I6 (b-a_1):=by omega) (u3:¬ (b-a_1)<50:=by omega) (u4:I6 (aS-1):=by omega) (u5:Ix (aS-1) ag:=by omega) (u6:Ix aS ag:=by omega) (u7:I6 (aS-a_1):=by omega) (u8:¬ 2<=(aS-a_1):=by omega) (u9:I6 (b-aS):=by omega) (u10:¬ 2<=(b-aS):=by omega) (u11:I6 (aC+1):=by omega):zBO (some ar) ag ah a_1 b az ao aC aS Z Nx Q0 Qr :=
 sF 0 (aS,aC+1) [.g,.g,.b false,.g,.g,.n (b-a_1),.b false,.g,.g,.g,.g,.n (aS-1),.g,.g,.n (aS-1),.i,.l (qf (rcd nLB nJB nBC)),.g,.g,.i,.l (qf (rcd nCC nDC nEC)),.i,.e undef ZDB,.i,.e undef ZEB,.g,.g,.n (aS-a_1),.b false,.g,.g,.n (b-aS),.b false,.g,.n (aC+1),.g] (fun _ f=>an6 (xI u1) (w64 u2) (zT u3) (w64 u4) (w64 u4) u5 (an6 h1 u6 h2 u6 h3 u5 (an6 h4 (w64 u7) (yH u8) (w64 u9) (yH u10) (w64 u11) f))) nx
theorem yPF {Nx:Int->Int->St->Prop} (hL:zJZ ar ag ah a_1 b az ao aS aC (aS+1) Z P6) (k6:∀ Z',P6 Z'->zOK data ar ag ah a_1 b az ao aS aC Z' Nx Q0 Qr) (u1:I6 (b-aS):=by omega) (u2:2<=(b-aS):=by omega) (u3:I6 (aS+1):=by omega):zOL data ar ag ah a_1 b az ao aS aC Z Nx Q0 Qr :=
 let s1:=zJW ar ag ah a_1 b az ao aS aC (aS+1);sK [.g,.g,.n (b-aS),.b true,.g,.n (aS+1),.g,.lf 141 s1 [zHJ ar ag ah a_1 b az ao aS aC P6]] (an3 (w64 u1) (yE u2) (w64 u3) (ai (ai tt (ai (arf s1) hL)) (ai (kz0 k6) trivial)))
theorem yPE {Nx:Int->Int->St->Prop} (nx:Nx aS (aC+1) Z) (u1:I6 (b-aS):=by omega) (u2:¬ 2<=(b-aS):=by omega) (u3:I6 (aC+1):=by omega):zOL (some ar) ar ag ah a_1 b az ao aS aC Z Nx Q0 Qr :=
 sF 0 (aS,aC+1) [.g,.g,.n (b-aS),.b false,.g,.n (aC+1),.g] (fun _ f=>an3 (w64 u1) (yH u2) (w64 u3) f) nx
theorem zVK {Nx:Int->Int->St->Prop} (nx:Nx aS (aC+1) Z) (u1:I6 (aC+1):=by omega):zOK (some ar) ar ag ah a_1 b az ao aS aC Z Nx Q0 Qr :=
 sF 0 (aS,aC+1) [.g,.n (aC+1),.g] (fun _ f=>ai (w64 u1) f) nx
theorem xOM {Pr:Bool->St->Prop} (hL:yPW data ag ah a_1 b az ao (a_1+1) 0 Z P0 Pr) (k0:∀ Z',P0 Z'->yAF data ag ah a_1 b az ao Z' Q) (kr:∀ t8_1' Z',Pr t8_1' Z'->yAE data ag ah a_1 b az ao t8_1' Z' Q) (u1:I6 (a_1+1):=by omega):qg 111 [.slice data ag ah,iV a_1,iV b,.func (.func az) ⟨[]⟩ ⟨ao⟩] Z Q :=
 let s1:=zQL data ag ah a_1 b az ao (a_1+1) 0;zH [.g,.g,.n (a_1+1),.g,.g,.lf 141 s1 [zBN data ag ah a_1 b az ao P0,zBM data ag ah a_1 b az ao Pr]] (kd (ai (w64 u1) (ai (ai tt (ai (arf s1) hL)) (ai (kz0 k0) (ai (kz1 kr) trivial)))))
theorem yPM (nx:Q (.bool false) Z):yAF data ag ah a_1 b az ao Z Q :=
 sK [.g] nx
theorem yPL (nx:Q (.bool t8_1) Z):yAE data ag ah a_1 b az ao t8_1 Z Q :=
 sK [] nx
end
section
open Go.Sort (swp)
variable {Z τ:St} {f:FuncId} {args:List Value} {v:Value} {b:Nat} {s:Option Nat} {d dk d':Array Rec}
def Cmp (g:FuncId) (gc:List Value) (lt:Rec->Rec->Bool) (V:Rec->Prop):Prop:=∀ (τ:St) (x y:Rec),V x->V y->∃ n:Int,zD Pg g (zEN x::zEN y::gc) τ (iV n) τ/\(n<0↔lt x y=true)
def xS (V:Rec->Prop) (d:Array Rec):Prop:=∀ i,i<d.size->V d[i]!
theorem xB (d:Array Rec) (i j:Nat):(swp d i j).size=d.size:=by simp [swp]
theorem xDX (d:Array Rec) (i k:Nat) (x:Rec) (hk:k<d.size):(d.setIfInBounds i x)[k]! = if i=k then x else d[k]! := by
 rw [getElem!_pos _ k (by simpa using hk),getElem!_pos d k hk,Array.getElem_setIfInBounds]
theorem xS.swp {V:Rec->Prop} {d:Array Rec} (h:xS V d) {i j:Nat} (hi:i<d.size) (hj:j<d.size):xS V (swp d i j):=by
 intro k hk;rw [xB] at hk;unfold Go.Sort.swp;rw [xDX _ _ _ _ (by simpa using hk),xDX _ _ _ _ hk];split
 ·exact h i hi
 ·split
  ·exact h j hj
  ·exact h k hk
theorem zEI {Z':St} (h:zD Pg f args Z v Z'):Z'.low<=Z.low:=by
 obtain ⟨N0,hN0⟩:=h;have hc:=hN0 N0 (Nat.le_refl _);unfold vZ at hc;split at hc
 ·cases hc
 ·rename_i v1 s1 h1;unfold uA at hc;rcases Bool.eq_false_or_eq_true (Nat.ble Z.y s1.low && zW RD v1) with e | e
  ·rw [e,cond_true] at hc;simp at hc;rw [<- hc.2];exact Nat.le_refl _
  ·rw [e,cond_false] at hc;rcases Bool.eq_false_or_eq_true (Nat.ble Z.y s1.y) with e2 | e2
   ·rw [e2,cond_true,wI,zAB] at hc;simp at hc;rw [<- hc.2];show min _ _<=_;omega
   ·rw [e2,cond_false] at hc;cases hc
theorem xYY {s:St} (h:∃ N0,∀ N,N0<=N->zV Pg N (.func f) args Z.re=some (v,s)) (h1:Z.y<=s.y) (h2:s.low<Z.y):zD Pg f args Z v ⟨s.heap,s.y,min Z.low s.low⟩:=by
 obtain ⟨N0,hN⟩:=h;refine ⟨N0,fun N hl=>?_⟩
 unfold vZ;rw [show (⟨Z.heap,Z.y,Z.y⟩:St)=Z.re from rfl,hN N hl];show uA Z v s=_;unfold uA;have e1:(Nat.ble Z.y s.low && zW RD v)=false:=by
  rw [Bool.and_eq_false_iff];left;rw [Bool.eq_false_iff];intro e;have:=(zX _ _).1 e;omega
 have e2:Nat.ble Z.y s.y=true:=(zX _ _).2 h1;rw [e1,cond_false,e2,cond_true,wI,zAB]
structure W (Z τ:St) (b:Nat) (s:Option Nat) (d dk:Array Rec):Prop where
 only:Only (·=b) Z.re τ
 dt:Dt τ b s dk
 low:τ.low<=b\/dk=d
theorem W.start (h:Dt Z b s d):W Z Z.re b s d d:=⟨Only.refl _ _,h,.inr rfl⟩
theorem W.swap (w:W Z τ b s d dk) {i j:Int} (h0:0<=i) (hi:i<(dk.size:Int)) (k0:0<=j) (hj:j<(dk.size:Int)) :
  ∃ τ1 τ2,zQ Pg (evL [.pointer (some (zJ ⟨b,0,s⟩ (Int.toNat i*3))),zEN dk[j.toNat]!]) τ (.store 45 (.tmp 0) (.tmp 1))=some (undef,τ1) /\
   zQ Pg (evL [.pointer (some (zJ ⟨b,0,s⟩ (Int.toNat j*3))),zEN dk[i.toNat]!]) τ1 (.store 45 (.tmp 0) (.tmp 1))=some (undef,τ2)/\W Z τ2 b s d (swp dk i.toNat j.toNat):=by
 obtain ⟨τ1,e1,d1,o1,l1⟩:=w.dt.st dk[j.toNat]! h0 hi;obtain ⟨τ2,e2,d2,o2,l2⟩:=d1.st (i:=j) dk[i.toNat]! k0 (by simpa using hj);exact ⟨τ1,τ2,e1,e2,⟨(w.only.trans' o1 (fun b _ h=>.inl h)).trans' o2 (fun b _ h=>.inl h),d2,.inl l2⟩⟩
def uN (f:FuncId) (args:List Value) (v:Value) (Z:St) (b:Nat) (s:Option Nat) (d d':Array Rec):Prop:=∃ Z',zD Pg f args Z v Z'/\Only (·=b) Z Z'/\Dt Z' b s d'/\(Z'.low<=b\/d'=d)
theorem uN.of (h0:Dt Z b s d) (h:zO Pg f args Z.re fun v' τ=>v'=v/\W Z τ b s d d') (hv:zW RD v=true:=by rfl):uN f args v Z b s d d':=by
  obtain ⟨_,τ,hN,rfl,w⟩:=h;by_cases hlow:τ.low<Z.y
  · have ho:Only (·=b) Z ⟨τ.heap,τ.y,min Z.low τ.low⟩:=by
      have:=w.only.lower (m:=0);exact this
    refine ⟨_,xYY hN w.only.y hlow,ho,w.dt, ?_⟩
    rcases w.low with h | h
    · exact .inl (by show min _ _<=_;omega)
    · exact .inr h
  · have hd:d'=d:=by
      rcases w.low with h | h
      · have:=h0.1;omega
      · exact h
    exact ⟨Z,zO.pure ⟨_,τ,hN,rfl,by omega⟩ hv,Only.refl _ _,by rw [hd];exact h0,.inr hd⟩
theorem W.call (w:W Z τ b s d dk) (h:uN f args v τ b s dk d'):∃ τ',zD Pg f args τ v τ'/\W Z τ' b s d d':=by
 obtain ⟨τ',c,o,dt,hl⟩:=h;refine ⟨τ',c,w.only.trans' o (fun b _ h=>.inl h),dt, ?_⟩
 have:=zEI c;rcases hl with hl | hl
 ·exact .inl hl
 ·rcases w.low with h | h
  ·exact .inl (by omega)
  ·exact .inr (hl.trans h)
section
variable {Z:St} {b c:Nat} {s:Option Nat} {d:Array Rec} {g:FuncId} {gc:List Value} {lt:Rec->Rec->Bool} {V:Rec->Prop}
theorem zNM (lt:Rec->Rec->Bool) (a:Nat):∀ (j:Nat) (d:Array Rec),(Go.Sort.insInner lt a j d).size=d.size
 | 0,d=>rfl
 | j+1,d=>by
  unfold Go.Sort.insInner;split
  ·rw [zNM,xB]
  ·rfl
theorem zQU (lt:Rec->Rec->Bool) (a:Nat) {V:Rec->Prop}:∀ (j:Nat) (d:Array Rec),j<d.size->xS V d->xS V (Go.Sort.insInner lt a j d)
 | 0,d,_,h=>h
 | j+1,d,hj,h=>by
  unfold Go.Sort.insInner;split
  ·exact zQU lt a j _ (by rw [xB];omega) (h.swp hj (by omega))
  ·exact h
theorem wAV {a B:Nat} (h:Dt Z b s d) (hc:Cmp g gc lt V) (hv:xS V d) (hB:B<=d.size) (hn:d.size<=1000000) (ha:a<=1000000) :
  uN 106 [.slice (some ⟨b,0,s⟩) d.size c,iV (a:Int),iV (B:Int),.func (.func g) ⟨[]⟩ ⟨gc⟩] (.tuple ⟨[]⟩) Z b s d (Go.Sort.insertionSort lt d a B):=by
 refine uN.of h (xDJ (P0:=fun τ=>W Z τ b s d (Go.Sort.insertionSort lt d a B)) (yAV (Inv:=fun k i τ=>∃ (j:Nat) (dk:Array Rec),i=j/\k=B-j/\W Z τ b s d dk/\dk.size=d.size/\xS V dk/\Go.Sort.insOuter lt a B j dk=Go.Sort.insertionSort lt d a B) ?_ (B-(a+1)) _ Z.re ⟨a+1,d,by omega,rfl,W.start h,rfl,hv,rfl⟩) (fun τ hw=>yAU ⟨rfl,hw⟩) (by omega));rintro k i τ ⟨j,dk,rfl,hk,w,hsz,hall,ht⟩;by_cases hj:j<B;rotate_left
 ·rw [Go.Sort.insOuter,if_neg hj] at ht;exact yQK (by rw [<- ht];exact w) (by omega)
 rw [Go.Sort.insOuter,if_pos hj] at ht;refine xQA (P2:=fun τ'=>W Z τ' b s d (Go.Sort.insInner lt a j dk)) (yYP (Inv:=fun k' q' τ'=>∃ (q:Nat) (dq:Array Rec),q'=q/\q=k'/\q<=j/\W Z τ' b s d dq/\dq.size=d.size/\xS V dq/\Go.Sort.insInner lt a q dq=Go.Sort.insInner lt a j dk) ?_ j _ τ ⟨j,dk,rfl,rfl,Nat.le_refl _,w,hsz,hall,rfl⟩)
  (fun τ' hw=>yYO ⟨k-1,by omega,j+1,_,by omega,by omega,hw,by rw [zNM,hsz],zQU _ _ _ _ (by omega) hall,ht⟩ (by omega)) (by omega)
 rintro k' q' τ' ⟨q,dq,rfl,rfl,hq,w',hsz',hall',ht'⟩;by_cases haq:a<q;rotate_left
 ·refine xPX ?_ (by omega);have e:Go.Sort.insInner lt a q dq=dq:=by
   cases q with
   | zero=>rfl
   | succ q=>unfold Go.Sort.insInner;rw [if_neg (by simp;omega)]
  rw [<- ht',e];exact w'
 obtain ⟨p,rfl⟩:∃ p,q=p+1:=⟨q-1,by omega⟩;have l1:=w'.dt.ld (i:=((p+1:Nat):Int)) (by omega) (by omega);have l2:=w'.dt.ld (i:=((p+1:Nat):Int)-1) (by omega) (by omega);have e2:(((p+1:Nat):Int)-1).toNat=p:=by omega
 obtain ⟨n,hn1,hn2⟩:=hc τ' dq[(((p+1:Nat):Int)).toNat]! dq[(((p+1:Nat):Int)-1).toNat]! (hall' _ (by omega)) (hall' _ (by omega));by_cases hlt:n<0
 ·have hl:=hn2.1 hlt;rw [e2,Int.toNat_natCast] at hl;obtain ⟨τ1,τ2,s1,s2,w2⟩:=w'.swap (i:=((p+1:Nat):Int)) (j:=((p+1:Nat):Int)-1) (by omega) (by omega) (by omega) (by omega);rw [e2,Int.toNat_natCast] at w2;refine xPZ l1 l2 hn1 s1 s2 ⟨p,by omega,p,_,by omega,rfl,by omega,w2,by rw [xB,hsz'],hall'.swp (by omega) (by omega), ?_⟩ (by omega) (by omega) (by omega) (by omega) (by omega);rw [<- ht'];conv=>rhs;unfold Go.Sort.insInner
  rw [if_pos (by simp [hl];omega)]
 ·have hl:lt dq[p+1]! dq[p]! = false:=by
   rw [Bool.eq_false_iff];intro e;have:=hn2.2 (by rw [e2,Int.toNat_natCast];exact e);exact hlt this
  refine xPY l1 l2 hn1 ?_ (by omega) (by omega) (by omega) (by omega) (by omega);have e:Go.Sort.insInner lt a (p+1) dq=dq:=by unfold Go.Sort.insInner;rw [if_neg (by simp [hl])]
  rw [<- ht',e];exact w'
end
end
section
open Go.Sort (swp)
variable {τ:St} {dk:Array Rec}
section
variable {Z:St} {b c:Nat} {s:Option Nat} {d:Array Rec} {g:FuncId} {gc:List Value} {lt:Rec->Rec->Bool} {V:Rec->Prop}
theorem Cmp.at_ (hc:Cmp g gc lt V) {τ:St} {dk:Array Rec} (hv:xS V dk) {i j:Nat} (hi:i<dk.size) (hj:j<dk.size):∃ n:Int,zD Tryz.prog g (zEN dk[i]! :: zEN dk[j]! :: gc) τ (iV n) τ/\((n<0/\lt dk[i]! dk[j]! = true)\/(¬ n<0/\lt dk[i]! dk[j]! = false)):=by
 obtain ⟨n,h1,h2⟩:=hc τ dk[i]! dk[j]! (hv i hi) (hv j hj);refine ⟨n,h1, ?_⟩
 by_cases h:n<0
 ·exact .inl ⟨h,h2.1 h⟩
 ·exact .inr ⟨h,by rw [Bool.eq_false_iff];exact fun e=>h (h2.2 e)⟩
theorem Dt.ldN (h:Dt τ b s dk) {i:Int} {k:Nat} (e:i=(k:Int)) (hk:k<dk.size):zB Tryz.prog τ 45 (zJ ⟨b,0,s⟩ (Int.toNat i*3))=some (zEN dk[k]!):=by
 subst e;exact h.ld (by omega) (by omega)
theorem W.swapN (w:W Z τ b s d dk) {i j:Int} {p q:Nat} (ei:i=(p:Int)) (ej:j=(q:Int)) (hp:p<dk.size) (hq:q<dk.size) :
  ∃ τ1 τ2,zQ Tryz.prog (evL [.pointer (some (zJ ⟨b,0,s⟩ (Int.toNat i*3))),zEN dk[q]!]) τ (.store 45 (.tmp 0) (.tmp 1))=some (undef,τ1) /\
   zQ Tryz.prog (evL [.pointer (some (zJ ⟨b,0,s⟩ (Int.toNat j*3))),zEN dk[p]!]) τ1 (.store 45 (.tmp 0) (.tmp 1))=some (undef,τ2)/\W Z τ2 b s d (swp dk p q):=by
 subst ei ej;have:=w.swap (i:=(p:Int)) (j:=(q:Int)) (by omega) (by omega) (by omega) (by omega);simpa only [Int.toNat_natCast] using this
theorem yNS (lt:Rec->Rec->Bool) (hi first root:Nat) (d:Array Rec):Go.Sort.siftDown lt hi first root d=(if 2*root+1 ≥ hi then d else
  if 2*root+1+1<hi && lt d[first+(2*root+1)]! d[first+(2*root+1)+1]! then
   if !lt d[first+root]! d[first+(2*root+2)]! then d else
    if 2*root+2<hi then Go.Sort.siftDown lt hi first (2*root+2) (swp d (first+root) (first+(2*root+2))) else d
  else
   if !lt d[first+root]! d[first+(2*root+1)]! then d else Go.Sort.siftDown lt hi first (2*root+1) (swp d (first+root) (first+(2*root+1)))):=by
 conv=>lhs;unfold Go.Sort.siftDown
 simp only [dite_eq_ite]
theorem zCB (lt:Rec->Rec->Bool) (hi first:Nat):∀ (k root:Nat) (d:Array Rec),hi-root<=k->(Go.Sort.siftDown lt hi first root d).size=d.size
 | 0,root,d,hk=>by unfold Go.Sort.siftDown;rw [dif_pos (by omega)]
 | k+1,root,d,hk=>by
  unfold Go.Sort.siftDown;split
  ·rfl
  ·split
   ·split
    ·rfl
    ·split
     ·rw [zCB lt hi first k _ _ (by omega),xB]
     ·rfl
   ·split
    ·rfl
    ·rw [zCB lt hi first k _ _ (by omega),xB]
theorem zCZ (lt:Rec->Rec->Bool) (hi first:Nat) {V:Rec->Prop}:∀ (k root:Nat) (d:Array Rec),hi-root<=k->first+hi<=d.size->xS V d->xS V (Go.Sort.siftDown lt hi first root d)
 | 0,root,d,hk,hs,h=>by unfold Go.Sort.siftDown;rw [dif_pos (by omega)];exact h
 | k+1,root,d,hk,hs,h=>by
  unfold Go.Sort.siftDown;split
  ·exact h
  ·rename_i h1;split
   ·split
    ·exact h
    ·split
     ·rename_i h2;exact zCZ lt hi first k _ _ (by omega) (by rw [xB];exact hs) (h.swp (by omega) (by omega))
     ·exact h
   ·split
    ·exact h
    ·exact zCZ lt hi first k _ _ (by omega) (by rw [xB];exact hs) (h.swp (by omega) (by omega))
theorem xCD {lo hi first:Nat} (h:Dt Z b s d) (hc:Cmp g gc lt V) (hv:xS V d) (hB:first+hi<=d.size) (hn:d.size<=1000000) (hlo:lo<=1000000) :
  uN 121 [.slice (some ⟨b,0,s⟩) d.size c,iV (lo:Int),iV (hi:Int),iV (first:Int),.func (.func g) ⟨[]⟩ ⟨gc⟩] (.tuple ⟨[]⟩) Z b s d (Go.Sort.siftDown lt hi first lo d):=by
 refine uN.of h (xMF (P0:=fun τ=>W Z τ b s d (Go.Sort.siftDown lt hi first lo d)) (Pr:=fun τ=>W Z τ b s d (Go.Sort.siftDown lt hi first lo d)) (yNV (Inv:=fun k i τ=>∃ (r:Nat) (dk:Array Rec),i=r/\k=hi-r/\r<=1000000+2*hi+2/\W Z τ b s d dk/\dk.size=d.size/\xS V dk/\Go.Sort.siftDown lt hi first r dk=Go.Sort.siftDown lt hi first lo d) ?_ (hi-lo) _ Z.re ⟨lo,d,rfl,rfl,by omega,W.start h,rfl,hv,rfl⟩) (fun τ hw=>yNU ⟨rfl,hw⟩) (fun τ hw=>yNT ⟨rfl,hw⟩));rintro k i τ ⟨r,dk,rfl,hk,hr,w,hsz,hall,ht⟩;by_cases h1:2*r+1 ≥ hi
 ·have e:Go.Sort.siftDown lt hi first r dk=dk:=by unfold Go.Sort.siftDown;rw [dif_pos h1]
  exact xFF (by rw [<- ht,e];exact w) (by omega) (by omega) (by omega)
 have e0:=yNS lt hi first r dk
 rw [if_neg h1] at e0;have bR:first+r<dk.size:=by omega
 have bC:first+(2*r+1)<dk.size:=by omega
 have lR:=w.dt.ldN (i:=(first:Int)+(r:Int)) (k:=first+r) (by omega) bR;have lC:=w.dt.ldN (i:=(first:Int)+(2*(r:Int)+1)) (k:=first+(2*r+1)) (by omega) bC;obtain ⟨nC,cC,hC⟩:=hc.at_ (τ:=τ) hall bR bC;by_cases h2:2*r+1+1<hi
 ·have bD:first+(2*r+2)<dk.size:=by omega
  have lD1:=w.dt.ldN (i:=(first:Int)+(2*(r:Int)+1)+1) (k:=first+(2*r+2)) (by omega) bD;have lD2:=w.dt.ldN (i:=(first:Int)+(2*(r:Int)+1+1)) (k:=first+(2*r+2)) (by omega) bD;obtain ⟨n1,c1,hc1⟩:=hc.at_ (τ:=τ) hall bC bD;obtain ⟨n2,c2,hc2⟩:=hc.at_ (τ:=τ) hall bR bD;have eD:first+(2*r+1)+1=first+(2*r+2):=by omega
  rcases hc1 with ⟨m1,l1⟩ | ⟨m1,l1⟩
  ·rw [if_pos (by simp [h2,eD,l1])] at e0;rcases hc2 with ⟨m2,l2⟩ | ⟨m2,l2⟩
   ·rw [if_neg (by simp [l2]),if_pos (by omega)] at e0;obtain ⟨τ1,τ2,s1,s2,w2⟩:=w.swapN (i:=(first:Int)+(r:Int)) (j:=(first:Int)+(2*(r:Int)+1+1)) (p:=first+r) (q:=first+(2*r+2)) (by omega) (by omega) bR bD;exact xFE ⟨lC,lD1,c1,lR,lD2,c2⟩ s1 s2 ⟨hi-(2*r+2),by omega,2*r+2,_,by omega,rfl,by omega,w2,by rw [xB,hsz],hall.swp bR bD,by rw [<- e0,ht]⟩ (by omega) (by omega) (by omega) (by omega) (by omega) (by omega) (by omega) (by omega) (by omega) (by omega) (by omega) (by omega) (by omega) (by omega) (by omega)
   ·rw [if_pos (by simp [l2])] at e0;exact xFD ⟨lC,lD1,c1,lR,lD2,c2⟩ (by rw [<- ht,e0];exact w)
  ·rw [if_neg (by simp [eD,l1])] at e0;rcases hC with ⟨m2,l2⟩ | ⟨m2,l2⟩
   ·rw [if_neg (by simp [l2])] at e0;obtain ⟨τ1,τ2,s1,s2,w2⟩:=w.swapN (i:=(first:Int)+(r:Int)) (j:=(first:Int)+(2*(r:Int)+1)) (p:=first+r) (q:=first+(2*r+1)) (by omega) (by omega) bR bC;exact xFC lC lD1 c1 lR cC s1 s2 ⟨hi-(2*r+1),by omega,2*r+1,_,by omega,rfl,by omega,w2,by rw [xB,hsz],hall.swp bR bC,by rw [<- e0,ht]⟩
   ·rw [if_pos (by simp [l2])] at e0;exact xFB lC lD1 c1 lR cC (by rw [<- ht,e0];exact w)
 ·rw [if_neg (by simp [show ¬ 2*r+1+1<hi from h2])] at e0;rcases hC with ⟨m2,l2⟩ | ⟨m2,l2⟩
  ·rw [if_neg (by simp [l2])] at e0;obtain ⟨τ1,τ2,s1,s2,w2⟩:=w.swapN (i:=(first:Int)+(r:Int)) (j:=(first:Int)+(2*(r:Int)+1)) (p:=first+r) (q:=first+(2*r+1)) (by omega) (by omega) bR bC;exact xFA lR lC cC s1 s2 ⟨hi-(2*r+1),by omega,2*r+1,_,by omega,rfl,by omega,w2,by rw [xB,hsz],hall.swp bR bC,by rw [<- e0,ht]⟩
  ·rw [if_pos (by simp [l2])] at e0;exact xEZ lR lC cC (by rw [<- ht,e0];exact w)
end
end
section
open Go.Sort (swp)
section
variable {Z:St} {b c:Nat} {s:Option Nat} {d:Array Rec} {g:FuncId} {gc:List Value} {lt:Rec->Rec->Bool} {V:Rec->Prop}
theorem xWM {a B:Nat} (h:Dt Z b s d) (hc:Cmp g gc lt V) (hv:xS V d) (ha:a<=B) (hB:B<=d.size) (hn:d.size<=1000000) :
  uN 107 [.slice (some ⟨b,0,s⟩) d.size c,iV (a:Int),iV (B:Int),.func (.func g) ⟨[]⟩ ⟨gc⟩] (.tuple ⟨[]⟩) Z b s d (Go.Sort.heapSort lt d a B):=by
 have e1:Int.tdiv (((B:Int)-(a:Int))-1) 2=(((B-a-1) / 2:Nat):Int):=by
  by_cases h0:B=a
  ·subst h0;have:((B:Int)-(B:Int))-1=-1:=by omega
   rw [this];have:B-B-1=0:=by omega
   rw [this];rfl
  ·rw [Int.tdiv_eq_ediv_of_nonneg (by omega)];omega
 have e2:(B:Int)-(a:Int)=((B-a:Nat):Int):=by omega
 refine uN.of h (xQU (by rw [<- vW,e1,zYE (by omega) (by omega)]) (P0:=fun τ=>∃ dk,W Z τ b s d dk/\dk.size=d.size/\xS V dk/\Go.Sort.heapPop lt a (B-a) dk=Go.Sort.heapSort lt d a B)
  (yQV (Inv:=fun k i τ=>∃ dk,i=(k:Int)-1/\k<=(B-a-1) / 2+1/\W Z τ b s d dk/\dk.size=d.size/\xS V dk/\Go.Sort.heapPop lt a (B-a) (Go.Sort.heapBuild lt (B-a) a k dk)=Go.Sort.heapSort lt d a B) ?_ ((B-a-1) / 2+1) _ Z.re ⟨d,by rw [e1];omega,by omega,W.start h,rfl,hv,rfl⟩) ?_)
 ·rintro k i τ ⟨dk,rfl,hk,w,hsz,hall,ht⟩;cases k with
  | zero=>exact xIH ⟨dk,w,hsz,hall,ht⟩ (by omega)
  | succ k =>
   have hs:=xCD (c:=c) (lo:=k) (hi:=B-a) (first:=a) w.dt hc hall (by omega) (by omega) (by omega);obtain ⟨τ',k1,w'⟩:=w.call hs;rw [hsz] at k1;rw [<- e2] at k1;rw [show ((k+1:Nat):Int)-1=(k:Int) by omega];exact xII k1 ⟨k,by omega,_,by omega,by omega,w',by rw [zCB lt _ _ _ _ _ (Nat.le_refl _),hsz],zCZ lt _ _ _ _ _ (Nat.le_refl _) (by omega) hall,ht⟩ (by omega)
 ·rintro τ ⟨dk0,w0,hsz0,hall0,ht0⟩;refine yQT (P2:=fun τ=>W Z τ b s d (Go.Sort.heapSort lt d a B)) (yQU (Inv:=fun k i τ=>∃ dk,i=(k:Int)-1/\k<=B-a/\W Z τ b s d dk/\dk.size=d.size/\xS V dk/\Go.Sort.heapPop lt a k dk=Go.Sort.heapSort lt d a B) ?_ (B-a) _ τ ⟨dk0,by omega,Nat.le_refl _,w0,hsz0,hall0,ht0⟩) (fun τ hw=>yQS ⟨rfl,hw⟩) (by omega);rintro k i τ ⟨dk,rfl,hk,w,hsz,hall,ht⟩;cases k with
  | zero=>exact xIF (by rw [<- ht];exact w) (by omega)
  | succ k =>
   have b1:a+k<dk.size:=by omega
   have b2:a<dk.size:=by omega
   rw [show ((k+1:Nat):Int)-1=(k:Int) by omega];have l1:=w.dt.ldN (i:=(a:Int)+(k:Int)) (k:=a+k) (by omega) b1;have l2:=w.dt.ldN (i:=(a:Int)) (k:=a) rfl b2;obtain ⟨τ1,τ2,s1,s2,w2⟩:=w.swapN (i:=(a:Int)) (j:=(a:Int)+(k:Int)) (p:=a) (q:=a+k) rfl (by omega) b2 b1;have hall2:=hall.swp b2 b1;have hs:=xCD (c:=c) (lo:=0) (hi:=k) (first:=a) w2.dt hc hall2 (by rw [xB];omega) (by rw [xB];omega) (by omega);obtain ⟨τ',k1,w'⟩:=w2.call hs;rw [xB,hsz] at k1;exact xIG l1 l2 s1 s2 k1 ⟨k,by omega,_,by omega,by omega,w',by rw [zCB lt _ _ _ _ _ (Nat.le_refl _),xB,hsz],zCZ lt _ _ _ _ _ (Nat.le_refl _) (by rw [xB];omega) hall2,ht⟩ (by omega) (by omega) (by omega) (by omega)
theorem wAJ {a B dL:Nat} (h:Dt Z b s d) (hc:Cmp g gc lt V) (hv:xS V d) (ha:a<=dL) (hp:dL<B) (hB:B<=d.size) (hn:d.size<=1000000) :
  uN 113 [.slice (some ⟨b,0,s⟩) d.size c,iV (a:Int),iV (B:Int),iV (dL:Int),.func (.func g) ⟨[]⟩ ⟨gc⟩] (.tuple ⟨[iV ((Go.Sort.partition lt d a B dL).1:Int),.bool (Go.Sort.partition lt d a B dL).2.1]⟩) Z b s d (Go.Sort.partition lt d a B dL).2.2:=by
 have w0:=W.start h;obtain ⟨τ1,τ2,s1,s2,w1⟩:=w0.swapN (i:=(a:Int)) (j:=(dL:Int)) (p:=a) (q:=dL) rfl rfl (by omega) (by omega);obtain ⟨d1,hd1⟩:∃ d1,d1=swp d a dL:=⟨_,rfl⟩;have hall1:xS V d1:=by rw [hd1];exact hv.swp (by omega) (by omega)
 have hsz1:d1.size=d.size:=by rw [hd1,xB]
 rw [<- hd1] at w1;have l0:=w0.dt.ldN (i:=(dL:Int)) (k:=dL) rfl (by omega);have l0':=w0.dt.ldN (i:=(a:Int)) (k:=a) rfl (by omega);obtain ⟨i1,hi1⟩:∃ i1,i1=Go.Sort.scanUp (fun x=>lt x d1[a]!) d1 (B-1) (a+1):=⟨_,rfl⟩;obtain ⟨j1,hj1⟩:∃ j1,j1=Go.Sort.scanDown (fun x=>!lt x d1[a]!) d1 i1 (B-1):=⟨_,rfl⟩;have hres:Go.Sort.partition lt d a B dL=if i1 > j1 then (j1,true,swp d1 j1 a) else ((Go.Sort.partLoop lt a (i1+1) (j1-1) (swp d1 i1 j1)).1,false,swp (Go.Sort.partLoop lt a (i1+1) (j1-1) (swp d1 i1 j1)).2 (Go.Sort.partLoop lt a (i1+1) (j1-1) (swp d1 i1 j1)).1 a):=by
  unfold Go.Sort.partition;simp only [<- hd1,<- hi1,<- hj1]
 refine uN.of h (xVR l0 l0' s1 s2 (P0:=fun i τ=>i=(i1:Int)/\a+1<=i1/\i1<=B/\W Z τ b s d d1)
  (yXM (Inv:=fun k i τ=>∃ p:Nat,i=p/\p+k=B/\a+1<=p/\W Z τ b s d d1/\Go.Sort.scanUp (fun x=>lt x d1[a]!) d1 (B-1) p=i1) ?_ (B-(a+1)) _ τ2 ⟨a+1,by omega,by omega,by omega,w1,hi1.symm⟩) ?_)
 ·rintro k i τ ⟨p,rfl,hk,hap,w,ht⟩;by_cases hpj:p<=B-1;rotate_left
  ·rw [Go.Sort.scanUp,if_neg (by simp;omega)] at ht;exact xOF ⟨by rw [ht],by omega,by omega,w⟩ (by omega)
  have lp:=w.dt.ldN (i:=(p:Int)) (k:=p) rfl (by omega);have la:=w.dt.ldN (i:=(a:Int)) (k:=a) rfl (by omega);obtain ⟨n,cn,⟨m1,hl⟩ | ⟨m1,hl⟩⟩:=hc.at_ (τ:=τ) hall1 (i:=p) (j:=a) (by omega) (by omega)
  ·rw [Go.Sort.scanUp,if_pos (by simp [hl];omega)] at ht;exact xOH lp la cn ⟨k-1,by omega,p+1,by omega,by omega,by omega,w,ht⟩
  ·rw [Go.Sort.scanUp,if_neg (by simp [hl])] at ht;exact xOG lp la cn ⟨by rw [ht],by omega,by omega,w⟩
 rintro i τ ⟨rfl,hai,hiB,w⟩;refine yXH (P2:=fun j τ=>j=(j1:Int)/\j1<B/\i1<=j1+1/\W Z τ b s d d1)
  (yXL (Inv:=fun k j τ=>∃ q:Nat,j=q/\q=k/\q<B/\i1<=q+1/\W Z τ b s d d1/\Go.Sort.scanDown (fun x=>!lt x d1[a]!) d1 i1 q=j1) ?_ (B-1) _ τ ⟨B-1,by omega,rfl,by omega,by omega,w,hj1.symm⟩) ?_
 ·rintro k j τ ⟨q,rfl,rfl,hqB,hiq,w,ht⟩;by_cases hij:i1<=q;rotate_left
  ·have e:j1=q:=by
    cases q with
    | zero=>rw [<- ht];rfl
    | succ q=>rw [<- ht,Go.Sort.scanDown,if_neg (by simp;omega)]
   exact xOC ⟨by rw [e],by omega,by omega,w⟩ (by omega)
  obtain ⟨q',rfl⟩:∃ q',q=q'+1:=⟨q-1,by omega⟩;have lp:=w.dt.ldN (i:=((q'+1:Nat):Int)) (k:=q'+1) rfl (by omega);have la:=w.dt.ldN (i:=(a:Int)) (k:=a) rfl (by omega);obtain ⟨n,cn,⟨m1,hl⟩ | ⟨m1,hl⟩⟩:=hc.at_ (τ:=τ) hall1 (i:=q'+1) (j:=a) (by omega) (by omega)
  ·rw [Go.Sort.scanDown,if_neg (by simp [hl])] at ht;exact xOE lp la cn ⟨by rw [ht],by omega,by omega,w⟩
  ·rw [Go.Sort.scanDown,if_pos (by simp [hl];omega)] at ht;exact xOD lp la cn ⟨q',by omega,q',by omega,rfl,by omega,by omega,w,ht⟩
 rintro j τ ⟨rfl,hjB,hij1,w⟩;by_cases hgt:i1 > j1
 ·rw [if_pos hgt] at hres;have lj:=w.dt.ldN (i:=(j1:Int)) (k:=j1) rfl (by omega);have la:=w.dt.ldN (i:=(a:Int)) (k:=a) rfl (by omega);obtain ⟨τ3,τ4,t1,t2,w4⟩:=w.swapN (i:=(j1:Int)) (j:=(a:Int)) (p:=j1) (q:=a) rfl rfl (by omega) (by omega);exact yXG la lj t1 t2 ⟨by rw [hres],by rw [hres];exact w4⟩
 rw [if_neg hgt] at hres;have lj:=w.dt.ldN (i:=(j1:Int)) (k:=j1) rfl (by omega);have li:=w.dt.ldN (i:=(i1:Int)) (k:=i1) rfl (by omega);obtain ⟨τ3,τ4,t1,t2,w4⟩:=w.swapN (i:=(i1:Int)) (j:=(j1:Int)) (p:=i1) (q:=j1) rfl rfl (by omega) (by omega);obtain ⟨R,hR⟩:∃ R,R=Go.Sort.partLoop lt a (i1+1) (j1-1) (swp d1 i1 j1):=⟨_,rfl⟩;rw [<- hR] at hres;have hall4:=hall1.swp (i:=i1) (j:=j1) (by omega) (by omega);refine yXF lj li t1 t2 (P4:=fun j τ=>j=(R.1:Int)/\R.1<B/\a<=R.1/\R.2.size=d.size/\W Z τ b s d R.2)
  (yXK (Inv:=fun k i j τ=>∃ (p q:Nat) (dk:Array Rec),i=p/\j=q/\k=q+1-p/\a+1<=p/\q<B/\a<=q/\p<=q+2/\dk.size=d.size/\xS V dk/\W Z τ b s d dk/\Go.Sort.partLoop lt a p q dk=R) ?_ (j1-1+1-(i1+1)) _ _ τ4 ⟨i1+1,j1-1,_,by omega,by omega,rfl,by omega,by omega,by omega,by omega,by rw [xB,hsz1],hall4,w4,hR.symm⟩) ?_
 rotate_left
 ·rintro j τ ⟨rfl,hRB,hRa,hRs,w⟩;have lj:=w.dt.ldN (i:=(R.1:Int)) (k:=R.1) rfl (by omega);have la:=w.dt.ldN (i:=(a:Int)) (k:=a) rfl (by omega);obtain ⟨τ5,τ6,t1,t2,w6⟩:=w.swapN (i:=(R.1:Int)) (j:=(a:Int)) (p:=R.1) (q:=a) rfl rfl (by omega) (by omega);exact yXE la lj t1 t2 ⟨by rw [hres],by rw [hres];exact w6⟩
 rintro k i j τ ⟨p,q,dk,rfl,rfl,hk,hap,hqB,haq,hpq,hsz,hall,w,ht⟩;obtain ⟨i2,hi2⟩:∃ i2,i2=Go.Sort.scanUp (fun x=>lt x dk[a]!) dk q p:=⟨_,rfl⟩;obtain ⟨j2,hj2⟩:∃ j2,j2=Go.Sort.scanDown (fun x=>!lt x dk[a]!) dk i2 q:=⟨_,rfl⟩;have hstep:Go.Sort.partLoop lt a p q dk=if i2 > j2 then (j2,dk) else if (j2-1)+1-(i2+1)<q+1-p then Go.Sort.partLoop lt a (i2+1) (j2-1) (swp dk i2 j2) else (j2,dk):=by
  conv=>lhs;unfold Go.Sort.partLoop
  simp only [dite_eq_ite,<- hi2,<- hj2]
 refine xOB (P6:=fun i τ=>i=(i2:Int)/\p<=i2/\i2<=q+2/\(i2<=q+1\/i2=p)/\W Z τ b s d dk)
  (yXJ (Inv:=fun k i τ=>∃ u:Nat,i=u/\u+k=q+2/\p<=u/\(u<=q+1\/u=p)/\W Z τ b s d dk/\Go.Sort.scanUp (fun x=>lt x dk[a]!) dk q u=i2) ?_ (q+2-p) _ τ ⟨p,rfl,by omega,Nat.le_refl _,.inr rfl,w,hi2.symm⟩) ?_
 ·rintro k i τ ⟨u,rfl,hk,hpu,huq,w,ht⟩;by_cases hpj:u<=q;rotate_left
  ·rw [Go.Sort.scanUp,if_neg (by simp;omega)] at ht;exact xNY ⟨by rw [ht],by omega,by omega,by omega,w⟩ (by omega)
  have lp:=w.dt.ldN (i:=(u:Int)) (k:=u) rfl (by omega);have la:=w.dt.ldN (i:=(a:Int)) (k:=a) rfl (by omega);obtain ⟨n,cn,⟨m1,hl⟩ | ⟨m1,hl⟩⟩:=hc.at_ (τ:=τ) hall (i:=u) (j:=a) (by omega) (by omega)
  ·rw [Go.Sort.scanUp,if_pos (by simp [hl];omega)] at ht;exact xOA lp la cn ⟨k-1,by omega,u+1,by omega,by omega,by omega,by omega,w,ht⟩
  ·rw [Go.Sort.scanUp,if_neg (by simp [hl])] at ht;exact xNZ lp la cn ⟨by rw [ht],by omega,by omega,by omega,w⟩
 rintro i τ ⟨rfl,hpi,hiq,hiq2,w⟩;refine yXD (P8:=fun j τ=>j=(j2:Int)/\j2<=q/\(i2<=j2+1\/j2=q)/\W Z τ b s d dk)
  (yXI (Inv:=fun k j τ=>∃ v:Nat,j=v/\v=k/\v<=q/\(i2<=v+1\/v=q)/\W Z τ b s d dk/\Go.Sort.scanDown (fun x=>!lt x dk[a]!) dk i2 v=j2) ?_ q _ τ ⟨q,rfl,rfl,Nat.le_refl _,.inr rfl,w,hj2.symm⟩) ?_
 ·rintro k j τ ⟨v,rfl,rfl,hvq,hiv,w,ht⟩;by_cases hij:i2<=v;rotate_left
  ·have e:j2=v:=by
    cases v with
    | zero=>rw [<- ht];rfl
    | succ v=>rw [<- ht,Go.Sort.scanDown,if_neg (by simp;omega)]
   exact xNV ⟨by rw [e],by omega,by omega,w⟩ (by omega)
  obtain ⟨v',rfl⟩:∃ v',v=v'+1:=⟨v-1,by omega⟩;have lp:=w.dt.ldN (i:=((v'+1:Nat):Int)) (k:=v'+1) rfl (by omega);have la:=w.dt.ldN (i:=(a:Int)) (k:=a) rfl (by omega);obtain ⟨n,cn,⟨m1,hl⟩ | ⟨m1,hl⟩⟩:=hc.at_ (τ:=τ) hall (i:=v'+1) (j:=a) (by omega) (by omega)
  ·rw [Go.Sort.scanDown,if_neg (by simp [hl])] at ht;exact xNX lp la cn ⟨by rw [ht],by omega,by omega,w⟩
  ·rw [Go.Sort.scanDown,if_pos (by simp [hl];omega)] at ht;exact xNW lp la cn ⟨v',by omega,v',by omega,rfl,by omega,by omega,w,ht⟩
 rintro j τ ⟨rfl,hjq,hij2,w⟩;by_cases hgt:i2 > j2
 ·rw [if_pos hgt] at hstep;have e:R=(j2,dk):=by rw [<- ht,hstep]
  exact yXC ⟨by rw [e],by rw [e];show j2<B;omega,by rw [e];show a<=j2;omega,by rw [e];exact hsz,by rw [e];exact w⟩ (by omega)
 rw [if_neg hgt,if_pos (by omega)] at hstep;have lj:=w.dt.ldN (i:=(j2:Int)) (k:=j2) rfl (by omega);have li:=w.dt.ldN (i:=(i2:Int)) (k:=i2) rfl (by omega);obtain ⟨τ5,τ6,t1,t2,w6⟩:=w.swapN (i:=(i2:Int)) (j:=(j2:Int)) (p:=i2) (q:=j2) rfl rfl (by omega) (by omega);exact yXB lj li t1 t2 ⟨j2-1+1-(i2+1),by omega,i2+1,j2-1,_,by omega,by omega,rfl,by omega,by omega,by omega,by omega,by rw [xB,hsz],hall.swp (by omega) (by omega),w6,by rw [<- hstep,ht]⟩
end
end
section
open Go.Sort (swp)
variable {a B x i:Nat} {i10:Int} {τ:St} {dk:Array Rec}
section
variable {Z:St} {b c:Nat} {s:Option Nat} {d:Array Rec} {g:FuncId} {gc:List Value} {lt:Rec->Rec->Bool} {V:Rec->Prop}
theorem xON {dL:Nat} (h:Dt Z b s d) (hc:Cmp g gc lt V) (hv:xS V d) (ha:a<=dL) (hp:dL<B) (hB:B<=d.size) (hn:d.size<=1000000) :
  uN 112 [.slice (some ⟨b,0,s⟩) d.size c,iV (a:Int),iV (B:Int),iV (dL:Int),.func (.func g) ⟨[]⟩ ⟨gc⟩] (iV ((Go.Sort.partitionEqual lt d a B dL).1:Int)) Z b s d (Go.Sort.partitionEqual lt d a B dL).2:=by
 have w0:=W.start h;obtain ⟨τ1,τ2,s1,s2,w1⟩:=w0.swapN (i:=(a:Int)) (j:=(dL:Int)) (p:=a) (q:=dL) rfl rfl (by omega) (by omega);have l0:=w0.dt.ldN (i:=(dL:Int)) (k:=dL) rfl (by omega);have l0':=w0.dt.ldN (i:=(a:Int)) (k:=a) rfl (by omega);obtain ⟨R,hR⟩:∃ R,R=Go.Sort.partitionEqual lt d a B dL:=⟨_,rfl⟩;rw [<- hR];refine uN.of h (xHR l0 l0' s1 s2 (P0:=fun i τ=>i=(R.1:Int)/\W Z τ b s d R.2)
  (yKT (Inv:=fun k i j τ=>∃ (p q:Nat) (dk:Array Rec),i=p/\j=q/\k=q+1-p/\a+1<=p/\q<B/\a<=q/\p<=q+2/\dk.size=d.size/\xS V dk/\W Z τ b s d dk/\Go.Sort.partEqLoop lt a p q dk=R) ?_ (B-1+1-(a+1)) _ _ τ2 ⟨a+1,B-1,_,by omega,by omega,rfl,by omega,by omega,by omega,by omega,xB _ _ _,hv.swp (by omega) (by omega),w1,by rw [hR];rfl⟩)
  (fun i τ h=>yKQ ⟨by rw [h.1],h.2⟩))
 rintro k i j τ ⟨p,q,dk,rfl,rfl,hk,hap,hqB,haq,hpq,hsz,hall,w,ht⟩;obtain ⟨i2,hi2⟩:∃ i2,i2=Go.Sort.scanUp (fun x=>!lt dk[a]! x) dk q p:=⟨_,rfl⟩;obtain ⟨j2,hj2⟩:∃ j2,j2=Go.Sort.scanDown (fun x=>lt dk[a]! x) dk i2 q:=⟨_,rfl⟩;have hstep:Go.Sort.partEqLoop lt a p q dk=if i2 > j2 then (i2,dk) else if (j2-1)+1-(i2+1)<q+1-p then Go.Sort.partEqLoop lt a (i2+1) (j2-1) (swp dk i2 j2) else (i2,dk):=by
  conv=>lhs;unfold Go.Sort.partEqLoop
  simp only [dite_eq_ite,<- hi2,<- hj2]
 refine yXU (P2:=fun i τ=>i=(i2:Int)/\p<=i2/\i2<=q+2/\(i2<=q+1\/i2=p)/\W Z τ b s d dk)
  (yKS (Inv:=fun k i τ=>∃ u:Nat,i=u/\u+k=q+2/\p<=u/\(u<=q+1\/u=p)/\W Z τ b s d dk/\Go.Sort.scanUp (fun x=>!lt dk[a]! x) dk q u=i2) ?_ (q+2-p) _ τ ⟨p,rfl,by omega,Nat.le_refl _,.inr rfl,w,hi2.symm⟩) ?_
 ·rintro k i τ ⟨u,rfl,hk,hpu,huq,w,ht⟩;by_cases hpj:u<=q;rotate_left
  ·rw [Go.Sort.scanUp,if_neg (by simp;omega)] at ht;exact yXR ⟨by rw [ht],by omega,by omega,by omega,w⟩ (by omega)
  have lp:=w.dt.ldN (i:=(u:Int)) (k:=u) rfl (by omega);have la:=w.dt.ldN (i:=(a:Int)) (k:=a) rfl (by omega);obtain ⟨n,cn,⟨m1,hl⟩ | ⟨m1,hl⟩⟩:=hc.at_ (τ:=τ) hall (i:=a) (j:=u) (by omega) (by omega)
  ·rw [Go.Sort.scanUp,if_neg (by simp [hl])] at ht;exact yXT la lp cn ⟨by rw [ht],by omega,by omega,by omega,w⟩
  ·rw [Go.Sort.scanUp,if_pos (by simp [hl];omega)] at ht;exact yXS la lp cn ⟨k-1,by omega,u+1,by omega,by omega,by omega,by omega,w,ht⟩
 rintro i τ ⟨rfl,hpi,hiq,hiq2,w⟩;refine yKP (P4:=fun j τ=>j=(j2:Int)/\j2<=q/\(i2<=j2+1\/j2=q)/\W Z τ b s d dk)
  (yKR (Inv:=fun k j τ=>∃ v:Nat,j=v/\v=k/\v<=q/\(i2<=v+1\/v=q)/\W Z τ b s d dk/\Go.Sort.scanDown (fun x=>lt dk[a]! x) dk i2 v=j2) ?_ q _ τ ⟨q,rfl,rfl,Nat.le_refl _,.inr rfl,w,hj2.symm⟩) ?_
 ·rintro k j τ ⟨v,rfl,rfl,hvq,hiv,w,ht⟩;by_cases hij:i2<=v;rotate_left
  ·have e:j2=v:=by
    cases v with
    | zero=>rw [<- ht];rfl
    | succ v=>rw [<- ht,Go.Sort.scanDown,if_neg (by simp;omega)]
   exact yXO ⟨by rw [e],by omega,by omega,w⟩ (by omega)
  obtain ⟨v',rfl⟩:∃ v',v=v'+1:=⟨v-1,by omega⟩;have lp:=w.dt.ldN (i:=((v'+1:Nat):Int)) (k:=v'+1) rfl (by omega);have la:=w.dt.ldN (i:=(a:Int)) (k:=a) rfl (by omega);obtain ⟨n,cn,⟨m1,hl⟩ | ⟨m1,hl⟩⟩:=hc.at_ (τ:=τ) hall (i:=a) (j:=v'+1) (by omega) (by omega)
  ·rw [Go.Sort.scanDown,if_pos (by simp [hl];omega)] at ht;exact yXQ la lp cn ⟨v',by omega,v',by omega,rfl,by omega,by omega,w,ht⟩
  ·rw [Go.Sort.scanDown,if_neg (by simp [hl])] at ht;exact yXP la lp cn ⟨by rw [ht],by omega,by omega,w⟩
 rintro j τ ⟨rfl,hjq,hij2,w⟩;by_cases hgt:i2 > j2
 ·rw [if_pos hgt] at hstep;have e:R=(i2,dk):=by rw [<- ht,hstep]
  exact yKO ⟨by rw [e],by rw [e];exact w⟩ (by omega)
 rw [if_neg hgt,if_pos (by omega)] at hstep;have lj:=w.dt.ldN (i:=(j2:Int)) (k:=j2) rfl (by omega);have li:=w.dt.ldN (i:=(i2:Int)) (k:=i2) rfl (by omega);obtain ⟨τ5,τ6,t1,t2,w6⟩:=w.swapN (i:=(i2:Int)) (j:=(j2:Int)) (p:=i2) (q:=j2) rfl rfl (by omega) (by omega);exact yKN lj li t1 t2 ⟨j2-1+1-(i2+1),by omega,i2+1,j2-1,_,by omega,by omega,rfl,by omega,by omega,by omega,by omega,by rw [xB,hsz],hall.swp (by omega) (by omega),w6,by rw [<- hstep,ht]⟩
theorem zJE (lt:Rec->Rec->Bool):∀ (j:Nat) (d:Array Rec),(Go.Sort.shiftDown lt j d).size=d.size
 | 0,d=>rfl
 | j+1,d=>by
  unfold Go.Sort.shiftDown;split
  ·rfl
  ·rw [zJE,xB]
theorem zNG (lt:Rec->Rec->Bool) {V:Rec->Prop}:∀ (j:Nat) (d:Array Rec),j<d.size->xS V d->xS V (Go.Sort.shiftDown lt j d)
 | 0,d,_,h=>h
 | j+1,d,hj,h=>by
  unfold Go.Sort.shiftDown;split
  ·exact h
  ·exact zNG lt j _ (by rw [xB];omega) (h.swp hj (by omega))
theorem zCQ (lt:Rec->Rec->Bool) {V:Rec->Prop} {B:Nat}:∀ (k j:Nat) (d:Array Rec),B-j<=k->1<=j->B<=d.size->xS V d->(Go.Sort.shiftUp lt B j d).size=d.size/\xS V (Go.Sort.shiftUp lt B j d)
 | 0,j,d,hk,hj,hB,h=>by rw [Go.Sort.shiftUp,if_neg (by omega)];exact ⟨rfl,h⟩
 | k+1,j,d,hk,hj,hB,h=>by
  rw [Go.Sort.shiftUp];split
  ·split
   ·exact ⟨rfl,h⟩
   ·have:=zCQ lt (V:=V) (B:=B) k (j+1) (swp d j (j-1)) (by omega) (by omega) (by rw [xB];exact hB) (h.swp (by omega) (by omega));rw [xB] at this;exact this
  ·exact ⟨rfl,h⟩
theorem zNH (lt:Rec->Rec->Bool) (d:Array Rec) (B:Nat):∀ (k i:Nat),B-i<=k->i<=B->i<=Go.Sort.scanSorted lt d B i/\Go.Sort.scanSorted lt d B i<=B
 | 0,i,hk,hi=>by rw [Go.Sort.scanSorted,if_neg (by simp;omega)];omega
 | k+1,i,hk,hi=>by
  rw [Go.Sort.scanSorted];split
  ·rename_i h;have:i<B:=by simp at h;exact h.1
   have:=zNH lt d B k (i+1) (by omega) (by omega);omega
  ·omega
theorem yXN {a B:Int} (hc:Cmp g gc lt V) (w:W Z τ b s d dk) (hsz:dk.size=d.size) (hall:xS V dk) (hx:x<d.size) (hn:d.size<=1000000) :
  yAD ⟨b,0,s⟩ d.size c a B g gc (i:Int) i10 (x:Int) τ (fun τ'=>W Z τ' b s d (Go.Sort.shiftDown lt x dk)):=by
 refine yPP (Inv:=fun k j τ'=>∃ (q:Nat) (dq:Array Rec),j=q/\q=k/\q<=x/\dq.size=d.size/\xS V dq/\W Z τ' b s d dq/\Go.Sort.shiftDown lt q dq=Go.Sort.shiftDown lt x dk) ?_ x _ τ ⟨x,dk,rfl,rfl,Nat.le_refl _,hsz,hall,w,rfl⟩;rintro k j τ' ⟨q,dq,rfl,rfl,hq,hsz',hall',w',ht⟩;cases q with
 | zero=>exact xHG (by rw [<- ht];exact w') (by omega)
 | succ q =>
  have l1:=w'.dt.ldN (i:=((q+1:Nat):Int)) (k:=q+1) rfl (by omega);have l2:=w'.dt.ldN (i:=((q+1:Nat):Int)-1) (k:=q) (by omega) (by omega);obtain ⟨n,cn,⟨m1,hl⟩ | ⟨m1,hl⟩⟩:=hc.at_ (τ:=τ') hall' (i:=q+1) (j:=q) (by omega) (by omega)
  ·obtain ⟨τ5,τ6,t1,t2,w6⟩:=w'.swapN (i:=((q+1:Nat):Int)) (j:=((q+1:Nat):Int)-1) (p:=q+1) (q:=q) rfl (by omega) (by omega) (by omega);rw [Go.Sort.shiftDown,if_neg (by simp [hl])] at ht;exact xHI l1 l2 cn t1 t2 ⟨q,by omega,q,_,by omega,rfl,by omega,by rw [xB,hsz'],hall'.swp (by omega) (by omega),w6,ht⟩
  ·rw [Go.Sort.shiftDown,if_pos (by simp [hl])] at ht;exact xHH l1 l2 cn (by rw [<- ht];exact w')
theorem yPN {a:Int} (hc:Cmp g gc lt V) (w:W Z τ b s d dk) (hsz:dk.size=d.size) (hall:xS V dk) (hx:1<=x) (hxB:x<=B+2) (hB:B<=d.size) (hn:d.size<=1000000) :
  zJZ ⟨b,0,s⟩ d.size c a (B:Int) g gc (i:Int) i10 (x:Int) τ (fun τ'=>W Z τ' b s d (Go.Sort.shiftUp lt B x dk)):=by
 refine yPO (Inv:=fun k j τ'=>∃ (q:Nat) (dq:Array Rec),j=q/\q+k=B+2/\1<=q/\dq.size=d.size/\xS V dq/\W Z τ' b s d dq/\Go.Sort.shiftUp lt B q dq=Go.Sort.shiftUp lt B x dk) ?_ (B+2-x) _ τ ⟨x,dk,rfl,by omega,hx,hsz,hall,w,rfl⟩;rintro k j τ' ⟨q,dq,rfl,hk,hq,hsz',hall',w',ht⟩;by_cases hqB:q<B;rotate_left
 ·rw [Go.Sort.shiftUp,if_neg hqB] at ht;exact xHD (by rw [<- ht];exact w') (by omega)
 have l1:=w'.dt.ldN (i:=(q:Int)) (k:=q) rfl (by omega);have l2:=w'.dt.ldN (i:=(q:Int)-1) (k:=q-1) (by omega) (by omega);obtain ⟨n,cn,⟨m1,hl⟩ | ⟨m1,hl⟩⟩:=hc.at_ (τ:=τ') hall' (i:=q) (j:=q-1) (by omega) (by omega)
 ·obtain ⟨τ5,τ6,t1,t2,w6⟩:=w'.swapN (i:=(q:Int)) (j:=(q:Int)-1) (p:=q) (q:=q-1) rfl (by omega) (by omega) (by omega);rw [Go.Sort.shiftUp,if_pos hqB,if_neg (by simp [hl])] at ht;exact xHF l1 l2 cn t1 t2 ⟨k-1,by omega,q+1,_,by omega,by omega,by omega,by rw [xB,hsz'],hall'.swp (by omega) (by omega),w6,ht⟩
 ·rw [Go.Sort.shiftUp,if_pos hqB,if_pos (by simp [hl])] at ht;exact xHE l1 l2 cn (by rw [<- ht];exact w')
theorem xCZ (h:Dt Z b s d) (hc:Cmp g gc lt V) (hv:xS V d) (ha:a<B) (hB:B<=d.size) (hn:d.size<=1000000) :
  uN 111 [.slice (some ⟨b,0,s⟩) d.size c,iV (a:Int),iV (B:Int),.func (.func g) ⟨[]⟩ ⟨gc⟩] (.bool (Go.Sort.partialInsertionSort lt d a B).2) Z b s d (Go.Sort.partialInsertionSort lt d a B).1:=by
 obtain ⟨R,hR⟩:∃ R,R=Go.Sort.partialInsertionSort lt d a B:=⟨_,rfl⟩;rw [<- hR];refine uN.of h (xOM (P0:=fun τ=>R.2=false/\W Z τ b s d R.1) (Pr:=fun t τ=>R.2=t/\W Z τ b s d R.1)
  (yPR (Inv:=fun k i j τ=>∃ (p:Nat) (dk:Array Rec),i=p/\j=5-(k:Int)/\k<=5/\a+1<=p/\p<=B/\dk.size=d.size/\xS V dk/\W Z τ b s d dk/\Go.Sort.partialIns lt a B k p dk=R) ?_ 5 _ _ Z.re ⟨a+1,d,by omega,by omega,Nat.le_refl _,Nat.le_refl _,by omega,rfl,hv,W.start h,hR.symm⟩)
  (fun τ h=>yPM ⟨by rw [h.1],h.2⟩) (fun t τ h=>yPL ⟨by rw [h.1],h.2⟩))
 rintro k i j τ ⟨p,dk,rfl,rfl,hk5,hap,hpB,hsz,hall,w,ht⟩;cases k with
 | zero =>
  rw [Go.Sort.partialIns] at ht;exact xHM (by rw [<- ht];exact ⟨rfl,w⟩) (by omega)
 | succ k =>
 obtain ⟨i2,hi2⟩:∃ i2,i2=Go.Sort.scanSorted lt dk B p:=⟨_,rfl⟩;have hrange:=zNH lt dk B _ p (Nat.le_refl _) hpB;rw [<- hi2] at hrange;rw [Go.Sort.partialIns,<- hi2] at ht;refine xHN (P2:=fun i τ=>i=(i2:Int)/\W Z τ b s d dk) (yPQ (Inv:=fun k i τ=>∃ u:Nat,i=u/\u+k=B/\p<=u/\W Z τ b s d dk/\Go.Sort.scanSorted lt dk B u=i2) ?_ (B-p) _ τ ⟨p,rfl,by omega,Nat.le_refl _,w,hi2.symm⟩) ?_ (by omega)
 ·rintro k i τ ⟨u,rfl,hk,hpu,w,ht⟩;by_cases huB:u<B;rotate_left
  ·rw [Go.Sort.scanSorted,if_neg (by simp;omega)] at ht;exact xHJ ⟨by rw [ht],w⟩ (by omega)
  have l1:=w.dt.ldN (i:=(u:Int)) (k:=u) rfl (by omega);have l2:=w.dt.ldN (i:=(u:Int)-1) (k:=u-1) (by omega) (by omega);obtain ⟨n,cn,⟨m1,hl⟩ | ⟨m1,hl⟩⟩:=hc.at_ (τ:=τ) hall (i:=u) (j:=u-1) (by omega) (by omega)
  ·rw [Go.Sort.scanSorted,if_neg (by simp [hl])] at ht;exact xHL l1 l2 cn ⟨by rw [ht],w⟩
  ·rw [Go.Sort.scanSorted,if_pos (by simp [hl];omega)] at ht;exact xHK l1 l2 cn ⟨k-1,by omega,u+1,by omega,by omega,by omega,w,ht⟩
 rintro i τ ⟨rfl,w⟩;by_cases hiB:i2=B
 ·simp only [hiB,if_true] at ht;exact yPK (by rw [<- ht];exact ⟨rfl,w⟩) (by omega)
 simp only [hiB,if_false] at ht;by_cases h50:B-a<50
 ·rw [if_pos h50] at ht;exact yPJ (by rw [<- ht];exact ⟨rfl,w⟩) (by omega) (by omega) (by omega)
 rw [if_neg h50] at ht;have l1:=w.dt.ldN (i:=(i2:Int)-1) (k:=i2-1) (by omega) (by omega);have l2:=w.dt.ldN (i:=(i2:Int)) (k:=i2) rfl (by omega);obtain ⟨τ5,τ6,t1,t2,w6⟩:=w.swapN (i:=(i2:Int)) (j:=(i2:Int)-1) (p:=i2) (q:=i2-1) rfl (by omega) (by omega) (by omega);have hall6:=hall.swp (i:=i2) (j:=i2-1) (by omega) (by omega);have hsz6:(swp dk i2 (i2-1)).size=d.size:=by rw [xB,hsz]
 have right:∀ (dx:Array Rec) (τx:St),W Z τx b s d dx->dx.size=d.size->xS V dx->2<=B-i2->zJZ ⟨b,0,s⟩ d.size c (a:Int) (B:Int) g gc (i2:Int) (5-((k+1:Nat):Int)) ((i2:Int)+1) τx (fun τ'=>W Z τ' b s d (Go.Sort.shiftUp lt B (i2+1) dx)):=fun dx τx wx hx1 hx2 h2=>by
  have:=yPN (c:=c) (a:=(a:Int)) (i10:=5-((k+1:Nat):Int)) (B:=B) (x:=i2+1) (i:=i2) hc wx hx1 hx2 (by omega) (by omega) hB hn;rw [show ((i2+1:Nat):Int)=(i2:Int)+1 by omega] at this;exact this
 by_cases hl2:i2-a ≥ 2
 ·simp only [hl2,if_true] at ht;have left:=yXN (c:=c) (a:=(a:Int)) (B:=(B:Int)) (i10:=5-((k+1:Nat):Int)) (x:=i2-1) (i:=i2) hc w6 hsz6 hall6 (by omega) hn;rw [show ((i2-1:Nat):Int)=(i2:Int)-1 by omega] at left;have hszL:(Go.Sort.shiftDown lt (i2-1) (swp dk i2 (i2-1))).size=d.size:=by rw [zJE,hsz6]
  have hallL:=zNG lt (V:=V) (i2-1) (swp dk i2 (i2-1)) (by omega) hall6;refine yPI l1 l2 t1 t2 left (fun τ' w7=>?_) (by omega) (by omega) (by omega) (by omega) (by omega) (by omega) (by omega) (by omega);by_cases hr2:B-i2 ≥ 2
  ·simp only [hr2,if_true] at ht;have hU:=zCQ lt (V:=V) (B:=B) _ (i2+1) _ (Nat.le_refl _) (by omega) (by omega) hallL;exact yPF (right _ _ w7 hszL hallL (by omega)) (fun τ'' w8=>zVK ⟨k,by omega,i2,_,rfl,by omega,by omega,by omega,by omega,by rw [hU.1,hszL],hU.2,w8,ht⟩)
  ·simp only [hr2,if_false] at ht;exact yPE ⟨k,by omega,i2,_,rfl,by omega,by omega,by omega,by omega,hszL,hallL,w7,ht⟩
 ·simp only [hl2,if_false] at ht;by_cases hr2:B-i2 ≥ 2
  ·simp only [hr2,if_true] at ht;have hU:=zCQ lt (V:=V) (B:=B) _ (i2+1) _ (Nat.le_refl _) (by omega) (by omega) hall6;exact yPH l1 l2 t1 t2 (right _ _ w6 hsz6 hall6 (by omega)) (fun τ'' w8=>zVK ⟨k,by omega,i2,_,rfl,by omega,by omega,by omega,by omega,by rw [hU.1,hsz6],hU.2,w8,ht⟩)
  ·simp only [hr2,if_false] at ht;exact yPG l1 l2 t1 t2 ⟨k,by omega,i2,_,rfl,by omega,by omega,by omega,by omega,hsz6,hall6,w6,ht⟩
end
end
section
noncomputable section
variable (data:oAa) (ag ah:Nat) (q0:Int->Int->St->Prop) (a_1 aF kB bZ:Int) (BB:Nat) (n2 aA:Int) (q2:Int->St->Prop) (Q:St->Prop) (Z:St) (Nx:Int->Int->St->Prop) (q3:Int->St->Prop) (q1:vPa) (Q0:St->Prop)
def xCF:Code:=(Code.part [1,1,0,0] (qh 110))
def zXD:lNa:=[(0,.slice data ag ah),(8,iV aF),(9,iV bZ)]
def xMQ:Alt:=⟨Int × Int,.normal,fun t=>zXD data ag ah t.1 t.2,fun t=>[],fun t Z=>q0 t.1 t.2 Z⟩
def yFH (data:oAa) (ag ah:Nat):lNa:=[]
def zSD:Alt:=⟨Unit,(.exit 0),fun t=>yFH data ag ah,fun t=>[],fun t Z=>Q Z⟩
def yJU:Prop:=qi qj none xCF 34 (zXD data ag ah aF bZ) [] [xMQ data ag ah Nx,zSD data ag ah Q0] Z
def xCG:Prop:=qk qj none xCF 34 (zXD data ag ah aF bZ) [] [zSD data ag ah Q0] Z
def yFI:Prop:=kZ qj (qh 110) [1,1,0] (ql 110 q1) (.exit 0) 34 (yFH data ag ah) Z
def yIP:Code:=(Code.part [1,1,0,1,1,1,0,0] (qh 108))
def zMT:lNa:=[(0,.slice data ag ah),(1,iV a_1),(8,iV kB),(9,pt BB 0),(10,.int .u64 n2),(11,iV aA)]
def xAV:Alt:=⟨Int,.normal,fun t=>zMT data ag ah a_1 kB BB n2 t,fun t=>[],fun t Z=>q2 t Z⟩
def zWJ (data:oAa) (ag ah:Nat) (a_1 kB:Int) (BB:Nat) (n2:Int):lNa:=[]
def zLC:Alt:=⟨Unit,(.exit 0),fun t=>zWJ data ag ah a_1 kB BB n2,fun t=>[],fun t Z=>Q Z⟩
def zMU:Prop:=qi qj none yIP 67 (zMT data ag ah a_1 kB BB n2 aA) [] [xAV data ag ah a_1 kB BB n2 q3,zLC data ag ah a_1 kB BB n2 Q0] Z
def yIQ:Prop:=qk qj none yIP 67 (zMT data ag ah a_1 kB BB n2 aA) [] [zLC data ag ah a_1 kB BB n2 Q0] Z
def zWK:Prop:=kZ qj (qh 108) [1,1,0,1,1,1,0] (ql 108 q1) (.exit 0) 67 (zWJ data ag ah a_1 kB BB n2) Z
end
variable {ag ah BB:Nat} {a_1 b n1 n2 n3 n4 n5 n6 n7 n8 c n9 aF bZ nG nF nA nB nD nE kB aA zA nK nQ nR nS z1 length n10 n11 n13 x z2:Int} {swaps ar r:Addr} {az:FuncId} {ao:lVa} {Z9 Z Z3 Z6 Z2 Z4 Z8 ZAB ZN ZL ZOB ZBB Z12:St} {Q:vPa} {data:oAa} {Inv:Nat->Int->Int->St->Prop} {Q0 P0:St->Prop} {Nx:Int->St->Prop}
theorem xVT (h1:lz Z 45 (zJ ar (Int.toNat b*3)) (qf (rcd n1 n2 n3))) (h2:lz Z 45 (zJ ar (Int.toNat a_1*3)) (qf (rcd n4 n5 n6))) (h3:qm az (qf (rcd n1 n2 n3)::(qf (rcd n4 n5 n6))::ao) Z (iV n7) Z) (h4:lz Z 3 swaps (iV n8)) (h5:qo (evL [pz swaps,iV (n8+1)]) Z (.store 3 (.tmp 0) (.tmp 1))=some (undef,Z9)) (nx:Q (.tuple ⟨[iV b,iV a_1]⟩) Z9) (u1:Ix b ag:=by omega) (u2:Ix a_1 ag:=by omega) (u3:n7<0:=by omega) (u4:I6 (n8+1):=by omega):qg 130 [.slice (some ar) ag ah,iV a_1,iV b,pz swaps,.func (.func az) ⟨[]⟩ ⟨ao⟩] Z Q :=
 zH [.g,.g,.g,.g,.g,.i,.l (qf (rcd n1 n2 n3)),.g,.g,.i,.l (qf (rcd n4 n5 n6)),.c (iV n7) Z,.b true,.g,.g,.l (iV n8),.n (n8+1),.g,.e undef Z9,.g,.g,.g,.g] (kd (an3 u1 h1 u2 (an6 h2 h3 (zR u3) h4 (w64 u4) h5 nx)))
theorem xVS (h1:lz Z 45 (zJ ar (Int.toNat b*3)) (qf (rcd n1 n2 n3))) (h2:lz Z 45 (zJ ar (Int.toNat a_1*3)) (qf (rcd n4 n5 n6))) (h3:qm az (qf (rcd n1 n2 n3)::(qf (rcd n4 n5 n6))::ao) Z (iV n7) Z) (nx:Q (.tuple ⟨[iV a_1,iV b]⟩) Z) (u1:Ix b ag:=by omega) (u2:Ix a_1 ag:=by omega) (u3:¬ n7<0:=by omega):qg 130 [.slice (some ar) ag ah,iV a_1,iV b,pz swaps,.func (.func az) ⟨[]⟩ ⟨ao⟩] Z Q :=
 zH [.g,.g,.g,.g,.g,.i,.l (qf (rcd n1 n2 n3)),.g,.g,.i,.l (qf (rcd n4 n5 n6)),.c (iV n7) Z,.b false,.g,.g,.g,.g] (kd (an6 u1 h1 u2 h2 h3 (zT u3) nx))
theorem xPC (h1:qm 130 [.slice data ag ah,iV a_1,iV b,pz swaps,.func (.func az) ⟨[]⟩ ⟨ao⟩] Z (.tuple ⟨[iV n1,iV n2]⟩) Z3) (h2:qm 130 [.slice data ag ah,iV n2,iV c,pz swaps,.func (.func az) ⟨[]⟩ ⟨ao⟩] Z3 (.tuple ⟨[iV n4,iV n5]⟩) Z6) (h3:qm 130 [.slice data ag ah,iV n1,iV n4,pz swaps,.func (.func az) ⟨[]⟩ ⟨ao⟩] Z6 (.tuple ⟨[iV n7,iV n8]⟩) Z9) (nx:Q (iV n8) Z9):qg 125 [.slice data ag ah,iV a_1,iV b,iV c,pz swaps,.func (.func az) ⟨[]⟩ ⟨ao⟩] Z Q :=
 zH [.g,.g,.g,.g,.g,.g,.c (.tuple ⟨[iV n1,iV n2]⟩) Z3,.g,.g,.g,.g,.g,.g,.g,.g,.g,.g,.c (.tuple ⟨[iV n4,iV n5]⟩) Z6,.g,.g,.g,.g,.g,.g,.g,.g,.g,.g,.c (.tuple ⟨[iV n7,iV n8]⟩) Z9,.g,.g,.g,.g,.g,.g,.g] (kd (an3 h1 h2 h3 nx))
theorem xDE (h1:qm 125 [.slice data ag ah,iV (a_1-1),iV a_1,iV (a_1+1),pz swaps,.func (.func az) ⟨[]⟩ ⟨ao⟩] Z (iV n1) Z2) (nx:Q (iV n1) Z2) (u1:I6 (a_1-1):=by omega) (u2:I6 (a_1+1):=by omega):qg 124 [.slice data ag ah,iV a_1,pz swaps,.func (.func az) ⟨[]⟩ ⟨ao⟩] Z Q :=
 zH [.g,.g,.g,.n (a_1-1),.g,.g,.n (a_1+1),.g,.g,.c (iV n1) Z2,.g] (kd (an3 (w64 u1) (w64 u2) h1 nx))
@[reducible] def Ha4 (b a_1 n1 n3 n5 n7 n9:Int) (data:oAa) (ag ah:Nat) (Z Z2 Z4 Z6 Z8:St) (az:FuncId) (ao:lVa):Prop:=IntKind.wrap .i64 (Int.tdiv (b-a_1) 4)=Int.tdiv (b-a_1) 4/\(qm 124 [.slice data ag ah,iV (a_1+((Int.tdiv (b-a_1) 4)*1)),.pointer (some ⟨Z.y,0,none⟩),.func (.func az) ⟨[]⟩ ⟨ao⟩] (Z.row [iV 0] 1) (iV n1) Z2)/\(qm 124 [.slice data ag ah,iV (a_1+((Int.tdiv (b-a_1) 4)*2)),.pointer (some ⟨Z.y,0,none⟩),.func (.func az) ⟨[]⟩ ⟨ao⟩] Z2 (iV n3) Z4)/\(qm 124 [.slice data ag ah,iV (a_1+((Int.tdiv (b-a_1) 4)*3)),.pointer (some ⟨Z.y,0,none⟩),.func (.func az) ⟨[]⟩ ⟨ao⟩] Z4 (iV n5) Z6)/\(qm 125 [.slice data ag ah,iV n1,iV n3,iV n5,.pointer (some ⟨Z.y,0,none⟩),.func (.func az) ⟨[]⟩ ⟨ao⟩] Z6 (iV n7) Z8)/\qn Z8 3 ⟨Z.y,0,none⟩=some (iV n9)
theorem xAB:let y0:=Int.tdiv (b-a_1) 4;∀ (H:Ha4 b a_1 n1 n3 n5 n7 n9 data ag ah Z Z2 Z4 Z6 Z8 az ao) (nx:Q (.tuple ⟨[iV n7,iV 1]⟩) Z8) (u1:I6 (b-a_1):=by omega) (u2:I6 (y0*1):=by omega) (u3:I6 (a_1+(y0*1)):=by omega) (u4:I6 (y0*2):=by omega) (u5:I6 (a_1+(y0*2)):=by omega) (u6:I6 (y0*3):=by omega) (u7:I6 (a_1+(y0*3)):=by omega) (u8:8<=(b-a_1):=by omega) (u9:50<=(b-a_1):=by omega) (u10:n9=0:=by omega),qg 109 [.slice data ag ah,iV a_1,iV b,.func (.func az) ⟨[]⟩ ⟨ao⟩] Z Q :=
 fun H nx u1 u2 u3 u4 u5 u6 u7 u8 u9 u10=>match H with|⟨h1,h2,h3,h4,h5,h6⟩=>let s1:=Int.tdiv (b-a_1) 4;zH [.g,.g,.g,.g,.n (b-a_1),.g,.g,.g,.g,.n s1,.n (s1*1),.n (a_1+(s1*1)),.g,.g,.g,.n s1,.n (s1*2),.n (a_1+(s1*2)),.g,.g,.g,.n s1,.n (s1*3),.n (a_1+(s1*3)),.g,.g,.b true,.g,.b true,.g,.g,.g,.c (iV n1) Z2,.g,.g,.g,.g,.c (iV n3) Z4,.g,.g,.g,.g,.c (iV n5) Z6,.g,.g,.g,.g,.g,.g,.c (iV n7) Z8,.g,.l (iV n9),.b true,.g,.g,.g,.g] (kd (an6 (w64 u1) h1 (w64 u2) (w64 u3) h1 (w64 u4) (an6 (w64 u5) h1 (w64 u6) (w64 u7) (yE u8) (yE u9) (an6 h2 h3 h4 h5 h6 (xK u10) nx))))
theorem xAA:let y0:=Int.tdiv (b-a_1) 4;∀ (H:Ha4 b a_1 n1 n3 n5 n7 n9 data ag ah Z Z2 Z4 Z6 Z8 az ao) (nx:Q (.tuple ⟨[iV n7,iV 2]⟩) Z8) (u1:I6 (b-a_1):=by omega) (u2:I6 (y0*1):=by omega) (u3:I6 (a_1+(y0*1)):=by omega) (u4:I6 (y0*2):=by omega) (u5:I6 (a_1+(y0*2)):=by omega) (u6:I6 (y0*3):=by omega) (u7:I6 (a_1+(y0*3)):=by omega) (u8:8<=(b-a_1):=by omega) (u9:50<=(b-a_1):=by omega) (u10:¬ n9=0:=by omega) (u11:n9=12:=by omega),qg 109 [.slice data ag ah,iV a_1,iV b,.func (.func az) ⟨[]⟩ ⟨ao⟩] Z Q :=
 fun H nx u1 u2 u3 u4 u5 u6 u7 u8 u9 u10 u11=>match H with|⟨h1,h2,h3,h4,h5,h6⟩=>let s1:=Int.tdiv (b-a_1) 4;zH [.g,.g,.g,.g,.n (b-a_1),.g,.g,.g,.g,.n s1,.n (s1*1),.n (a_1+(s1*1)),.g,.g,.g,.n s1,.n (s1*2),.n (a_1+(s1*2)),.g,.g,.g,.n s1,.n (s1*3),.n (a_1+(s1*3)),.g,.g,.b true,.g,.b true,.g,.g,.g,.c (iV n1) Z2,.g,.g,.g,.g,.c (iV n3) Z4,.g,.g,.g,.g,.c (iV n5) Z6,.g,.g,.g,.g,.g,.g,.c (iV n7) Z8,.g,.l (iV n9),.b false,.g,.b true,.g,.g,.g,.g] (kd (ai (w64 u1) (an6 h1 (w64 u2) (w64 u3) h1 (w64 u4) (w64 u5) (an6 h1 (w64 u6) (w64 u7) (yE u8) (yE u9) h2 (an6 h3 h4 h5 h6 (xI u10) (xK u11) nx)))))
theorem yZZ:let y0:=Int.tdiv (b-a_1) 4;∀ (H:Ha4 b a_1 n1 n3 n5 n7 n9 data ag ah Z Z2 Z4 Z6 Z8 az ao) (nx:Q (.tuple ⟨[iV n7,iV 0]⟩) Z8) (u1:I6 (b-a_1):=by omega) (u2:I6 (y0*1):=by omega) (u3:I6 (a_1+(y0*1)):=by omega) (u4:I6 (y0*2):=by omega) (u5:I6 (a_1+(y0*2)):=by omega) (u6:I6 (y0*3):=by omega) (u7:I6 (a_1+(y0*3)):=by omega) (u8:8<=(b-a_1):=by omega) (u9:50<=(b-a_1):=by omega) (u10:¬ n9=0:=by omega) (u11:¬ n9=12:=by omega),qg 109 [.slice data ag ah,iV a_1,iV b,.func (.func az) ⟨[]⟩ ⟨ao⟩] Z Q :=
 fun H nx u1 u2 u3 u4 u5 u6 u7 u8 u9 u10 u11=>match H with|⟨h1,h2,h3,h4,h5,h6⟩=>let s1:=Int.tdiv (b-a_1) 4;zH [.g,.g,.g,.g,.n (b-a_1),.g,.g,.g,.g,.n s1,.n (s1*1),.n (a_1+(s1*1)),.g,.g,.g,.n s1,.n (s1*2),.n (a_1+(s1*2)),.g,.g,.g,.n s1,.n (s1*3),.n (a_1+(s1*3)),.g,.g,.b true,.g,.b true,.g,.g,.g,.c (iV n1) Z2,.g,.g,.g,.g,.c (iV n3) Z4,.g,.g,.g,.g,.c (iV n5) Z6,.g,.g,.g,.g,.g,.g,.c (iV n7) Z8,.g,.l (iV n9),.b false,.g,.b false,.g,.g,.g,.g] (kd (ai (w64 u1) (an6 h1 (w64 u2) (w64 u3) h1 (w64 u4) (w64 u5) (an6 h1 (w64 u6) (w64 u7) (yE u8) (yE u9) h2 (an6 h3 h4 h5 h6 (xI u10) (xI u11) nx)))))
theorem yZY:let s1:=Int.tdiv (b-a_1) 4;∀ (h1:IntKind.wrap .i64 s1=Int.tdiv (b-a_1) 4) (h2:qm 125 [.slice data ag ah,iV (a_1+(s1*1)),iV (a_1+(s1*2)),iV (a_1+(s1*3)),pt Z.y 0,.func (.func az) ⟨[]⟩ ⟨ao⟩] (Z.row [iV 0] 1) (iV n1) Z2) (h3:lz Z2 3 (qe Z.y 0) (iV n3)) (nx:Q (.tuple ⟨[iV n1,iV 1]⟩) Z2) (u1:I6 (b-a_1):=by omega) (u2:I6 (s1*1):=by omega) (u3:I6 (a_1+(s1*1)):=by omega) (u4:I6 (s1*2):=by omega) (u5:I6 (a_1+(s1*2)):=by omega) (u6:I6 (s1*3):=by omega) (u7:I6 (a_1+(s1*3)):=by omega) (u8:8<=(b-a_1):=by omega) (u9:¬ 50<=(b-a_1):=by omega) (u10:n3=0:=by omega),qg 109 [.slice data ag ah,iV a_1,iV b,.func (.func az) ⟨[]⟩ ⟨ao⟩] Z Q:=
 let s1:=Int.tdiv (b-a_1) 4;fun h1 h2 h3 nx u1 u2 u3 u4 u5 u6 u7 u8 u9 u10=>zH [.g,.g,.g,.g,.n (b-a_1),.g,.g,.g,.g,.n s1,.n (s1*1),.n (a_1+(s1*1)),.g,.g,.g,.n s1,.n (s1*2),.n (a_1+(s1*2)),.g,.g,.g,.n s1,.n (s1*3),.n (a_1+(s1*3)),.g,.g,.b true,.g,.b false,.g,.g,.g,.g,.g,.c (iV n1) Z2,.g,.l (iV n3),.b true,.g,.g,.g,.g] (kd (an3 (w64 u1) h1 (w64 u2) (an6 (w64 u3) h1 (w64 u4) (w64 u5) h1 (w64 u6) (an6 (w64 u7) (yE u8) (yH u9) h2 h3 (xK u10) nx))))
theorem yZX:let s1:=Int.tdiv (b-a_1) 4;∀ (h1:IntKind.wrap .i64 s1=Int.tdiv (b-a_1) 4) (h2:qm 125 [.slice data ag ah,iV (a_1+(s1*1)),iV (a_1+(s1*2)),iV (a_1+(s1*3)),pt Z.y 0,.func (.func az) ⟨[]⟩ ⟨ao⟩] (Z.row [iV 0] 1) (iV n1) Z2) (h3:lz Z2 3 (qe Z.y 0) (iV n3)) (nx:Q (.tuple ⟨[iV n1,iV 2]⟩) Z2) (u1:I6 (b-a_1):=by omega) (u2:I6 (s1*1):=by omega) (u3:I6 (a_1+(s1*1)):=by omega) (u4:I6 (s1*2):=by omega) (u5:I6 (a_1+(s1*2)):=by omega) (u6:I6 (s1*3):=by omega) (u7:I6 (a_1+(s1*3)):=by omega) (u8:8<=(b-a_1):=by omega) (u9:¬ 50<=(b-a_1):=by omega) (u10:¬ n3=0:=by omega) (u11:n3=12:=by omega),qg 109 [.slice data ag ah,iV a_1,iV b,.func (.func az) ⟨[]⟩ ⟨ao⟩] Z Q:=
 let s1:=Int.tdiv (b-a_1) 4;fun h1 h2 h3 nx u1 u2 u3 u4 u5 u6 u7 u8 u9 u10 u11=>zH [.g,.g,.g,.g,.n (b-a_1),.g,.g,.g,.g,.n s1,.n (s1*1),.n (a_1+(s1*1)),.g,.g,.g,.n s1,.n (s1*2),.n (a_1+(s1*2)),.g,.g,.g,.n s1,.n (s1*3),.n (a_1+(s1*3)),.g,.g,.b true,.g,.b false,.g,.g,.g,.g,.g,.c (iV n1) Z2,.g,.l (iV n3),.b false,.g,.b true,.g,.g,.g,.g] (kd (an4 (w64 u1) h1 (w64 u2) (w64 u3) (an6 h1 (w64 u4) (w64 u5) h1 (w64 u6) (w64 u7) (an6 (yE u8) (yH u9) h2 h3 (xI u10) (xK u11) nx))))
theorem yZW:let s1:=Int.tdiv (b-a_1) 4;∀ (h1:IntKind.wrap .i64 s1=Int.tdiv (b-a_1) 4) (h2:qm 125 [.slice data ag ah,iV (a_1+(s1*1)),iV (a_1+(s1*2)),iV (a_1+(s1*3)),pt Z.y 0,.func (.func az) ⟨[]⟩ ⟨ao⟩] (Z.row [iV 0] 1) (iV n1) Z2) (h3:lz Z2 3 (qe Z.y 0) (iV n3)) (nx:Q (.tuple ⟨[iV n1,iV 0]⟩) Z2) (u1:I6 (b-a_1):=by omega) (u2:I6 (s1*1):=by omega) (u3:I6 (a_1+(s1*1)):=by omega) (u4:I6 (s1*2):=by omega) (u5:I6 (a_1+(s1*2)):=by omega) (u6:I6 (s1*3):=by omega) (u7:I6 (a_1+(s1*3)):=by omega) (u8:8<=(b-a_1):=by omega) (u9:¬ 50<=(b-a_1):=by omega) (u10:¬ n3=0:=by omega) (u11:¬ n3=12:=by omega),qg 109 [.slice data ag ah,iV a_1,iV b,.func (.func az) ⟨[]⟩ ⟨ao⟩] Z Q:=
 let s1:=Int.tdiv (b-a_1) 4;fun h1 h2 h3 nx u1 u2 u3 u4 u5 u6 u7 u8 u9 u10 u11=>zH [.g,.g,.g,.g,.n (b-a_1),.g,.g,.g,.g,.n s1,.n (s1*1),.n (a_1+(s1*1)),.g,.g,.g,.n s1,.n (s1*2),.n (a_1+(s1*2)),.g,.g,.g,.n s1,.n (s1*3),.n (a_1+(s1*3)),.g,.g,.b true,.g,.b false,.g,.g,.g,.g,.g,.c (iV n1) Z2,.g,.l (iV n3),.b false,.g,.b false,.g,.g,.g,.g] (kd (an4 (w64 u1) h1 (w64 u2) (w64 u3) (an6 h1 (w64 u4) (w64 u5) h1 (w64 u6) (w64 u7) (an6 (yE u8) (yH u9) h2 h3 (xI u10) (xI u11) nx))))
theorem yZV:let s1:=Int.tdiv (b-a_1) 4;∀ (h1:IntKind.wrap .i64 s1=Int.tdiv (b-a_1) 4) (nx:Q (.tuple ⟨[iV (a_1+(s1*2)),iV 1]⟩) (Z.row [iV 0] 1)) (u1:I6 (b-a_1):=by omega) (u2:I6 (s1*1):=by omega) (u3:I6 (a_1+(s1*1)):=by omega) (u4:I6 (s1*2):=by omega) (u5:I6 (a_1+(s1*2)):=by omega) (u6:I6 (s1*3):=by omega) (u7:I6 (a_1+(s1*3)):=by omega) (u8:¬ 8<=(b-a_1):=by omega),qg 109 [.slice data ag ah,iV a_1,iV b,.func (.func az) ⟨[]⟩ ⟨ao⟩] Z Q:=
 let s1:=Int.tdiv (b-a_1) 4;fun h1 nx u1 u2 u3 u4 u5 u6 u7 u8=>zH [.g,.g,.g,.g,.n (b-a_1),.g,.g,.g,.g,.n s1,.n (s1*1),.n (a_1+(s1*1)),.g,.g,.g,.n s1,.n (s1*2),.n (a_1+(s1*2)),.g,.g,.g,.n s1,.n (s1*3),.n (a_1+(s1*3)),.g,.g,.b false,.l (iV 0),.g,.g,.g,.g,.g] (kd (an6 (w64 u1) h1 (w64 u2) (w64 u3) h1 (w64 u4) (an6 (w64 u5) h1 (w64 u6) (w64 u7) (yH u8) ((zC _ _ _).rw.ld zU (k:=0) rfl:lz (Z.row [iV 0] 1) 3 (qe Z.y 0) (iV 0)) nx)))
theorem yVI (hb:∀ k aF bZ Z,Inv k aF bZ Z->yJU data ag ah aF bZ Z (NX2 Inv k) Q0):∀ k aF bZ Z,Inv k aF bZ Z->xCG data ag ah aF bZ Z Q0 :=
 zCR (ai (xV 0) trivial) hb
theorem xMP {Nx:Int->Int->St->Prop} (h1:lz Z 45 (zJ ar (Int.toNat bZ*3)) (qf (rcd nG nF nA))) (h2:lz Z 45 (zJ ar (Int.toNat aF*3)) (qf (rcd nB nD nE))) (h3:qo (evL [pz (zJ ar (Int.toNat aF*3)),qf (rcd nG nF nA)]) Z (.store 45 (.tmp 0) (.tmp 1))=some (undef,ZAB)) (h4:qo (evL [pz (zJ ar (Int.toNat bZ*3)),qf (rcd nB nD nE)]) ZAB (.store 45 (.tmp 0) (.tmp 1))=some (undef,ZN)) (nx:Nx (aF+1) (bZ-1) ZN) (u1:aF<bZ:=by omega) (u2:Ix bZ ag:=by omega) (u3:Ix aF ag:=by omega) (u4:I6 (aF+1):=by omega) (u5:I6 (bZ-1):=by omega):yJU (some ar) ag ah aF bZ Z Nx Q0 :=
 kO 0 (aF+1,bZ-1) [.g,.g,.b true,.g,.g,.g,.g,.g,.g,.i,.l (qf (rcd nG nF nA)),.g,.g,.i,.l (qf (rcd nB nD nE)),.i,.e undef ZAB,.i,.e undef ZN,.g,.n (aF+1),.g,.g,.n (bZ-1),.g] (fun _ f=>an5 (zR u1) u2 h1 u3 h2 (an6 u3 h3 u2 h4 (w64 u4) (w64 u5) f)) nx
theorem xMO {Nx:Int->Int->St->Prop} (nx:Q0 Z) (u1:¬ aF<bZ:=by omega):yJU data ag ah aF bZ Z Nx Q0 :=
 kO 1 () [.g,.g,.b false] (fun _ f=>ai (zT u1) f) nx
theorem xUX (hL:xCG data ag ah a_1 (b-1) Z P0) (k0:∀ Z',P0 Z'->yFI data ag ah Z' Q) (u1:I6 (b-1):=by omega):qg 110 [.slice data ag ah,iV a_1,iV b,.func (.func az) ⟨[]⟩ ⟨ao⟩] Z Q :=
 let s1:=zXD data ag ah a_1 (b-1);zH [.g,.g,.g,.n (b-1),.g,.lf 34 s1 [zSD data ag ah P0]] (kd (ai (w64 u1) (ai (ai tt (ai (arf s1) hL)) (ai (kz0 k0) trivial))))
theorem yVH (nx:Q (.tuple ⟨[]⟩) Z):yFI data ag ah Z Q :=
 sK [] nx
theorem yMJ {Inv:Nat->Int->St->Prop} (hb:∀ k aA Z,Inv k aA Z->zMU data ag ah a_1 kB BB n2 aA Z (NX1 Inv k) Q0):∀ k aA Z,Inv k aA Z->yIQ data ag ah a_1 kB BB n2 aA Z Q0 :=
 xE (ai (xV 0) trivial) hb
theorem xAU:let y0:=(Int.tdiv kB 4)*2;let y1:=zJ ar (Int.toNat (a_1+(nB-kB))*3);let y2:=zJ ar (Int.toNat aA*3);∀ (h1:IntKind.wrap .i64 (Int.tdiv kB 4)=Int.tdiv kB 4) (h2:qm 123 [pt BB 0] Z (.int .u64 nG) ZL) (h3:zAK .u64 (Int.sub n2 1)=zA) (h4:vO Pg .and 141 (.tmp 38) (.tmp 40) (.int .u64 nG) (.int .u64 zA)=some (.int .u64 nB)) (h5:lz ZL 45 y1 (qf (rcd nD nE nK))) (h6:lz ZL 45 y2 (qf (rcd nQ nR nS))) (h7:qo (evL [pz y2,qf (rcd nD nE nK)]) ZL (.store 45 (.tmp 0) (.tmp 1))=some (undef,ZOB)) (h8:qo (evL [pz y1,qf (rcd nQ nR nS)]) ZOB (.store 45 (.tmp 0) (.tmp 1))=some (undef,ZBB)) (nx:Nx (aA+1) ZBB) (u1:I6 y0:=by omega) (u2:I6 (a_1+y0):=by omega) (u3:I6 ((a_1+y0)+1):=by omega) (u4:aA<=((a_1+y0)+1):=by omega) (u5:I6 nB:=by omega) (u6:kB<=nB:=by omega) (u7:I6 (nB-kB):=by omega) (u8:I6 (a_1+(nB-kB)):=by omega) (u9:Ix (a_1+(nB-kB)) ag:=by omega) (u10:Ix aA ag:=by omega) (u11:I6 (aA+1):=by omega),zMU (some ar) ag ah a_1 kB BB n2 aA Z Nx Q0 :=
 let s1:=(Int.tdiv kB 4)*2;let s2:=nB-kB;fun h1 h2 h3 h4 h5 h6 h7 h8 nx u1 u2 u3 u4 u5 u6 u7 u8 u9 u10 u11=>kO 0 (aA+1) [.g,.g,.g,.n (Int.tdiv kB 4),.n s1,.n (a_1+s1),.n ((a_1+s1)+1),.b true,.c (.int .u64 nG) ZL,.g,.n zA,.v (.int .u64 nB),.n nB,.g,.g,.g,.b true,.g,.g,.n s2,.g,.g,.g,.g,.g,.g,.n (a_1+s2),.g,.g,.g,.n (a_1+s2),.i,.l (qf (rcd nD nE nK)),.g,.g,.i,.l (qf (rcd nQ nR nS)),.i,.e undef ZOB,.i,.e undef ZBB,.g,.n (aA+1),.g] (fun _ f=>an4 h1 (w64 u1) (w64 u2) (w64 u3) (an6 (yE u4) h2 h3 h4 (w64 u5) (yE u6) (an6 (w64 u7) (w64 u8) (w64 u8) u9 h5 u10 (an6 h6 u10 h7 u9 h8 (w64 u11) f)))) nx
theorem xAT:let y0:=(Int.tdiv kB 4)*2;let y1:=zJ ar (Int.toNat (a_1+nB)*3);let y2:=zJ ar (Int.toNat aA*3);∀ (h1:IntKind.wrap .i64 (Int.tdiv kB 4)=Int.tdiv kB 4) (h2:qm 123 [pt BB 0] Z (.int .u64 nG) ZL) (h3:zAK .u64 (Int.sub n2 1)=zA) (h4:vO Pg .and 141 (.tmp 38) (.tmp 40) (.int .u64 nG) (.int .u64 zA)=some (.int .u64 nB)) (h5:lz ZL 45 y1 (qf (rcd nD nE nK))) (h6:lz ZL 45 y2 (qf (rcd nQ nR nS))) (h7:qo (evL [pz y2,qf (rcd nD nE nK)]) ZL (.store 45 (.tmp 0) (.tmp 1))=some (undef,ZOB)) (h8:qo (evL [pz y1,qf (rcd nQ nR nS)]) ZOB (.store 45 (.tmp 0) (.tmp 1))=some (undef,ZBB)) (nx:Nx (aA+1) ZBB) (u1:I6 y0:=by omega) (u2:I6 (a_1+y0):=by omega) (u3:I6 ((a_1+y0)+1):=by omega) (u4:aA<=((a_1+y0)+1):=by omega) (u5:I6 nB:=by omega) (u6:¬ kB<=nB:=by omega) (u7:I6 (a_1+nB):=by omega) (u8:Ix (a_1+nB) ag:=by omega) (u9:Ix aA ag:=by omega) (u10:I6 (aA+1):=by omega),zMU (some ar) ag ah a_1 kB BB n2 aA Z Nx Q0 :=
 let s1:=(Int.tdiv kB 4)*2;fun h1 h2 h3 h4 h5 h6 h7 h8 nx u1 u2 u3 u4 u5 u6 u7 u8 u9 u10=>kO 0 (aA+1) [.g,.g,.g,.n (Int.tdiv kB 4),.n s1,.n (a_1+s1),.n ((a_1+s1)+1),.b true,.c (.int .u64 nG) ZL,.g,.n zA,.v (.int .u64 nB),.n nB,.g,.g,.g,.b false,.g,.g,.g,.g,.g,.n (a_1+nB),.g,.g,.g,.n (a_1+nB),.i,.l (qf (rcd nD nE nK)),.g,.g,.i,.l (qf (rcd nQ nR nS)),.i,.e undef ZOB,.i,.e undef ZBB,.g,.n (aA+1),.g] (fun _ f=>an3 h1 (w64 u1) (w64 u2) (an6 (w64 u3) (yE u4) h2 h3 h4 (w64 u5) (an6 (yH u6) (w64 u7) (w64 u7) u8 h5 u9 (an6 h6 u9 h7 u8 h8 (w64 u10) f)))) nx
theorem xAS:let s1:=(Int.tdiv kB 4)*2;∀ (h1:IntKind.wrap .i64 (Int.tdiv kB 4)=Int.tdiv kB 4) (nx:Q0 Z) (u1:I6 s1:=by omega) (u2:I6 (a_1+s1):=by omega) (u3:I6 ((a_1+s1)+1):=by omega) (u4:¬ aA<=((a_1+s1)+1):=by omega),zMU data ag ah a_1 kB BB n2 aA Z Nx Q0:=
 let s1:=(Int.tdiv kB 4)*2;fun h1 nx u1 u2 u3 u4=>kO 1 () [.g,.g,.g,.n (Int.tdiv kB 4),.n s1,.n (a_1+s1),.n ((a_1+s1)+1),.b false] (fun _ f=>an5 h1 (w64 u1) (w64 u2) (w64 u3) (yH u4) f) nx
theorem xJQ:let s1:=Z.row [.int .u64 0] 1;let s2:=s1.own Z.y [.int .u64 z1] 1;let s3:=(Int.tdiv (b-a_1) 4)*2;∀ (h1:zAK .u64 ((b-a_1))=z1) (h2:qm 122 [iV (b-a_1)] s2 (.int .u64 n2) s2) (h3:IntKind.wrap .i64 (Int.tdiv (b-a_1) 4)=Int.tdiv (b-a_1) 4) (hL:yIQ data ag ah a_1 (b-a_1) Z.y n2 ((a_1+s3)-1) s2 P0) (k0:∀ Z',P0 Z'->zWK data ag ah a_1 (b-a_1) Z.y n2 Z' Q) (u1:I6 (b-a_1):=by omega) (u2:8<=(b-a_1):=by omega) (u3:I6 s3:=by omega) (u4:I6 (a_1+s3):=by omega) (u5:I6 ((a_1+s3)-1):=by omega),qg 108 [.slice data ag ah,iV a_1,iV b,.func (.func az) ⟨[]⟩ ⟨ao⟩] Z Q:=
 let s1:=Z.row [.int .u64 0] 1;let s2:=s1.own Z.y [.int .u64 z1] 1;let s3:=(Int.tdiv (b-a_1) 4)*2;let s4:=zMT data ag ah a_1 (b-a_1) Z.y n2 ((a_1+s3)-1);fun h1 h2 h3 hL k0 u1 u2 u3 u4 u5=>zH [.g,.g,.n (b-a_1),.g,.g,.b true,.g,.n z1,.g,.e undef s2,.g,.c (.int .u64 n2) s2,.g,.g,.g,.n (Int.tdiv (b-a_1) 4),.n s3,.n (a_1+s3),.n ((a_1+s3)-1),.g,.lf 67 s4 [zLC data ag ah a_1 (b-a_1) Z.y n2 P0]] (kd (an3 (w64 u1) (yE u2) h1 (an6 ((zC _ _ _).store (vs:=[.int .u64 z1]) rfl zXB rfl (nle rfl) rfl:qo (evL [pt Z.y 0,.int .u64 z1]) s1 (.store 166 (.tmp 0) (.tmp 1))=some (undef,s2)) h2 h3 (w64 u3) (w64 u4) (w64 u5) (ai (ai tt (ai (arf s4) hL)) (ai (kz0 k0) trivial)))))
theorem xJP (nx:Q (.tuple ⟨[]⟩) Z) (u1:I6 (b-a_1):=by omega) (u2:¬ 8<=(b-a_1):=by omega):qg 108 [.slice data ag ah,iV a_1,iV b,.func (.func az) ⟨[]⟩ ⟨ao⟩] Z Q :=
 zH [.g,.g,.n (b-a_1),.g,.g,.b false] (kd (an2 (w64 u1) (yH u2) nx))
theorem yMI (nx:Q (.tuple ⟨[]⟩) Z):zWK data ag ah a_1 kB BB n2 Z Q :=
 sK [] nx
theorem xPB (h1:zAK .u64 (length)=z1) (h2:qm 98 [.int .u64 z1] Z (iV n2) Z) (h3:vO Pg .shl 141 (.const (.int .u64 1)) (.tmp 5) (.int .u64 1) (iV n2)=some (.int .u64 n3)) (nx:Q (.int .u64 n3) Z):qg 122 [iV length] Z Q :=
 zH [.g,.g,.n z1,.c (iV n2) Z,.v (.int .u64 n3),.g] (kd (an3 h1 h2 h3 nx))
theorem xUB (h1:lz Z 166 r (.int .u64 n1)) (h2:vO Pg .shl 166 (.tmp 8) (.const (.int .u64 13)) (.int .u64 n1) (.int .u64 13)=some (.int .u64 n2)) (h3:vO Pg .xor 166 (.tmp 5) (.tmp 9) (.int .u64 n1) (.int .u64 n2)=some (.int .u64 n3)) (h4:qo (evL [pz r,.int .u64 n3]) Z (.store 166 (.tmp 0) (.tmp 1))=some (undef,Z4)) (h5:lz Z4 166 r (.int .u64 n5)) (h6:vO Pg .shr 166 (.tmp 17) (.const (.int .u64 7)) (.int .u64 n5) (.int .u64 7)=some (.int .u64 n6)) (h7:vO Pg .xor 166 (.tmp 14) (.tmp 18) (.int .u64 n5) (.int .u64 n6)=some (.int .u64 n7)) (h8:qo (evL [pz r,.int .u64 n7]) Z4 (.store 166 (.tmp 0) (.tmp 1))=some (undef,Z8)) (h9:lz Z8 166 r (.int .u64 n9)) (h10:vO Pg .shl 166 (.tmp 26) (.const (.int .u64 17)) (.int .u64 n9) (.int .u64 17)=some (.int .u64 n10)) (h11:vO Pg .xor 166 (.tmp 23) (.tmp 27) (.int .u64 n9) (.int .u64 n10)=some (.int .u64 n11)) (h12:qo (evL [pz r,.int .u64 n11]) Z8 (.store 166 (.tmp 0) (.tmp 1))=some (undef,Z12)) (h13:lz Z12 166 r (.int .u64 n13)) (nx:Q (.int .u64 n13) Z12):qg 123 [pz r] Z Q :=
 zH [.g,.g,.g,.l (.int .u64 n1),.g,.g,.l (.int .u64 n1),.v (.int .u64 n2),.v (.int .u64 n3),.g,.e undef Z4,.g,.g,.l (.int .u64 n5),.g,.g,.l (.int .u64 n5),.v (.int .u64 n6),.v (.int .u64 n7),.g,.e undef Z8,.g,.g,.l (.int .u64 n9),.g,.g,.l (.int .u64 n9),.v (.int .u64 n10),.v (.int .u64 n11),.g,.e undef Z12,.g,.g,.l (.int .u64 n13),.g] (kd (an4 h1 h1 h2 h3 (an6 h4 h5 h5 h6 h7 h8 (an6 h9 h9 h10 h11 h12 h13 nx))))
theorem xEF (h1:qm 115 [.int .u64 x] Z (iV n1) Z) (nx:Q (iV n1) Z):qg 98 [.int .u64 x] Z Q :=
 zH [.g,.g,.c (iV n1) Z,.g] (kd (ai h1 nx))
theorem xKB (h1:vO Pg .shr 162 (.tmp 15) (.const (.int .u64 8)) (.int .u64 x) (.int .u64 8)=some (.int .u64 n1)) (h2:zAK .u8 (n1)=z2) (h3:zAI Pg 9 (.string ⟨#[0,1,2,2,3,3,3,3,4,4,4,4,4,4,4,4,5,5,5,5,5,5,5,5,5,5,5,5,5,5,5,5,6,6,6,6,6,6,6,6,6,6,6,6,6,6,6,6,6,6,6,6,6,6,6,6,6,6,6,6,6,6,6,6,7,7,7,7,7,7,7,7,7,7,7,7,7,7,7,7,7,7,7,7,7,7,7,7,7,7,7,7,7,7,7,7,7,7,7,7,7,7,7,7,7,7,7,7,7,7,7,7,7,7,7,7,7,7,7,7,7,7,7,7,7,7,7,7,8,8,8,8,8,8,8,8,8,8,8,8,8,8,8,8,8,8,8,8,8,8,8,8,8,8,8,8,8,8,8,8,8,8,8,8,8,8,8,8,8,8,8,8,8,8,8,8,8,8,8,8,8,8,8,8,8,8,8,8,8,8,8,8,8,8,8,8,8,8,8,8,8,8,8,8,8,8,8,8,8,8,8,8,8,8,8,8,8,8,8,8,8,8,8,8,8,8,8,8,8,8,8,8,8,8,8,8,8,8,8,8,8,8,8,8,8,8,8,8,8,8,8,8,8,8,8,8]⟩) (.int .u8 z2)=some (.int .u8 n3)) (nx:Q (iV (8+n3)) Z) (u1:¬ 4294967296<=x:=by omega) (u2:¬ 65536<=x:=by omega) (u3:256<=x:=by omega) (u4:I6 n3:=by omega) (u5:I6 (8+n3):=by omega):qg 115 [.int .u64 x] Z Q :=
 zH [.g,.g,.b false,.g,.b false,.g,.b true,.g,.v (.int .u64 n1),.g,.g,.g,.g,.g,.g,.n z2,.v (.int .u8 n3),.n n3,.n (8+n3),.g] (kd (an2 (yH u1) (yH u2) (an6 (yE u3) h1 h2 h3 (w64 u4) (w64 u5) nx)))
theorem xKA (h1:zAK .u8 (x)=z1) (h2:zAI Pg 9 (.string ⟨#[0,1,2,2,3,3,3,3,4,4,4,4,4,4,4,4,5,5,5,5,5,5,5,5,5,5,5,5,5,5,5,5,6,6,6,6,6,6,6,6,6,6,6,6,6,6,6,6,6,6,6,6,6,6,6,6,6,6,6,6,6,6,6,6,7,7,7,7,7,7,7,7,7,7,7,7,7,7,7,7,7,7,7,7,7,7,7,7,7,7,7,7,7,7,7,7,7,7,7,7,7,7,7,7,7,7,7,7,7,7,7,7,7,7,7,7,7,7,7,7,7,7,7,7,7,7,7,7,8,8,8,8,8,8,8,8,8,8,8,8,8,8,8,8,8,8,8,8,8,8,8,8,8,8,8,8,8,8,8,8,8,8,8,8,8,8,8,8,8,8,8,8,8,8,8,8,8,8,8,8,8,8,8,8,8,8,8,8,8,8,8,8,8,8,8,8,8,8,8,8,8,8,8,8,8,8,8,8,8,8,8,8,8,8,8,8,8,8,8,8,8,8,8,8,8,8,8,8,8,8,8,8,8,8,8,8,8,8,8,8,8,8,8,8,8,8,8,8,8,8,8,8,8,8,8,8]⟩) (.int .u8 z1)=some (.int .u8 n2)) (nx:Q (iV (0+n2)) Z) (u1:¬ 4294967296<=x:=by omega) (u2:¬ 65536<=x:=by omega) (u3:¬ 256<=x:=by omega) (u4:I6 n2:=by omega) (u5:I6 (0+n2):=by omega):qg 115 [.int .u64 x] Z Q :=
 zH [.g,.g,.b false,.g,.b false,.g,.b false,.g,.g,.n z1,.v (.int .u8 n2),.n n2,.n (0+n2),.g] (kd (ai (yH u1) (an6 (yH u2) (yH u3) h1 h2 (w64 u4) (w64 u5) nx)))
end
section
open Go.Sort (swp PermIn)
section
variable {Z:St} {b c:Nat} {s:Option Nat} {d:Array Rec} {g:FuncId} {gc:List Value} {lt:Rec->Rec->Bool} {V:Rec->Prop}
theorem xZU {a B:Nat} (h:Dt Z b s d) (hv:xS V d) (ha:a<B) (hB:B<=d.size) (hn:d.size<=1000000) :
  uN 110 [.slice (some ⟨b,0,s⟩) d.size c,iV (a:Int),iV (B:Int),.func (.func g) ⟨[]⟩ ⟨gc⟩] (.tuple ⟨[]⟩) Z b s d (Go.Sort.reverseRange d a B):=by
 refine uN.of h (xUX (P0:=fun τ=>W Z τ b s d (Go.Sort.reverseRange d a B)) (yVI (Inv:=fun k i j τ=>∃ (p q:Nat) (dk:Array Rec),i=p/\j=q/\k=q-p/\p<=B/\q<B/\W Z τ b s d dk/\dk.size=d.size/\Go.Sort.reverseLoop p q dk=Go.Sort.reverseRange d a B) ?_ (B-1-a) _ _ Z.re ⟨a,B-1,d,rfl,by omega,rfl,by omega,by omega,W.start h,rfl,rfl⟩) (fun τ hw=>yVH ⟨rfl,hw⟩) (by omega));rintro k i j τ ⟨p,q,dk,rfl,rfl,hk,hp,hq,w,hsz,ht⟩;by_cases hpq:p<q;rotate_left
 ·rw [Go.Sort.reverseLoop,if_neg hpq] at ht;exact xMO (by rw [<- ht];exact w) (by omega)
 rw [Go.Sort.reverseLoop,if_pos hpq] at ht;have l1:=w.dt.ldN (i:=(q:Int)) (k:=q) rfl (by omega);have l2:=w.dt.ldN (i:=(p:Int)) (k:=p) rfl (by omega);obtain ⟨τ5,τ6,t1,t2,w6⟩:=w.swapN (i:=(p:Int)) (j:=(q:Int)) (p:=p) (q:=q) rfl rfl (by omega) (by omega);exact xMP l1 l2 t1 t2 ⟨q-1-(p+1),by omega,p+1,q-1,_,by omega,by omega,rfl,by omega,by omega,w6,by rw [xB,hsz],ht⟩
def zFJ:List UInt8:=[0,1,2,2,3,3,3,3,4,4,4,4,4,4,4,4,5,5,5,5,5,5,5,5,5,5,5,5,5,5,5,5]++List.replicate 32 6++List.replicate 64 7++List.replicate 128 8
theorem xPO:zFJ.length=256:=by decide
theorem yQI:∀ n:Fin 256,(zFJ.getD n.val 0).toNat<=8/\(0<n.val->2 ^ (zFJ.getD n.val 0).toNat<=2*n.val):=by decide +kernel
theorem wAW {n:Nat} (hn:n<256):zAI Tryz.prog 9 (.string ⟨⟨zFJ⟩⟩) (iV (n:Int))=some (.int .u8 ((zFJ.getD n 0).toNat:Int)):=by
 have hl:n<zFJ.length:=by rw [xPO];exact hn
 have e:zAI Tryz.prog 9 (.string ⟨⟨zFJ⟩⟩) (iV (n:Int))=if 0<=(n:Int) then (((⟨⟨zFJ⟩⟩:ByteArray)[(n:Int).toNat]?).map fun b=>Value.int .u8 b.toNat) else none:=by
  unfold zAI;have hu:Tryz.prog.underlying 9=some .string:=by kernel_rfl
  simp only [hu]
 rw [e,if_pos (by omega),Int.toNat_natCast];have hb:(⟨⟨zFJ⟩⟩:ByteArray)[n]?=some (zFJ.getD n 0):=by
  rw [getElem?_pos _ n (by show n<zFJ.length;exact hl)];congr 1;rw [List.getD_eq_getElem?_getD,List.getElem?_eq_getElem hl];rfl
 rw [hb];rfl
end
end
section
open Go.Sort (swp PermIn)
variable {S:Nat->Prop} {x z:Int} {o1 o2:Operand} {n:Nat}
theorem wAN {Z:St} {f:FuncId} {args:List Value} {Q:Value->St->Prop} (h:zO Pg f args Z.re fun v s=>Only S Z.re s/\(s.low<Z.y\/zW RD v=false\/Q v Z)/\Q v s) (hQ:∀ v s m,Q v s->Q v ⟨s.heap,s.y,m⟩):∃ v Z',zD Pg f args Z v Z'/\Only S Z Z'/\Q v Z':=by
 obtain ⟨v,s,hN,h1,h2,h3⟩:=h;by_cases hlow:s.low<Z.y
 ·exact zO.mut ⟨v,s,hN,h1,.inl hlow,h3⟩ hQ
 ·cases hr:zW RD v with
  | false=>exact zO.mut ⟨v,s,hN,h1,.inr hr,h3⟩ hQ
  | true =>
   refine ⟨v,Z,zO.pure ⟨v,s,hN,rfl,by omega⟩ hr,Only.refl _ _, ?_⟩
   rcases h2 with h2 | h2 | h2
   ·exact absurd h2 hlow
   ·rw [hr] at h2;cases h2
   ·exact h2
theorem xLG (n:Int):zAK .u8 n=n % 256:=by
 have e1:(2:Int) ^ 8=256:=by decide
 rw [vW];simp only [IntKind.wrap,IntKind.bits,IntKind.signed,e1,Bool.false_and,Bool.false_eq_true,if_false]
theorem zYD (n:Int):zAK .u64 n=n % 18446744073709551616:=by
 have e1:(2:Int) ^ 64=18446744073709551616:=by decide
 rw [vW];simp only [IntKind.wrap,IntKind.bits,IntKind.signed,e1,Bool.false_and,Bool.false_eq_true,if_false]
theorem wCG (hz:0<=z):∃ y,vO Pg .shl 166 o1 o2 (.int .u64 x) (.int .u64 z)=some (.int .u64 y):=by
 refine ⟨IntKind.u64.wrap (x*2 ^ (min z.toNat IntKind.u64.bits)), ?_⟩
 have e:Op.shift .shl .u64 x .u64 z=pure (.int .u64 (IntKind.u64.wrap (x*2 ^ (min z.toNat IntKind.u64.bits)))):=by unfold Op.shift;rw [if_neg (by omega)]
 show ((zZ Pg (do eqGuard .shl 166 o1 o2 (.int .u64 x) (.int .u64 z);Op.shift .shl .u64 x .u64 z)).filter (zW RD))=_;rw [e];rfl
theorem wDQ (hz:0<=z):∃ y,vO Pg .shr 166 o1 o2 (.int .u64 x) (.int .u64 z)=some (.int .u64 y):=by
 refine ⟨x.fdiv (2 ^ (min z.toNat IntKind.u64.bits)), ?_⟩
 have e:Op.shift .shr .u64 x .u64 z=pure (.int .u64 (x.fdiv (2 ^ (min z.toNat IntKind.u64.bits)))):=by unfold Op.shift;rw [if_neg (by omega)]
 show ((zZ Pg (do eqGuard .shr 166 o1 o2 (.int .u64 x) (.int .u64 z);Op.shift .shr .u64 x .u64 z)).filter (zW RD))=_;rw [e];rfl
theorem xZI:∃ y,vO Pg .xor 166 o1 o2 (.int .u64 x) (.int .u64 z)=some (.int .u64 y):=by
 refine ⟨IntKind.u64.wrap ((BitVec.ofInt IntKind.u64.bits x ^^^ BitVec.ofInt IntKind.u64.bits z).toNat:Int), ?_⟩
 have e:Op.intBits .xor .u64 x z=pure (.int .u64 (IntKind.u64.wrap ((BitVec.ofInt IntKind.u64.bits x ^^^ BitVec.ofInt IntKind.u64.bits z).toNat:Int))):=rfl;show ((zZ Pg (do eqGuard .xor 166 o1 o2 (.int .u64 x) (.int .u64 z);Op.intBits .xor .u64 x z)).filter (zW RD))=_;rw [e];rfl
theorem wEA {m:Nat} (hm:m<18446744073709551616):∃ y:Nat,vO Pg .and 141 o1 o2 (.int .u64 x) (.int .u64 (m:Int))=some (.int .u64 (y:Int))/\y<=m:=by
 have e64:(2:Nat) ^ IntKind.u64.bits=18446744073709551616:=by decide
 have hb:(BitVec.ofInt IntKind.u64.bits (m:Int)).toNat=m:=by
  rw [BitVec.toNat_ofInt,e64];omega
 have hle:(BitVec.ofInt IntKind.u64.bits x &&& BitVec.ofInt IntKind.u64.bits (m:Int)).toNat<=m:=by
  rw [BitVec.toNat_and,hb];exact Nat.and_le_right
 refine ⟨(BitVec.ofInt IntKind.u64.bits x &&& BitVec.ofInt IntKind.u64.bits (m:Int)).toNat, ?_,hle⟩
 have e:Op.intBits .and .u64 x (m:Int)=pure (.int .u64 (IntKind.u64.wrap ((BitVec.ofInt IntKind.u64.bits x &&& BitVec.ofInt IntKind.u64.bits (m:Int)).toNat:Int))):=rfl;show ((zZ Pg (do eqGuard .and 141 o1 o2 (.int .u64 x) (.int .u64 (m:Int));Op.intBits .and .u64 x (m:Int))).filter (zW RD))=_;rw [e,<- vW,zYD,Int.emod_eq_of_lt (by omega) (by omega)];rfl
theorem wDR:vO Pg .shr 162 o1 o2 (.int .u64 (n:Int)) (.int .u64 8)=some (.int .u64 ((n / 256:Nat):Int)):=by
 have e:Op.shift .shr .u64 (n:Int) .u64 8=pure (.int .u64 ((n / 256:Nat):Int)):=by
  unfold Op.shift;rw [if_neg (by omega)];show pure (Value.int .u64 (Int.fdiv (n:Int) (2 ^ (min (8:Int).toNat IntKind.u64.bits))))=_;rw [show (2:Int) ^ (min (8:Int).toNat IntKind.u64.bits)=((256:Nat):Int) by decide,<- Int.ofNat_fdiv]
 show ((zZ Pg (do eqGuard .shr 162 o1 o2 (.int .u64 (n:Int)) (.int .u64 8);Op.shift .shr .u64 (n:Int) .u64 8)).filter (zW RD))=_;rw [e];rfl
theorem wDS (h:n<=16):vO Pg .shl 141 o1 o2 (.int .u64 1) (iV (n:Int))=some (.int .u64 ((2 ^ n:Nat):Int)):=by
 have e:Op.shift .shl .u64 1 .i64 (n:Int)=pure (.int .u64 (IntKind.u64.wrap (1*2 ^ (min (n:Int).toNat IntKind.u64.bits)))):=by unfold Op.shift;rw [if_neg (by omega)]
 have e2:IntKind.u64.wrap (1*2 ^ (min (n:Int).toNat IntKind.u64.bits))=((2 ^ n:Nat):Int):=by
  have hp:2 ^ n<=2 ^ 16:=Nat.pow_le_pow_right (by omega) h;have h16:(2:Nat) ^ 16=65536:=by decide
  rw [Int.toNat_natCast,show min n IntKind.u64.bits=n from Nat.min_eq_left (by show n<=64;omega),<- vW,zYD,Int.one_mul];have e3:(2:Int) ^ n=((2 ^ n:Nat):Int):=by simp
  rw [e3];obtain ⟨k,hk⟩:∃ k:Nat,k=2 ^ n:=⟨_,rfl⟩;rw [<- hk] at hp ⊢;omega
 show ((zZ Pg (do eqGuard .shl 141 o1 o2 (.int .u64 1) (iV (n:Int));Op.shift .shl .u64 1 .i64 (n:Int))).filter (zW RD))=_;rw [e,e2];rfl
theorem xDN (hn:n<256):zAI Pg 9 (.string ⟨⟨zFJ⟩⟩) (.int .u8 (n:Int))=some (.int .u8 ((zFJ.getD n 0).toNat:Int)):=by
 have h:=wAW hn;have e:zAI Pg 9 (.string ⟨⟨zFJ⟩⟩) (.int .u8 (n:Int))=zAI Pg 9 (.string ⟨⟨zFJ⟩⟩) (iV (n:Int)):=by
  unfold zAI;have hu:Pg.underlying 9=some .string:=by kernel_rfl
  simp only [hu]
 rw [e,h]
section
variable {Z:St} {b c:Nat} {s:Option Nat} {d:Array Rec} {g:FuncId} {gc:List Value} {lt:Rec->Rec->Bool} {V:Rec->Prop}
theorem xBA {x:Nat} (hx:x<65536):∃ n:Nat,n<=16/\(0<x->2 ^ n<=2*x)/\zD Pg 98 [.int .u64 (x:Int)] Z (iV (n:Int)) Z:=by
 by_cases h:x<256
 ·obtain ⟨p1,p2⟩:=yQI ⟨x,h⟩;refine ⟨(zFJ.getD x 0).toNat,by simp only at p1;omega,fun h0=>p2 h0, ?_⟩
  refine (xEF (n1:=((zFJ.getD x 0).toNat:Int)) (xKA (z1:=(x:Int)) (n2:=((zFJ.getD x 0).toNat:Int)) (by rw [xLG];omega) (xDN h) ⟨by rw [Int.zero_add],Nat.le_refl _⟩ (by omega) (by omega) (by omega) (by simp only at p1;omega) (by simp only at p1;omega)).pure ⟨rfl,Nat.le_refl _⟩).pure
 ·have h2:x / 256<256:=by omega
  obtain ⟨p1,p2⟩:=yQI ⟨x / 256,h2⟩;simp only at p1 p2;refine ⟨8+(zFJ.getD (x / 256) 0).toNat,by omega,fun _=>?_, ?_⟩
  ·have:=p2 (by omega);rw [Nat.pow_add,show (2:Nat) ^ 8=256 from rfl];omega
  ·refine (xEF (n1:=((8+(zFJ.getD (x / 256) 0).toNat:Nat):Int)) (xKB (n1:=((x / 256:Nat):Int)) (z2:=((x / 256:Nat):Int)) (n3:=((zFJ.getD (x / 256) 0).toNat:Int)) wDR (by rw [xLG];omega) (xDN h2) ⟨by congr 1,Nat.le_refl _⟩ (by omega) (by omega) (by omega) (by omega) (by omega)).pure ⟨rfl,Nat.le_refl _⟩).pure
theorem xWB {l:Nat} (h0:0<l) (hl:l<65536):∃ m:Nat,1<=m/\m<=2*l/\zD Pg 122 [iV (l:Int)] Z (.int .u64 (m:Int)) Z:=by
 obtain ⟨n,h1,h2,h3⟩:=xBA (Z:=Z.re) (x:=l) hl;exact ⟨2 ^ n,Nat.pow_pos (by omega),h2 h0,(xPB (z1:=(l:Int)) (by rw [zYD];omega) h3 (wDS h1) ⟨rfl,Nat.le_refl _⟩).pure⟩
theorem xZJ {r:Nat} {n:Int} (o:Own Z r [.int .u64 n] 1):∃ n' Z',zD Pg 123 [.pointer (some ⟨r,0,none⟩)] Z (.int .u64 n') Z'/\Only (·=r) Z Z'/\Own Z' r [.int .u64 n'] 1:=by
 obtain ⟨n2,b2⟩:=wCG (x:=n) (z:=13) (o1:=.tmp 8) (o2:=.const (.int .u64 13)) (by omega);obtain ⟨n3,b3⟩:=xZI (x:=n) (z:=n2) (o1:=.tmp 5) (o2:=.tmp 9);obtain ⟨n6,b6⟩:=wDQ (x:=n3) (z:=7) (o1:=.tmp 17) (o2:=.const (.int .u64 7)) (by omega);obtain ⟨n7,b7⟩:=xZI (x:=n3) (z:=n6) (o1:=.tmp 14) (o2:=.tmp 18);obtain ⟨n10,b10⟩:=wCG (x:=n7) (z:=17) (o1:=.tmp 26) (o2:=.const (.int .u64 17)) (by omega);obtain ⟨n11,b11⟩:=xZI (x:=n7) (z:=n10) (o1:=.tmp 23) (o2:=.tmp 27);have o0:Own Z.re r [.int .u64 n] 1:=o.re;have s1:=o0.store (P:=Pg) (k:=0) (t:=166) (v:=.int .u64 n3) (vs:=[.int .u64 n3]) (ds:=[.int .u64 n3]) rfl zXB rfl (by simp) rfl;have o1:Own (Z.re.own r [.int .u64 n3] 1) r [.int .u64 n3] 1:=o0.put;have s2:=o1.store (P:=Pg) (k:=0) (t:=166) (v:=.int .u64 n7) (vs:=[.int .u64 n7]) (ds:=[.int .u64 n7]) rfl zXB rfl (by simp) rfl;have o2:Own ((Z.re.own r [.int .u64 n3] 1).own r [.int .u64 n7] 1) r [.int .u64 n7] 1:=o1.put;have s3:=o2.store (P:=Pg) (k:=0) (t:=166) (v:=.int .u64 n11) (vs:=[.int .u64 n11]) (ds:=[.int .u64 n11]) rfl zXB rfl (by simp) rfl;have o3:Own (((Z.re.own r [.int .u64 n3] 1).own r [.int .u64 n7] 1).own r [.int .u64 n11] 1) r [.int .u64 n11] 1:=o2.put;have hr:=o.lt;obtain ⟨v,Z',k1,k2,n',rfl,k3⟩:=zO.mut (P:=Pg) (f:=123) (args:=[.pointer (some ⟨r,0,none⟩)]) (Z:=Z) (S:=(·=r)) (Q:=fun v s=>∃ n',v=.int .u64 n'/\Own s r [.int .u64 n'] 1)
  (xUB (o0.ld rfl yMO rfl) b2 b3 s1 (o1.ld rfl yMO rfl) b6 b7 s2 (o2.ld rfl yMO rfl) b10 b11 s3 (o3.ld rfl yMO rfl)
   ⟨(((Only.own (S:=(·=r)) (.inr rfl)).trans' (Only.own (S:=(·=r)) (.inr rfl)) (fun b _ h=>.inl h)).trans' (Only.own (S:=(·=r)) (.inr rfl)) (fun b _ h=>.inl h)),.inl (by simp [St.own];omega),n11,rfl,o3⟩)
  (by rintro v s m ⟨n',rfl,h⟩;exact ⟨n',rfl,h.low⟩)
 exact ⟨n',Z',k1,k2,k3⟩
theorem W.other {τ τ':St} {dk:Array Rec} (w:W Z τ b s d dk) (hb:b<Z.y) (o:Only S τ τ') (hS:∀ x,S x->Z.y<=x) (hl:τ'.low<=τ.low):W Z τ' b s d dk:=by
 refine ⟨w.only.trans' o (fun x _ h=>.inr (hS x h)),w.dt.only o (fun h=>by have:=hS b h;omega), ?_⟩
 rcases w.low with h | h
 ·exact .inl (by omega)
 ·exact .inr h
theorem xSD {a B:Nat} (h:Dt Z b s d) (ha:a<=B) (hB:B<=d.size) (hn:d.size<=60000) (hv:xS V d) :
  ∃ d',PermIn a B d d'/\xS V d'/\uN 108 [.slice (some ⟨b,0,s⟩) d.size c,iV (a:Int),iV (B:Int),.func (.func g) ⟨[]⟩ ⟨gc⟩] (.tuple ⟨[]⟩) Z b s d d':=by
 suffices hmain:zO Pg 108 [.slice (some ⟨b,0,s⟩) d.size c,iV (a:Int),iV (B:Int),.func (.func g) ⟨[]⟩ ⟨gc⟩] Z.re fun v τ=>v=.tuple ⟨[]⟩/\∃ d',W Z τ b s d d'/\PermIn a B d d'/\xS V d' by
  obtain ⟨v,τ,hN,e,d',w,r1,r2⟩:=hmain
  exact ⟨d',r1,r2,uN.of h ⟨v,τ,hN,e,w⟩⟩
 by_cases h8:B-a<8
 ·exact xJP ⟨rfl,d,W.start h,Go.Sort.permIn_refl _ _ _,hv⟩ (by omega) (by omega)
 obtain ⟨l,hl⟩:∃ l,l=B-a:=⟨_,rfl⟩;have el:(B:Int)-(a:Int)=(l:Int):=by omega
 have e4:Int.tdiv (l:Int) 4=((l / 4:Nat):Int):=by rw [Int.tdiv_eq_ediv_of_nonneg (by omega)];omega
 have w4:IntKind.wrap .i64 (Int.tdiv (l:Int) 4)=Int.tdiv (l:Int) 4:=by rw [<- vW,e4,zYE (by omega) (by omega)]
 have ez:zAK .u64 ((B:Int)-(a:Int))=(l:Int):=by rw [el,zYD];omega
 have hbn:=h.1;obtain ⟨m,hm1,hm2,km⟩:=xWB (Z:=(Z.re.row [.int .u64 0] 1).own Z.re.y [.int .u64 (l:Int)] 1) (l:=l) (by omega) (by omega);have o1:Own ((Z.re.row [.int .u64 0] 1).own Z.re.y [.int .u64 (l:Int)] 1) Z.y [.int .u64 (l:Int)] 1:=(zC _ _ _).put;have O1:Only (·=Z.y) Z.re ((Z.re.row [.int .u64 0] 1).own Z.re.y [.int .u64 (l:Int)] 1):=(Only.row (S:=(·=Z.y)) _ _ _).trans' (Only.own (S:=(·=Z.y)) (.inr rfl)) (fun b _ h=>.inl h);have w1:W Z ((Z.re.row [.int .u64 0] 1).own Z.re.y [.int .u64 (l:Int)] 1) b s d d:=(W.start h).other hbn O1 (fun x hx=>by omega) (by simp [St.own]);refine xJQ ez (by rw [el];exact km) (by rw [el];exact w4) (P0:=fun τ=>∃ d',W Z τ b s d d'/\PermIn a B d d'/\xS V d')
  (by
   rw [el];refine yMJ (Inv:=fun k i τ=>∃ (p:Nat) (dk:Array Rec) (n:Int),i=p/\p+k=a+l / 4*2+2/\a<=p/\W Z τ b s d dk/\PermIn a B d dk/\xS V dk/\Own τ Z.y [.int .u64 n] 1) ?_ 3 _ _ ⟨a+l / 4*2-1,d,_,by rw [e4];omega,by omega,by omega,w1,Go.Sort.permIn_refl _ _ _,hv,o1⟩;rintro k i τ ⟨p,dk,n,rfl,hk,hap,w,hperm,hall,o⟩;have hsz:dk.size=d.size:=hperm.1;by_cases hp:p<=a+l / 4*2+1;rotate_left
   ·exact xAS w4 ⟨dk,w,hperm,hall⟩ (by rw [e4];omega) (by rw [e4];omega) (by rw [e4];omega) (by rw [e4];omega)
   obtain ⟨n',τ',kx,ox,oo⟩:=xZJ o;have w2:=w.other hbn ox (fun x hx=>by omega) (zEI kx);obtain ⟨y,by1,by2⟩:=wEA (x:=n') (m:=m-1) (o1:=.tmp 38) (o2:=.tmp 40) (by omega);have em:zAK .u64 (Int.sub (m:Int) 1)=((m-1:Nat):Int):=by
    rw [show Int.sub (m:Int) 1=(m:Int)-1 from rfl,zYD];omega
   have key:∀ (q:Nat) (j:Int),j=(q:Int)->a<=q->q<B->∃ τ1 τ2,zQ Pg (evL [.pointer (some (zJ ⟨b,0,s⟩ (Int.toNat (p:Int)*3))),zEN dk[q]!]) τ' (.store 45 (.tmp 0) (.tmp 1))=some (undef,τ1) /\
     zQ Pg (evL [.pointer (some (zJ ⟨b,0,s⟩ (Int.toNat j*3))),zEN dk[p]!]) τ1 (.store 45 (.tmp 0) (.tmp 1))=some (undef,τ2) /\
     ∃ k',k' < k/\∃ (p':Nat) (dk':Array Rec) (n:Int),(p:Int)+1=p'/\p'+k'=a+l / 4*2+2/\a<=p'/\W Z τ2 b s d dk'/\PermIn a B d dk'/\xS V dk'/\Own τ2 Z.y [.int .u64 n] 1:=by
    intro q j hj h1 h2
    obtain ⟨τ1,e1,d1,q1,l1⟩:=w2.dt.st (i:=(p:Int)) dk[q]! (by omega) (by omega)
    obtain ⟨τ2,e2,d2,q2,l2⟩:=d1.st (i:=j) dk[p]! (by omega) (by rw [Array.size_setIfInBounds];omega)
    have es:(dk.setIfInBounds (p:Int).toNat dk[q]!).setIfInBounds j.toNat dk[p]! = swp dk p q:=by rw [hj,Int.toNat_natCast,Int.toNat_natCast];rfl
    rw [es] at d2
    exact ⟨τ1,τ2,e1,e2,k-1,by omega,p+1,swp dk p q,n',by omega,by omega,by omega,⟨(w2.only.trans' q1 (fun b _ h=>.inl h)).trans' q2 (fun b _ h=>.inl h),d2,.inl l2⟩,
     Go.Sort.permIn_trans _ _ _ a B hperm (Go.Sort.swp_permIn dk a B p q (by omega) (by omega) h1 h2 (by omega)),hall.swp (by omega) (by omega),q2.own' (q1.own' oo (fun e=>by omega)) (fun e=>by omega)⟩
   have lp:=w2.dt.ldN (i:=(p:Int)) (k:=p) rfl (by omega);by_cases hy:l<=y
   ·obtain ⟨τ1,τ2,e1,e2,hk'⟩:=key (a+(y-l)) ((a:Int)+((y:Int)-(l:Int))) (by omega) (by omega) (by omega);have lq:=w2.dt.ldN (i:=(a:Int)+((y:Int)-(l:Int))) (k:=a+(y-l)) (by omega) (by omega);exact xAU w4 kx em by1 lq lp e1 e2 hk' (by rw [e4];omega) (by rw [e4];omega) (by rw [e4];omega) (by rw [e4];omega) (by omega) (by omega) (by omega) (by omega) (by omega) (by omega)
   ·obtain ⟨τ1,τ2,e1,e2,hk'⟩:=key (a+y) ((a:Int)+(y:Int)) (by omega) (by omega) (by omega);have lq:=w2.dt.ldN (i:=(a:Int)+(y:Int)) (k:=a+y) (by omega) (by omega);exact xAT w4 kx em by1 lq lp e1 e2 hk' (by rw [e4];omega) (by rw [e4];omega) (by rw [e4];omega) (by rw [e4];omega) (by omega) (by omega) (by omega) (by omega) (by omega))
  (fun τ hw=>yMI ⟨rfl,hw⟩) (by omega) (by omega) (by rw [el,e4];omega) (by rw [el,e4];omega) (by rw [el,e4];omega)
end
end
section
variable {bs i j:Nat} {n:Int}
section
variable {Z:St} {b c:Nat} {s:Option Nat} {d:Array Rec} {g:FuncId} {gc:List Value} {lt:Rec->Rec->Bool} {V:Rec->Prop}
theorem yXX (h:Dt Z b s d) (hc:Cmp g gc lt V) (hv:xS V d) (o:Own Z bs [iV n] 1) (hi:i<d.size) (hj:j<d.size) (hn:0<=n/\n<=1000) :
  ∃ (x y:Nat) (n':Int) (Z':St),zD Tryz.prog 130 [.slice (some ⟨b,0,s⟩) d.size c,iV (i:Int),iV (j:Int),.pointer (some ⟨bs,0,none⟩),.func (.func g) ⟨[]⟩ ⟨gc⟩] Z (.tuple ⟨[iV (x:Int),iV (y:Int)]⟩) Z'/\Only (·=bs) Z Z' /\
   ((x=i/\y=j)\/(x=j/\y=i))/\n<=n'/\n'<=n+1/\Own Z' bs [iV n'] 1:=by
 have h0:Dt Z.re b s d:=h;have l1:=h0.ldN (i:=(j:Int)) (k:=j) rfl hj;have l2:=h0.ldN (i:=(i:Int)) (k:=i) rfl hi;have hbs:=o.lt;obtain ⟨m,cm,hm⟩:=hc.at_ (τ:=Z.re) hv hj hi;suffices hmain:zO Tryz.prog 130 [.slice (some ⟨b,0,s⟩) d.size c,iV (i:Int),iV (j:Int),.pointer (some ⟨bs,0,none⟩),.func (.func g) ⟨[]⟩ ⟨gc⟩] Z.re fun v τ=>Only (·=bs) Z.re τ/\(τ.low<Z.y\/zW RD v=false\/∃ (x y:Nat) (n':Int),v=.tuple ⟨[iV (x:Int),iV (y:Int)]⟩/\((x=i/\y=j)\/(x=j/\y=i))/\n<=n'/\n'<=n+1/\Own Z bs [iV n'] 1) /\
   ∃ (x y:Nat) (n':Int),v=.tuple ⟨[iV (x:Int),iV (y:Int)]⟩/\((x=i/\y=j)\/(x=j/\y=i))/\n<=n'/\n'<=n+1/\Own τ bs [iV n'] 1 by
  obtain ⟨v,Z',k1,k2,x,y,n',rfl,k3,k4,k5,k6⟩:=wAN (Q:=fun v τ=>∃ (x y:Nat) (n':Int),v=.tuple ⟨[iV (x:Int),iV (y:Int)]⟩/\((x=i/\y=j)\/(x=j/\y=i))/\n<=n'/\n'<=n+1/\Own τ bs [iV n'] 1) hmain
   (by rintro v s m ⟨x,y,n',rfl,a1,a2,a3,a4⟩;exact ⟨x,y,n',rfl,a1,a2,a3,a4.low⟩)
  exact ⟨x,y,n',Z',k1,k2,k3,k4,k5,k6⟩
 rcases hm with ⟨m1,_⟩ | ⟨m1,_⟩
 ·have o0:Own Z.re bs [iV n] 1:=o.re;have st:=o0.store (P:=Tryz.prog) (k:=0) (t:=3) (v:=iV (n+1)) (vs:=[iV (n+1)]) (ds:=[iV (n+1)]) rfl vE rfl (by simp) rfl;exact xVT l1 l2 cm (o0.ld rfl zU rfl) st ⟨Only.own (.inr rfl),.inl (by simp [St.own];omega),j,i,n+1,rfl,.inr ⟨rfl,rfl⟩,by omega,by omega,o0.put⟩
 ·exact xVS l1 l2 cm ⟨Only.refl _ _,.inr (.inr ⟨i,j,n,rfl,.inl ⟨rfl,rfl⟩,by omega,by omega,o⟩),i,j,n,rfl,.inl ⟨rfl,rfl⟩,by omega,by omega,o.re⟩
theorem xPD {k:Nat} (h:Dt Z b s d) (hc:Cmp g gc lt V) (hv:xS V d) (o:Own Z bs [iV n] 1) (hb:b≠bs) (hi:i<d.size) (hj:j<d.size) (hk:k<d.size) (hn:0<=n/\n<=900) :
    ∃ (x:Nat) (n':Int) (Z':St),zD Tryz.prog 125 [.slice (some ⟨b,0,s⟩) d.size c,iV (i:Int),iV (j:Int),iV (k:Int),.pointer (some ⟨bs,0,none⟩),.func (.func g) ⟨[]⟩ ⟨gc⟩] Z (iV (x:Int)) Z'/\Only (·=bs) Z Z' /\
      (x=i\/x=j\/x=k)/\n<=n'/\n'<=n+3/\Own Z' bs [iV n'] 1:=by
  have hbs:=o.lt;obtain ⟨x1,y1,n1,Z1,k1,q1,z1,e1,f1,o1⟩:=yXX (c:=c) (Z:=Z.re) h hc hv o.re hi hj (by omega);have h1:Dt Z1 b s d:=(show Dt Z.re b s d from h).only q1 (by omega);obtain ⟨x2,y2,n2,Z2,k2,q2,z2,e2,f2,o2⟩:=yXX (c:=c) h1 hc hv o1 (i:=y1) (j:=k) (by omega) hk (by omega);have h2:=h1.only q2 (by omega);obtain ⟨x3,y3,n3,Z3,k3,q3,z3,e3,f3,o3⟩:=yXX (c:=c) h2 hc hv o2 (i:=x1) (j:=x2) (by omega) (by omega) (by omega);have Q3:=(q1.trans' q2 (fun b _ h=>.inl h)).trans' q3 (fun b _ h=>.inl h);have hz:y3=i\/y3=j\/y3=k:=by omega
  by_cases hlow:Z3.low<Z.y
  · obtain ⟨v,Z',r1,r2,x,n',rfl,r3,r4,r5,r6⟩:=wAN (Z:=Z) (f:=125) (args:=[.slice (some ⟨b,0,s⟩) d.size c,iV (i:Int),iV (j:Int),iV (k:Int),.pointer (some ⟨bs,0,none⟩),.func (.func g) ⟨[]⟩ ⟨gc⟩]) (S:=(·=bs)) (Q:=fun v τ=>∃ (x:Nat) (n':Int),v=iV (x:Int)/\(x=i\/x=j\/x=k)/\n<=n'/\n'<=n+3/\Own τ bs [iV n'] 1)
      (xPC k1 k2 k3 ⟨Q3,.inl hlow,y3,n3,rfl,hz,by omega,by omega,o3⟩) (by rintro v s m ⟨x,n',rfl,a1,a2,a3,a4⟩;exact ⟨x,n',rfl,a1,a2,a3,a4.low⟩)
    exact ⟨x,n',Z',r1,r2,r3,r4,r5,r6⟩
  · exact ⟨y3,n,Z,zO.pure (xPC k1 k2 k3 ⟨rfl,by omega⟩),Only.refl _ _,hz,by omega,by omega,o⟩
theorem yYB (h:Dt Z b s d) (hc:Cmp g gc lt V) (hv:xS V d) (o:Own Z bs [iV n] 1) (hb:b≠bs) (hi:1<=i) (hj:i+1<d.size) (hsz:d.size<=1000000) (hn:0<=n/\n<=800) :
    ∃ (x:Nat) (n':Int) (Z':St),zD Tryz.prog 124 [.slice (some ⟨b,0,s⟩) d.size c,iV (i:Int),.pointer (some ⟨bs,0,none⟩),.func (.func g) ⟨[]⟩ ⟨gc⟩] Z (iV (x:Int)) Z'/\Only (·=bs) Z Z' /\
      (i<=x+1/\x<=i+1)/\n<=n'/\n'<=n+3/\Own Z' bs [iV n'] 1:=by
  have hbs:=o.lt;obtain ⟨x1,n1,Z1,k1,q1,z1,e1,f1,o1⟩:=xPD (c:=c) (Z:=Z.re) h hc hv o.re hb (i:=i-1) (j:=i) (k:=i+1) (by omega) (by omega) hj (by omega);rw [show ((i-1:Nat):Int)=(i:Int)-1 by omega,show ((i+1:Nat):Int)=(i:Int)+1 by omega] at k1;have hz:i<=x1+1/\x1<=i+1:=by omega
  by_cases hlow:Z1.low<Z.y
  · obtain ⟨v,Z',r1,r2,x,n',rfl,r3,r4,r5,r6⟩:=wAN (Z:=Z) (f:=124) (args:=[.slice (some ⟨b,0,s⟩) d.size c,iV (i:Int),.pointer (some ⟨bs,0,none⟩),.func (.func g) ⟨[]⟩ ⟨gc⟩]) (S:=(·=bs)) (Q:=fun v τ=>∃ (x:Nat) (n':Int),v=iV (x:Int)/\(i<=x+1/\x<=i+1)/\n<=n'/\n'<=n+3/\Own τ bs [iV n'] 1)
      (xDE k1 ⟨q1,.inl hlow,x1,n1,rfl,hz,by omega,by omega,o1⟩) (by rintro v s m ⟨x,n',rfl,a1,a2,a3,a4⟩;exact ⟨x,n',rfl,a1,a2,a3,a4.low⟩)
    exact ⟨x,n',Z',r1,r2,r3,r4,r5,r6⟩
  · exact ⟨x1,n,Z,zO.pure (xDE k1 ⟨rfl,by omega⟩),Only.refl _ _,hz,by omega,by omega,o⟩
theorem xJL {a B:Nat} (h:Dt Z b s d) (hc:Cmp g gc lt V) (hv:xS V d) (ha:a<B) (hB:B<=d.size) (hsz:d.size<=1000000) :
  ∃ (x:Nat) (k:Int),a<=x/\x<B/\zD Tryz.prog 109 [.slice (some ⟨b,0,s⟩) d.size c,iV (a:Int),iV (B:Int),.func (.func g) ⟨[]⟩ ⟨gc⟩] Z (.tuple ⟨[iV (x:Int),iV k]⟩) Z:=by
 obtain ⟨l,hl⟩:∃ l,l=B-a:=⟨_,rfl⟩;have el:(B:Int)-(a:Int)=(l:Int):=by omega
 have e4:Int.tdiv ((B:Int)-(a:Int)) 4=((l / 4:Nat):Int):=by rw [el,Int.tdiv_eq_ediv_of_nonneg (by omega)];omega
 have w4:IntKind.wrap .i64 (Int.tdiv ((B:Int)-(a:Int)) 4)=Int.tdiv ((B:Int)-(a:Int)) 4:=by rw [<- vW,e4,zYE (by omega) (by omega)]
 have hbn:=h.1;have o1:Own (Z.re.row [iV 0] 1) Z.y [iV 0] 1:=zC _ _ _;have N1:New Z.re (Z.re.row [iV 0] 1):=New.row _ _ _;have h1:Dt (Z.re.row [iV 0] 1) b s d:=(show Dt Z.re b s d from h).le N1.le;have hS:∀ x,x=Z.y->Z.y<=x:=fun x e=>by omega
 by_cases h8:8<=l;rotate_left
 ·exact ⟨a+l / 4*2,1,by omega,by omega,zO.pure (yZV w4 ⟨by rw [e4];congr 3,N1.lw⟩ (by omega) (by rw [e4];omega) (by rw [e4];omega) (by rw [e4];omega) (by rw [e4];omega) (by rw [e4];omega) (by rw [e4];omega) (by omega))⟩
 have i1:(a:Int)+Int.tdiv ((B:Int)-(a:Int)) 4*1=((a+l / 4*1:Nat):Int):=by rw [e4];omega
 have i2:(a:Int)+Int.tdiv ((B:Int)-(a:Int)) 4*2=((a+l / 4*2:Nat):Int):=by rw [e4];omega
 have i3:(a:Int)+Int.tdiv ((B:Int)-(a:Int)) 4*3=((a+l / 4*3:Nat):Int):=by rw [e4];omega
 by_cases h50:50<=l;rotate_left
 ·obtain ⟨x,n',Z2,k2,q2,z2,m1,m2,o2⟩:=xPD (c:=c) h1 hc hv o1 (by omega) (i:=a+l / 4*1) (j:=a+l / 4*2) (k:=a+l / 4*3) (by omega) (by omega) (by omega) (by omega);rw [<- i1,<- i2,<- i3] at k2;have N2:=N1.of_only q2 hS;by_cases g0:n'=0
  ·exact ⟨x,1,by omega,by omega,zO.pure (yZY w4 k2 (o2.ld rfl zU rfl) ⟨rfl,N2.lw⟩ (by omega) (by rw [e4];omega) (by rw [e4];omega) (by rw [e4];omega) (by rw [e4];omega) (by rw [e4];omega) (by rw [e4];omega) (by omega) (by omega) (by omega))⟩
  by_cases g12:n'=12
  ·exact ⟨x,2,by omega,by omega,zO.pure (yZX w4 k2 (o2.ld rfl zU rfl) ⟨rfl,N2.lw⟩ (by omega) (by rw [e4];omega) (by rw [e4];omega) (by rw [e4];omega) (by rw [e4];omega) (by rw [e4];omega) (by rw [e4];omega) (by omega) (by omega) (by omega) (by omega))⟩
  ·exact ⟨x,0,by omega,by omega,zO.pure (yZW w4 k2 (o2.ld rfl zU rfl) ⟨rfl,N2.lw⟩ (by omega) (by rw [e4];omega) (by rw [e4];omega) (by rw [e4];omega) (by rw [e4];omega) (by rw [e4];omega) (by rw [e4];omega) (by omega) (by omega) (by omega) (by omega))⟩
 obtain ⟨x1,n1,Z2,k2,q2,z2,m1,m2,o2⟩:=yYB (c:=c) h1 hc hv o1 (by omega) (i:=a+l / 4*1) (by omega) (by omega) hsz (by omega);have N2:=N1.of_only q2 hS;have h2:=h1.only q2 (by omega);obtain ⟨x2,n2,Z3,k3,q3,z3,m3,m4,o3⟩:=yYB (c:=c) h2 hc hv o2 (by omega) (i:=a+l / 4*2) (by omega) (by omega) hsz (by omega);have N3:=N2.of_only q3 hS;have h3:=h2.only q3 (by omega);obtain ⟨x3,n3,Z4,k4,q4,z4,m5,m6,o4⟩:=yYB (c:=c) h3 hc hv o3 (by omega) (i:=a+l / 4*3) (by omega) (by omega) hsz (by omega);have N4:=N3.of_only q4 hS;have h4:=h3.only q4 (by omega);obtain ⟨x,n',Z5,k5,q5,z5,m7,m8,o5⟩:=xPD (c:=c) h4 hc hv o4 (by omega) (i:=x1) (j:=x2) (k:=x3) (by omega) (by omega) (by omega) (by omega);have N5:=N4.of_only q5 hS;rw [<- i1] at k2;rw [<- i2] at k3;rw [<- i3] at k4;by_cases g0:n'=0
 ·exact ⟨x,1,by omega,by omega,zO.pure (xAB ⟨w4,k2,k3,k4,k5,(o5.ld rfl zU rfl)⟩ ⟨rfl,N5.lw⟩ (by omega) (by rw [e4];omega) (by rw [e4];omega) (by rw [e4];omega) (by rw [e4];omega) (by rw [e4];omega) (by rw [e4];omega) (by omega) (by omega) (by omega))⟩
 by_cases g12:n'=12
 ·exact ⟨x,2,by omega,by omega,zO.pure (xAA ⟨w4,k2,k3,k4,k5,(o5.ld rfl zU rfl)⟩ ⟨rfl,N5.lw⟩ (by omega) (by rw [e4];omega) (by rw [e4];omega) (by rw [e4];omega) (by rw [e4];omega) (by rw [e4];omega) (by rw [e4];omega) (by omega) (by omega) (by omega) (by omega))⟩
 ·exact ⟨x,0,by omega,by omega,zO.pure (yZZ ⟨w4,k2,k3,k4,k5,(o5.ld rfl zU rfl)⟩ ⟨rfl,N5.lw⟩ (by omega) (by rw [e4];omega) (by rw [e4];omega) (by rw [e4];omega) (by rw [e4];omega) (by rw [e4];omega) (by rw [e4];omega) (by omega) (by omega) (by omega) (by omega))⟩
end
end
section
noncomputable section
variable (data:oAa) (ag ah:Nat) (aW:Int) (az:FuncId) (ao:lVa) (q0:Int->Int->Int->Bool->Bool->St->Prop) (aZ aH aY:Int) (q1:St->Prop) (bA fZ bF:Bool) (nL kD kE kC:Int) (fS:Bool) (q4:Int->Int->Bool->St->Prop) (gh gd:Int) (t10_5:Bool) (Z:St) (Nx:Int->Int->Int->Bool->Bool->St->Prop) (q5:Int->Int->Bool->St->Prop) (q6:vPa) (Qr:St->Prop)
def zOH:Code:=(Code.part [1,1,0,0] (qh 97))
def zZS:lNa:=[(0,.slice data ag ah),(1,iV aZ),(2,iV aH),(3,iV aY),(4,.func (.func az) ⟨[]⟩ ⟨ao⟩),(10,.bool fZ),(11,.bool bF)]
def zLY:Alt:=⟨Int × Int × Int × Bool × Bool,.normal,fun t=>zZS data ag ah az ao t.1 t.2.1 t.2.2.1 t.2.2.2.1 t.2.2.2.2,fun t=>[],fun t Z=>q0 t.1 t.2.1 t.2.2.1 t.2.2.2.1 t.2.2.2.2 Z⟩
def yPA (data:oAa) (ag ah:Nat) (az:FuncId) (ao:lVa):lNa:=[]
def zCI:Alt:=⟨Unit,.ret,fun t=>yPA data ag ah az ao,fun t=>[],fun t Z=>q1 Z⟩
def zSK:Prop:=qi qj none zOH 148 (zZS data ag ah az ao aZ aH aY fZ bF) [] [zLY data ag ah az ao Nx,zCI data ag ah az ao Qr] Z
def xNP:Prop:=qk qj none zOH 148 (zZS data ag ah az ao aZ aH aY fZ bF) [] [zCI data ag ah az ao Qr] Z
def wAH:Code:=(Code.part [1,1,0,0,0,1,1,1,0,1] (qh 97))
def yWY (data:oAa) (ag ah:Nat) (aZ aH:Int) (az:FuncId) (ao:lVa) (dy bF:Bool) (kA:Int) (gm:Bool) (aW:Int):lNa:=[(0,.slice data ag ah),(1,iV aZ),(2,iV aH),(3,iV aW),(4,.func (.func az) ⟨[]⟩ ⟨ao⟩),(10,.bool dy),(11,.bool bF),(12,iV kA),(39,.bool gm)]
def yOZ (data:oAa) (ag ah:Nat) (aZ aH:Int) (az:FuncId) (ao:lVa) (dy bF:Bool) (kA:Int) (gm:Bool) (aW:Int):lNa:=[(0,.slice data ag ah),(1,iV aZ),(2,iV aH),(3,iV aW),(4,.func (.func az) ⟨[]⟩ ⟨ao⟩),(10,.bool dy),(11,.bool bF),(12,iV kA)]
def zZV (data:oAa) (ag ah:Nat) (aZ aH:Int) (az:FuncId) (ao:lVa) (dy bF:Bool) (kA:Int) (gm:Bool) (Q:Int->St->Prop):Alt:=⟨Int,.normal,fun t=>yOZ data ag ah aZ aH az ao dy bF kA gm t,fun t=>[],fun t Z=>Q t Z⟩
def yKM (data:oAa) (ag ah:Nat) (aZ aH:Int) (az:FuncId) (ao:lVa) (dy bF:Bool) (kA:Int) (gm:Bool) (aW:Int) (Z:St) (Qn:Int->St->Prop):Prop:=qi qj none wAH 148 (yWY data ag ah aZ aH az ao dy bF kA gm aW) [] [zZV data ag ah aZ aH az ao dy bF kA gm Qn] Z
def zJV (data:oAa) (ag ah:Nat) (aZ aH:Int) (az:FuncId) (ao:lVa) (dy bF:Bool) (kA:Int) (gm:Bool) (aW:Int) (Z:St) (Nx:Int->Int->Int->Bool->Bool->St->Prop) (Qr:St->Prop):Prop:=kZ qj zOH [0,1,1,1,0,1] (zFP 148 [zLY data ag ah az ao Nx,zCI data ag ah az ao Qr]) .normal 148 (yOZ data ag ah aZ aH az ao dy bF kA gm aW) Z
def wAG:Code:=(Code.part [1,1,0,0,0,1,1,1,1,1,0,1] (qh 97))
def zZR (data:oAa) (ag ah:Nat) (aZ aH aW:Int) (az:FuncId) (ao:lVa) (dy bF:Bool) (kA:Int) (eS:Bool) (aE dM:Int):lNa:=[(0,.slice data ag ah),(1,iV aZ),(2,iV aH),(3,iV aW),(4,.func (.func az) ⟨[]⟩ ⟨ao⟩),(10,.bool dy),(11,.bool bF),(12,iV kA),(13,iV aE),(14,iV dM),(56,.bool eS)]
def yOY (data:oAa) (ag ah:Nat) (aZ aH aW:Int) (az:FuncId) (ao:lVa) (dy bF:Bool) (kA:Int) (eS:Bool) (aE dM:Int):lNa:=[(0,.slice data ag ah),(1,iV aZ),(2,iV aH),(3,iV aW),(4,.func (.func az) ⟨[]⟩ ⟨ao⟩),(10,.bool dy),(11,.bool bF),(12,iV kA),(13,iV aE),(14,iV dM)]
def zZU (data:oAa) (ag ah:Nat) (aZ aH aW:Int) (az:FuncId) (ao:lVa) (dy bF:Bool) (kA:Int) (eS:Bool) (Q:Int->Int->St->Prop):Alt:=⟨Int × Int,.normal,fun t=>yOY data ag ah aZ aH aW az ao dy bF kA eS t.1 t.2,fun t=>[],fun t Z=>Q t.1 t.2 Z⟩
def yKL (data:oAa) (ag ah:Nat) (aZ aH aW:Int) (az:FuncId) (ao:lVa) (dy bF:Bool) (kA:Int) (eS:Bool) (aE dM:Int) (Z:St) (Qn:Int->Int->St->Prop):Prop:=qi qj none wAG 148 (zZR data ag ah aZ aH aW az ao dy bF kA eS aE dM) [] [zZU data ag ah aZ aH aW az ao dy bF kA eS Qn] Z
def wB (data:oAa) (ag ah:Nat) (aZ aH aW:Int) (az:FuncId) (ao:lVa) (dy bF:Bool) (kA:Int) (eS:Bool) (aE dM:Int) (Z:St) (Nx:Int->Int->Int->Bool->Bool->St->Prop) (Qr:St->Prop):Prop:=kZ qj zOH [0,1,1,1,1,1,0,1] (zFP 148 [zLY data ag ah az ao Nx,zCI data ag ah az ao Qr]) .normal 148 (yOY data ag ah aZ aH aW az ao dy bF kA eS aE dM) Z
def wAF:Code:=(Code.part [1,1,0,0,0,1,1,1,1,1,1,1,0,1] (qh 97))
def wJ (data:oAa) (ag ah:Nat) (aH aW:Int) (az:FuncId) (ao:lVa) (eP eN:Bool) (kA aE:Int) (ff:Bool) (ew:Int):lNa:=[(0,.slice data ag ah),(1,iV ew),(2,iV aH),(3,iV aW),(4,.func (.func az) ⟨[]⟩ ⟨ao⟩),(10,.bool eP),(11,.bool eN),(12,iV kA),(13,iV aE),(97,.bool ff)]
def yOX (data:oAa) (ag ah:Nat) (aH aW:Int) (az:FuncId) (ao:lVa) (eP eN:Bool) (kA aE:Int) (ff:Bool) (ew:Int):lNa:=[(0,.slice data ag ah),(1,iV ew),(2,iV aH),(3,iV aW),(4,.func (.func az) ⟨[]⟩ ⟨ao⟩),(10,.bool eP),(11,.bool eN)]
def vK (data:oAa) (ag ah:Nat) (aH aW:Int) (az:FuncId) (ao:lVa) (eP eN:Bool) (kA aE:Int) (ff:Bool) (Q:Int->St->Prop):Alt:=⟨Int,(.exit 1),fun t=>yOX data ag ah aH aW az ao eP eN kA aE ff t,fun t=>[],fun t Z=>Q t Z⟩
def yOW (data:oAa) (ag ah:Nat) (aH aW:Int) (az:FuncId) (ao:lVa) (eP eN:Bool) (kA aE:Int) (ff:Bool) (ew:Int):lNa:=[(0,.slice data ag ah),(1,iV ew),(2,iV aH),(3,iV aW),(4,.func (.func az) ⟨[]⟩ ⟨ao⟩),(12,iV kA),(13,iV aE)]
def vJ (data:oAa) (ag ah:Nat) (aH aW:Int) (az:FuncId) (ao:lVa) (eP eN:Bool) (kA aE:Int) (ff:Bool) (Q:Int->St->Prop):Alt:=⟨Int,.normal,fun t=>yOW data ag ah aH aW az ao eP eN kA aE ff t,fun t=>[],fun t Z=>Q t Z⟩
def uV (data:oAa) (ag ah:Nat) (aH aW:Int) (az:FuncId) (ao:lVa) (eP eN:Bool) (kA aE:Int) (ff:Bool) (ew:Int) (Z:St) (Q1:Int->St->Prop) (Qn:Int->St->Prop):Prop:=qi qj none wAF 148 (wJ data ag ah aH aW az ao eP eN kA aE ff ew) [] [vK data ag ah aH aW az ao eP eN kA aE ff Q1,vJ data ag ah aH aW az ao eP eN kA aE ff Qn] Z
def wY (data:oAa) (ag ah:Nat) (aH aW:Int) (az:FuncId) (ao:lVa) (eP eN:Bool) (kA aE:Int) (ff:Bool) (ew:Int) (Z:St) (Nx:Int->Int->Int->Bool->Bool->St->Prop) (Qr:St->Prop):Prop:=kZ qj zOH [0,1,1,1,1,1,1,1,0,1] (zFP 148 [zLY data ag ah az ao Nx,zCI data ag ah az ao Qr]) (.exit 1) 148 (yOX data ag ah aH aW az ao eP eN kA aE ff ew) Z
def wL (data:oAa) (ag ah:Nat) (aH aW:Int) (az:FuncId) (ao:lVa) (eP eN:Bool) (kA aE:Int) (ff:Bool) (ew:Int) (Z:St) (Nx:Int->Int->Int->Bool->Bool->St->Prop) (Qr:St->Prop):Prop:=kZ qj zOH [0,1,1,1,1,1,1,1,0,1] (zFP 148 [zLY data ag ah az ao Nx,zCI data ag ah az ao Qr]) .normal 148 (yOW data ag ah aH aW az ao eP eN kA aE ff ew) Z
def wAE:Code:=(Code.part [1,1,0,0,0,1,1,1,1,1,1,1,1,1,1,1,1,1] (qh 97))
def yWX:lNa:=[(0,.slice data ag ah),(1,iV gh),(2,iV gd),(3,iV aW),(4,.func (.func az) ⟨[]⟩ ⟨ao⟩),(11,.bool bA),(16,iV nL),(18,iV kD),(19,iV kE),(20,iV kC),(125,.bool fS)]
def yOV (data:oAa) (ag ah:Nat) (aW:Int) (az:FuncId) (ao:lVa) (bA:Bool) (nL kD kE kC:Int) (fS:Bool) (gh gd:Int) (t10_5:Bool):lNa:=[(0,.slice data ag ah),(1,iV gh),(2,iV gd),(3,iV aW),(4,.func (.func az) ⟨[]⟩ ⟨ao⟩),(10,.bool t10_5),(11,.bool bA)]
def zZT:Alt:=⟨Int × Int × Bool,.normal,fun t=>yOV data ag ah aW az ao bA nL kD kE kC fS t.1 t.2.1 t.2.2,fun t=>[],fun t Z=>q4 t.1 t.2.1 t.2.2 Z⟩
def zSJ:Prop:=qi qj none wAE 148 (yWX data ag ah aW az ao bA nL kD kE kC fS gh gd) [] [zZT data ag ah aW az ao bA nL kD kE kC fS q5] Z
def zZW:Prop:=kZ qj zOH [0,1,1,1,1,1,1,1,1,1,1,1,1,1] (zFP 148 [zLY data ag ah az ao Nx,zCI data ag ah az ao Qr]) .normal 148 (yOV data ag ah aW az ao bA nL kD kE kC fS gh gd t10_5) Z
def yPB:Prop:=kZ qj (qh 97) [1,1,0] (ql 97 q6) .ret 148 (yPA data ag ah az ao) Z
end
variable {data x:oAa} {ag ah x_l x_c:Nat} {az:FuncId} {ao:lVa} {Inv:Nat->Int->Int->Int->Bool->Bool->St->Prop} {Qr Pr:St->Prop} {aZ aH aY kA aW aE dM nLB nJB ew nCB nX nY nZ nAB nBB nBS nBT nEB nFB kD kE kC nL gh gd a_1 b limit z1 n2:Int} {fZ bF dy gm eS eP eN ff bA fS t10_5:Bool} {ZCB Z ZBE ZBF ZM ZBG ZS ZPB Z3:St} {Nx:Int->Int->Int->Bool->Bool->St->Prop} {Qn Pn Q1 P1:Int->St->Prop} {ar:Addr} {Q:vPa}
theorem yGA (hb:∀ k aZ aH aY fZ bF Z,Inv k aZ aH aY fZ bF Z->zSK data ag ah az ao aZ aH aY fZ bF Z (NX5 Inv k) Qr):∀ k aZ aH aY fZ bF Z,Inv k aZ aH aY fZ bF Z->xNP data ag ah az ao aZ aH aY fZ bF Z Qr :=
 wAT (ai uZ trivial) hb
theorem xCL (h1:qm 106 [.slice data ag ah,iV aZ,iV aH,.func (.func az) ⟨[]⟩ ⟨ao⟩] Z (.tuple ⟨[]⟩) ZCB) (nx:Qr ZCB) (u1:I6 (aH-aZ):=by omega) (u2:(aH-aZ)<=12:=by omega):zSK data ag ah az ao aZ aH aY fZ bF Z Nx Qr :=
 kO 1 () [.g,.g,.n (aH-aZ),.g,.g,.b true,.g,.g,.g,.g,.c (.tuple ⟨[]⟩) ZCB] (fun _ f=>an3 (w64 u1) (yE u2) h1 f) nx
theorem xVO (h1:qm 107 [.slice data ag ah,iV aZ,iV aH,.func (.func az) ⟨[]⟩ ⟨ao⟩] Z (.tuple ⟨[]⟩) ZCB) (nx:Qr ZCB) (u1:I6 (aH-aZ):=by omega) (u2:¬ (aH-aZ)<=12:=by omega) (u3:aY=0:=by omega):zSK data ag ah az ao aZ aH aY fZ bF Z Nx Qr :=
 kO 1 () [.g,.g,.n (aH-aZ),.g,.g,.b false,.g,.b true,.g,.g,.g,.g,.c (.tuple ⟨[]⟩) ZCB] (fun _ f=>an4 (w64 u1) (yH u2) (xK u3) h1 f) nx
theorem xVL (h1:qm 108 [.slice data ag ah,iV aZ,iV aH,.func (.func az) ⟨[]⟩ ⟨ao⟩] Z (.tuple ⟨[]⟩) ZBE) (nx:Qn (aW-1) ZBE) (u1:I6 (aW-1):=by omega):yKM data ag ah aZ aH az ao dy bF kA true aW Z Qn :=
 kO 0 (aW-1) [.g,.g,.g,.g,.c (.tuple ⟨[]⟩) ZBE,.g,.n (aW-1),.g] (fun _ f=>an2 h1 (w64 u1) f) nx
theorem xVK (nx:Qn aW Z):yKM data ag ah aZ aH az ao dy bF kA false aW Z Qn :=
 kO 0 aW [] (fun _ f=>f) nx
theorem xVN (hL:yKM data ag ah aZ aH az ao true bF (aH-aZ) false aY Z Pn) (kn:∀ i3_2' Z',Pn i3_2' Z'->zJV data ag ah aZ aH az ao true bF (aH-aZ) false i3_2' Z' Nx Qr) (u1:I6 (aH-aZ):=by omega) (u2:¬ (aH-aZ)<=12:=by omega) (u3:¬ aY=0:=by omega):zSK data ag ah az ao aZ aH aY true bF Z Nx Qr :=
 let s1:=yWY data ag ah aZ aH az ao true bF (aH-aZ) false aY;zCE [.g,.g,.n (aH-aZ),.g,.g,.b false,.g,.b false,.g,.g,.cut 148 s1 [zZV data ag ah aZ aH az ao true bF (aH-aZ) false Pn]] (fun g=>kd (an3 (w64 u1) (yH u2) (xI u3) (ai (ai tt (ai (arf s1) hL)) (ai (kz1 kn) trivial))))
theorem xVM (hL:yKM data ag ah aZ aH az ao false bF (aH-aZ) true aY Z Pn) (kn:∀ i3_2' Z',Pn i3_2' Z'->zJV data ag ah aZ aH az ao false bF (aH-aZ) true i3_2' Z' Nx Qr) (u1:I6 (aH-aZ):=by omega) (u2:¬ (aH-aZ)<=12:=by omega) (u3:¬ aY=0:=by omega):zSK data ag ah az ao aZ aH aY false bF Z Nx Qr :=
 let s1:=yWY data ag ah aZ aH az ao false bF (aH-aZ) true aY;zCE [.g,.g,.n (aH-aZ),.g,.g,.b false,.g,.b false,.g,.g,.cut 148 s1 [zZV data ag ah aZ aH az ao false bF (aH-aZ) true Pn]] (fun g=>kd (an3 (w64 u1) (yH u2) (xI u3) (ai (ai tt (ai (arf s1) hL)) (ai (kz1 kn) trivial))))
theorem xVJ {Qn:Int->Int->St->Prop} (h1:qm 110 [.slice data ag ah,iV aZ,iV aH,.func (.func az) ⟨[]⟩ ⟨ao⟩] Z (.tuple ⟨[]⟩) ZBF) (nx:Qn ((aH-1)-(aE-aZ)) (1:Int) ZBF) (u1:I6 (aH-1):=by omega) (u2:I6 (aE-aZ):=by omega) (u3:I6 ((aH-1)-(aE-aZ)):=by omega):yKL data ag ah aZ aH aW az ao dy bF kA true aE dM Z Qn :=
 let s1:=aE-aZ;kO 0 ((aH-1)-s1,(1:Int)) [.g,.g,.g,.g,.c (.tuple ⟨[]⟩) ZBF,.g,.n (aH-1),.g,.g,.n s1,.n ((aH-1)-s1),.g,.g] (fun _ f=>an4 h1 (w64 u1) (w64 u2) (w64 u3) f) nx
theorem xVI {Qn:Int->Int->St->Prop} (nx:Qn aE dM Z):yKL data ag ah aZ aH aW az ao dy bF kA false aE dM Z Qn :=
 kO 0 (aE,dM) [] (fun _ f=>f) nx
theorem xHB {Pn:Int->Int->St->Prop} (h1:qm 109 [.slice data ag ah,iV aZ,iV aH,.func (.func az) ⟨[]⟩ ⟨ao⟩] Z (.tuple ⟨[iV nLB,iV nJB]⟩) Z) (hL:yKL data ag ah aZ aH aW az ao dy bF kA true nLB nJB Z Pn) (kn:∀ i13_3' i14_3' Z',Pn i13_3' i14_3' Z'->wB data ag ah aZ aH aW az ao dy bF kA true i13_3' i14_3' Z' Nx Qr) (u1:nJB=2:=by omega):zJV data ag ah aZ aH az ao dy bF kA gm aW Z Nx Qr :=
 sK [.g,.g,.g,.g,.c (.tuple ⟨[iV nLB,iV nJB]⟩) Z,.g,.g,.g,.g,.g,.g,.b true,.cut 148 (zZR data ag ah aZ aH aW az ao dy bF kA true nLB nJB) [zZU data ag ah aZ aH aW az ao dy bF kA true Pn]] (an2 h1 (xK u1) (ai (ai tt (ai (arf (zZR data ag ah aZ aH aW az ao dy bF kA true nLB nJB)) hL)) (ai (kz2 kn) trivial)))
theorem xHA {Pn:Int->Int->St->Prop} (h1:qm 109 [.slice data ag ah,iV aZ,iV aH,.func (.func az) ⟨[]⟩ ⟨ao⟩] Z (.tuple ⟨[iV nLB,iV nJB]⟩) Z) (hL:yKL data ag ah aZ aH aW az ao dy bF kA false nLB nJB Z Pn) (kn:∀ i13_3' i14_3' Z',Pn i13_3' i14_3' Z'->wB data ag ah aZ aH aW az ao dy bF kA false i13_3' i14_3' Z' Nx Qr) (u1:¬ nJB=2:=by omega):zJV data ag ah aZ aH az ao dy bF kA gm aW Z Nx Qr :=
 sK [.g,.g,.g,.g,.c (.tuple ⟨[iV nLB,iV nJB]⟩) Z,.g,.g,.g,.g,.g,.g,.b false,.cut 148 (zZR data ag ah aZ aH aW az ao dy bF kA false nLB nJB) [zZU data ag ah aZ aH aW az ao dy bF kA false Pn]] (an2 h1 (xI u1) (ai (ai tt (ai (arf (zZR data ag ah aZ aH aW az ao dy bF kA false nLB nJB)) hL)) (ai (kz2 kn) trivial)))
theorem yFY (h1:qm 111 [.slice data ag ah,iV aZ,iV aH,.func (.func az) ⟨[]⟩ ⟨ao⟩] Z (.bool true) ZM) (nx:Qr ZM) (u1:dM=1:=by omega):wB data ag ah aZ aH aW az ao true true kA eS aE dM Z Nx Qr :=
 sF 1 () [.g,.g,.g,.g,.g,.g,.b true,.g,.g,.g,.g,.g,.c (.bool true) ZM] (fun _ f=>an2 (xK u1) h1 f) nx
theorem xVH (h1:qm 112 [.slice data ag ah,iV ew,iV aH,iV aE,.func (.func az) ⟨[]⟩ ⟨ao⟩] Z (iV nCB) ZBG) (nx:Q1 nCB ZBG):uV data ag ah aH aW az ao eP eN kA aE true ew Z Q1 Qn :=
 kO 0 nCB [.g,.g,.g,.g,.g,.c (iV nCB) ZBG,.g,.g,.g] (fun _ f=>ai h1 f) nx
theorem xVG (nx:Qn ew Z):uV data ag ah aH aW az ao eP eN kA aE false ew Z Q1 Qn :=
 kO 1 ew [] (fun _ f=>f) nx
theorem xGZ (h1:qm 111 [.slice (some ar) ag ah,iV aZ,iV aH,.func (.func az) ⟨[]⟩ ⟨ao⟩] Z (.bool false) ZM) (h2:lz ZM 45 (zJ ar (Int.toNat (aZ-1)*3)) (qf (rcd nX nY nZ))) (h3:lz ZM 45 (zJ ar (Int.toNat aE*3)) (qf (rcd nAB nBB nBS))) (h4:qm az (qf (rcd nX nY nZ)::(qf (rcd nAB nBB nBS))::ao) ZM (iV nBT) ZM) (hL:uV (some ar) ag ah aH aW az ao true true kA aE false aZ ZM P1 Pn) (k1:∀ i1_4' Z',P1 i1_4' Z'->wY (some ar) ag ah aH aW az ao true true kA aE false i1_4' Z' Nx Qr) (kn:∀ i1_4' Z',Pn i1_4' Z'->wL (some ar) ag ah aH aW az ao true true kA aE false i1_4' Z' Nx Qr) (u1:dM=1:=by omega) (u2:0<aZ:=by omega) (u3:I6 (aZ-1):=by omega) (u4:Ix (aZ-1) ag:=by omega) (u5:Ix aE ag:=by omega) (u6:nBT<0:=by omega):wB (some ar) ag ah aZ aH aW az ao true true kA eS aE dM Z Nx Qr :=
 sK [.g,.g,.g,.g,.g,.g,.b true,.g,.g,.g,.g,.g,.c (.bool false) ZM,.g,.b true,.g,.g,.g,.g,.n (aZ-1),.i,.l (qf (rcd nX nY nZ)),.g,.g,.i,.l (qf (rcd nAB nBB nBS)),.c (iV nBT) ZM,.b true,.g,.g,.cut 148 (wJ (some ar) ag ah aH aW az ao true true kA aE false aZ) [vK (some ar) ag ah aH aW az ao true true kA aE false P1,vJ (some ar) ag ah aH aW az ao true true kA aE false Pn]] (an4 (xK u1) h1 (zR u2) (w64 u3) (an6 u4 h2 u5 h3 h4 (zR u6) (ai (ai tt (ai (arf (wJ (some ar) ag ah aH aW az ao true true kA aE false aZ)) hL)) (ai (kz1 k1) (ai (kz1 kn) trivial)))))
theorem xGY (h1:qm 111 [.slice (some ar) ag ah,iV aZ,iV aH,.func (.func az) ⟨[]⟩ ⟨ao⟩] Z (.bool false) ZM) (h2:lz ZM 45 (zJ ar (Int.toNat (aZ-1)*3)) (qf (rcd nX nY nZ))) (h3:lz ZM 45 (zJ ar (Int.toNat aE*3)) (qf (rcd nAB nBB nBS))) (h4:qm az (qf (rcd nX nY nZ)::(qf (rcd nAB nBB nBS))::ao) ZM (iV nBT) ZM) (hL:uV (some ar) ag ah aH aW az ao true true kA aE true aZ ZM P1 Pn) (k1:∀ i1_4' Z',P1 i1_4' Z'->wY (some ar) ag ah aH aW az ao true true kA aE true i1_4' Z' Nx Qr) (kn:∀ i1_4' Z',Pn i1_4' Z'->wL (some ar) ag ah aH aW az ao true true kA aE true i1_4' Z' Nx Qr) (u1:dM=1:=by omega) (u2:0<aZ:=by omega) (u3:I6 (aZ-1):=by omega) (u4:Ix (aZ-1) ag:=by omega) (u5:Ix aE ag:=by omega) (u6:¬ nBT<0:=by omega):wB (some ar) ag ah aZ aH aW az ao true true kA eS aE dM Z Nx Qr :=
 sK [.g,.g,.g,.g,.g,.g,.b true,.g,.g,.g,.g,.g,.c (.bool false) ZM,.g,.b true,.g,.g,.g,.g,.n (aZ-1),.i,.l (qf (rcd nX nY nZ)),.g,.g,.i,.l (qf (rcd nAB nBB nBS)),.c (iV nBT) ZM,.b false,.g,.g,.cut 148 (wJ (some ar) ag ah aH aW az ao true true kA aE true aZ) [vK (some ar) ag ah aH aW az ao true true kA aE true P1,vJ (some ar) ag ah aH aW az ao true true kA aE true Pn]] (an4 (xK u1) h1 (zR u2) (w64 u3) (an6 u4 h2 u5 h3 h4 (zT u6) (ai (ai tt (ai (arf (wJ (some ar) ag ah aH aW az ao true true kA aE true aZ)) hL)) (ai (kz1 k1) (ai (kz1 kn) trivial)))))
theorem xGX (h1:qm 111 [.slice data ag ah,iV aZ,iV aH,.func (.func az) ⟨[]⟩ ⟨ao⟩] Z (.bool false) ZM) (hL:uV data ag ah aH aW az ao true true kA aE false aZ ZM P1 Pn) (k1:∀ i1_4' Z',P1 i1_4' Z'->wY data ag ah aH aW az ao true true kA aE false i1_4' Z' Nx Qr) (kn:∀ i1_4' Z',Pn i1_4' Z'->wL data ag ah aH aW az ao true true kA aE false i1_4' Z' Nx Qr) (u1:dM=1:=by omega) (u2:¬ 0<aZ:=by omega):wB data ag ah aZ aH aW az ao true true kA eS aE dM Z Nx Qr :=
 sK [.g,.g,.g,.g,.g,.g,.b true,.g,.g,.g,.g,.g,.c (.bool false) ZM,.g,.b false,.g,.g,.cut 148 (wJ data ag ah aH aW az ao true true kA aE false aZ) [vK data ag ah aH aW az ao true true kA aE false P1,vJ data ag ah aH aW az ao true true kA aE false Pn]] (an3 (xK u1) h1 (zT u2) (ai (ai tt (ai (arf (wJ data ag ah aH aW az ao true true kA aE false aZ)) hL)) (ai (kz1 k1) (ai (kz1 kn) trivial))))
theorem xGW (h1:lz Z 45 (zJ ar (Int.toNat (aZ-1)*3)) (qf (rcd nEB nFB nX))) (h2:lz Z 45 (zJ ar (Int.toNat aE*3)) (qf (rcd nY nZ nAB))) (h3:qm az (qf (rcd nEB nFB nX)::(qf (rcd nY nZ nAB))::ao) Z (iV nBB) Z) (hL:uV (some ar) ag ah aH aW az ao true true kA aE false aZ Z P1 Pn) (k1:∀ i1_4' Z',P1 i1_4' Z'->wY (some ar) ag ah aH aW az ao true true kA aE false i1_4' Z' Nx Qr) (kn:∀ i1_4' Z',Pn i1_4' Z'->wL (some ar) ag ah aH aW az ao true true kA aE false i1_4' Z' Nx Qr) (u1:¬ dM=1:=by omega) (u2:0<aZ:=by omega) (u3:I6 (aZ-1):=by omega) (u4:Ix (aZ-1) ag:=by omega) (u5:Ix aE ag:=by omega) (u6:nBB<0:=by omega):wB (some ar) ag ah aZ aH aW az ao true true kA eS aE dM Z Nx Qr :=
 sK [.g,.g,.g,.g,.g,.g,.b false,.g,.g,.b true,.g,.g,.g,.g,.n (aZ-1),.i,.l (qf (rcd nEB nFB nX)),.g,.g,.i,.l (qf (rcd nY nZ nAB)),.c (iV nBB) Z,.b true,.g,.g,.cut 148 (wJ (some ar) ag ah aH aW az ao true true kA aE false aZ) [vK (some ar) ag ah aH aW az ao true true kA aE false P1,vJ (some ar) ag ah aH aW az ao true true kA aE false Pn]] (an3 (xI u1) (zR u2) (w64 u3) (an6 u4 h1 u5 h2 h3 (zR u6) (ai (ai tt (ai (arf (wJ (some ar) ag ah aH aW az ao true true kA aE false aZ)) hL)) (ai (kz1 k1) (ai (kz1 kn) trivial)))))
theorem xGV (h1:lz Z 45 (zJ ar (Int.toNat (aZ-1)*3)) (qf (rcd nEB nFB nX))) (h2:lz Z 45 (zJ ar (Int.toNat aE*3)) (qf (rcd nY nZ nAB))) (h3:qm az (qf (rcd nEB nFB nX)::(qf (rcd nY nZ nAB))::ao) Z (iV nBB) Z) (hL:uV (some ar) ag ah aH aW az ao true true kA aE true aZ Z P1 Pn) (k1:∀ i1_4' Z',P1 i1_4' Z'->wY (some ar) ag ah aH aW az ao true true kA aE true i1_4' Z' Nx Qr) (kn:∀ i1_4' Z',Pn i1_4' Z'->wL (some ar) ag ah aH aW az ao true true kA aE true i1_4' Z' Nx Qr) (u1:¬ dM=1:=by omega) (u2:0<aZ:=by omega) (u3:I6 (aZ-1):=by omega) (u4:Ix (aZ-1) ag:=by omega) (u5:Ix aE ag:=by omega) (u6:¬ nBB<0:=by omega):wB (some ar) ag ah aZ aH aW az ao true true kA eS aE dM Z Nx Qr :=
 sK [.g,.g,.g,.g,.g,.g,.b false,.g,.g,.b true,.g,.g,.g,.g,.n (aZ-1),.i,.l (qf (rcd nEB nFB nX)),.g,.g,.i,.l (qf (rcd nY nZ nAB)),.c (iV nBB) Z,.b false,.g,.g,.cut 148 (wJ (some ar) ag ah aH aW az ao true true kA aE true aZ) [vK (some ar) ag ah aH aW az ao true true kA aE true P1,vJ (some ar) ag ah aH aW az ao true true kA aE true Pn]] (an3 (xI u1) (zR u2) (w64 u3) (an6 u4 h1 u5 h2 h3 (zT u6) (ai (ai tt (ai (arf (wJ (some ar) ag ah aH aW az ao true true kA aE true aZ)) hL)) (ai (kz1 k1) (ai (kz1 kn) trivial)))))
theorem xGU (hL:uV data ag ah aH aW az ao true true kA aE false aZ Z P1 Pn) (k1:∀ i1_4' Z',P1 i1_4' Z'->wY data ag ah aH aW az ao true true kA aE false i1_4' Z' Nx Qr) (kn:∀ i1_4' Z',Pn i1_4' Z'->wL data ag ah aH aW az ao true true kA aE false i1_4' Z' Nx Qr) (u1:¬ dM=1:=by omega) (u2:¬ 0<aZ:=by omega):wB data ag ah aZ aH aW az ao true true kA eS aE dM Z Nx Qr :=
 sK [.g,.g,.g,.g,.g,.g,.b false,.g,.g,.b false,.g,.g,.cut 148 (wJ data ag ah aH aW az ao true true kA aE false aZ) [vK data ag ah aH aW az ao true true kA aE false P1,vJ data ag ah aH aW az ao true true kA aE false Pn]] (an2 (xI u1) (zT u2) (ai (ai tt (ai (arf (wJ data ag ah aH aW az ao true true kA aE false aZ)) hL)) (ai (kz1 k1) (ai (kz1 kn) trivial))))
theorem xGT (h1:lz Z 45 (zJ ar (Int.toNat (aZ-1)*3)) (qf (rcd nEB nFB nX))) (h2:lz Z 45 (zJ ar (Int.toNat aE*3)) (qf (rcd nY nZ nAB))) (h3:qm az (qf (rcd nEB nFB nX)::(qf (rcd nY nZ nAB))::ao) Z (iV nBB) Z) (hL:uV (some ar) ag ah aH aW az ao true false kA aE false aZ Z P1 Pn) (k1:∀ i1_4' Z',P1 i1_4' Z'->wY (some ar) ag ah aH aW az ao true false kA aE false i1_4' Z' Nx Qr) (kn:∀ i1_4' Z',Pn i1_4' Z'->wL (some ar) ag ah aH aW az ao true false kA aE false i1_4' Z' Nx Qr) (u1:0<aZ:=by omega) (u2:I6 (aZ-1):=by omega) (u3:Ix (aZ-1) ag:=by omega) (u4:Ix aE ag:=by omega) (u5:nBB<0:=by omega):wB (some ar) ag ah aZ aH aW az ao true false kA eS aE dM Z Nx Qr :=
 sK [.g,.g,.g,.g,.g,.g,.g,.b true,.g,.g,.g,.g,.n (aZ-1),.i,.l (qf (rcd nEB nFB nX)),.g,.g,.i,.l (qf (rcd nY nZ nAB)),.c (iV nBB) Z,.b true,.g,.g,.cut 148 (wJ (some ar) ag ah aH aW az ao true false kA aE false aZ) [vK (some ar) ag ah aH aW az ao true false kA aE false P1,vJ (some ar) ag ah aH aW az ao true false kA aE false Pn]] (an2 (zR u1) (w64 u2) (an6 u3 h1 u4 h2 h3 (zR u5) (ai (ai tt (ai (arf (wJ (some ar) ag ah aH aW az ao true false kA aE false aZ)) hL)) (ai (kz1 k1) (ai (kz1 kn) trivial)))))
theorem xGS (h1:lz Z 45 (zJ ar (Int.toNat (aZ-1)*3)) (qf (rcd nEB nFB nX))) (h2:lz Z 45 (zJ ar (Int.toNat aE*3)) (qf (rcd nY nZ nAB))) (h3:qm az (qf (rcd nEB nFB nX)::(qf (rcd nY nZ nAB))::ao) Z (iV nBB) Z) (hL:uV (some ar) ag ah aH aW az ao true false kA aE true aZ Z P1 Pn) (k1:∀ i1_4' Z',P1 i1_4' Z'->wY (some ar) ag ah aH aW az ao true false kA aE true i1_4' Z' Nx Qr) (kn:∀ i1_4' Z',Pn i1_4' Z'->wL (some ar) ag ah aH aW az ao true false kA aE true i1_4' Z' Nx Qr) (u1:0<aZ:=by omega) (u2:I6 (aZ-1):=by omega) (u3:Ix (aZ-1) ag:=by omega) (u4:Ix aE ag:=by omega) (u5:¬ nBB<0:=by omega):wB (some ar) ag ah aZ aH aW az ao true false kA eS aE dM Z Nx Qr :=
 sK [.g,.g,.g,.g,.g,.g,.g,.b true,.g,.g,.g,.g,.n (aZ-1),.i,.l (qf (rcd nEB nFB nX)),.g,.g,.i,.l (qf (rcd nY nZ nAB)),.c (iV nBB) Z,.b false,.g,.g,.cut 148 (wJ (some ar) ag ah aH aW az ao true false kA aE true aZ) [vK (some ar) ag ah aH aW az ao true false kA aE true P1,vJ (some ar) ag ah aH aW az ao true false kA aE true Pn]] (an2 (zR u1) (w64 u2) (an6 u3 h1 u4 h2 h3 (zT u5) (ai (ai tt (ai (arf (wJ (some ar) ag ah aH aW az ao true false kA aE true aZ)) hL)) (ai (kz1 k1) (ai (kz1 kn) trivial)))))
theorem xGR (hL:uV data ag ah aH aW az ao true false kA aE false aZ Z P1 Pn) (k1:∀ i1_4' Z',P1 i1_4' Z'->wY data ag ah aH aW az ao true false kA aE false i1_4' Z' Nx Qr) (kn:∀ i1_4' Z',Pn i1_4' Z'->wL data ag ah aH aW az ao true false kA aE false i1_4' Z' Nx Qr) (u1:¬ 0<aZ:=by omega):wB data ag ah aZ aH aW az ao true false kA eS aE dM Z Nx Qr :=
 sK [.g,.g,.g,.g,.g,.g,.g,.b false,.g,.g,.cut 148 (wJ data ag ah aH aW az ao true false kA aE false aZ) [vK data ag ah aH aW az ao true false kA aE false P1,vJ data ag ah aH aW az ao true false kA aE false Pn]] (ai (zT u1) (ai (ai tt (ai (arf (wJ data ag ah aH aW az ao true false kA aE false aZ)) hL)) (ai (kz1 k1) (ai (kz1 kn) trivial))))
theorem xGQ (h1:lz Z 45 (zJ ar (Int.toNat (aZ-1)*3)) (qf (rcd nEB nFB nX))) (h2:lz Z 45 (zJ ar (Int.toNat aE*3)) (qf (rcd nY nZ nAB))) (h3:qm az (qf (rcd nEB nFB nX)::(qf (rcd nY nZ nAB))::ao) Z (iV nBB) Z) (hL:uV (some ar) ag ah aH aW az ao false bF kA aE false aZ Z P1 Pn) (k1:∀ i1_4' Z',P1 i1_4' Z'->wY (some ar) ag ah aH aW az ao false bF kA aE false i1_4' Z' Nx Qr) (kn:∀ i1_4' Z',Pn i1_4' Z'->wL (some ar) ag ah aH aW az ao false bF kA aE false i1_4' Z' Nx Qr) (u1:0<aZ:=by omega) (u2:I6 (aZ-1):=by omega) (u3:Ix (aZ-1) ag:=by omega) (u4:Ix aE ag:=by omega) (u5:nBB<0:=by omega):wB (some ar) ag ah aZ aH aW az ao false bF kA eS aE dM Z Nx Qr :=
 sK [.g,.g,.g,.g,.g,.g,.b true,.g,.g,.g,.g,.n (aZ-1),.i,.l (qf (rcd nEB nFB nX)),.g,.g,.i,.l (qf (rcd nY nZ nAB)),.c (iV nBB) Z,.b true,.g,.g,.cut 148 (wJ (some ar) ag ah aH aW az ao false bF kA aE false aZ) [vK (some ar) ag ah aH aW az ao false bF kA aE false P1,vJ (some ar) ag ah aH aW az ao false bF kA aE false Pn]] (an2 (zR u1) (w64 u2) (an6 u3 h1 u4 h2 h3 (zR u5) (ai (ai tt (ai (arf (wJ (some ar) ag ah aH aW az ao false bF kA aE false aZ)) hL)) (ai (kz1 k1) (ai (kz1 kn) trivial)))))
theorem xGP (h1:lz Z 45 (zJ ar (Int.toNat (aZ-1)*3)) (qf (rcd nEB nFB nX))) (h2:lz Z 45 (zJ ar (Int.toNat aE*3)) (qf (rcd nY nZ nAB))) (h3:qm az (qf (rcd nEB nFB nX)::(qf (rcd nY nZ nAB))::ao) Z (iV nBB) Z) (hL:uV (some ar) ag ah aH aW az ao false bF kA aE true aZ Z P1 Pn) (k1:∀ i1_4' Z',P1 i1_4' Z'->wY (some ar) ag ah aH aW az ao false bF kA aE true i1_4' Z' Nx Qr) (kn:∀ i1_4' Z',Pn i1_4' Z'->wL (some ar) ag ah aH aW az ao false bF kA aE true i1_4' Z' Nx Qr) (u1:0<aZ:=by omega) (u2:I6 (aZ-1):=by omega) (u3:Ix (aZ-1) ag:=by omega) (u4:Ix aE ag:=by omega) (u5:¬ nBB<0:=by omega):wB (some ar) ag ah aZ aH aW az ao false bF kA eS aE dM Z Nx Qr :=
 sK [.g,.g,.g,.g,.g,.g,.b true,.g,.g,.g,.g,.n (aZ-1),.i,.l (qf (rcd nEB nFB nX)),.g,.g,.i,.l (qf (rcd nY nZ nAB)),.c (iV nBB) Z,.b false,.g,.g,.cut 148 (wJ (some ar) ag ah aH aW az ao false bF kA aE true aZ) [vK (some ar) ag ah aH aW az ao false bF kA aE true P1,vJ (some ar) ag ah aH aW az ao false bF kA aE true Pn]] (an2 (zR u1) (w64 u2) (an6 u3 h1 u4 h2 h3 (zT u5) (ai (ai tt (ai (arf (wJ (some ar) ag ah aH aW az ao false bF kA aE true aZ)) hL)) (ai (kz1 k1) (ai (kz1 kn) trivial)))))
theorem xGO (hL:uV data ag ah aH aW az ao false bF kA aE false aZ Z P1 Pn) (k1:∀ i1_4' Z',P1 i1_4' Z'->wY data ag ah aH aW az ao false bF kA aE false i1_4' Z' Nx Qr) (kn:∀ i1_4' Z',Pn i1_4' Z'->wL data ag ah aH aW az ao false bF kA aE false i1_4' Z' Nx Qr) (u1:¬ 0<aZ:=by omega):wB data ag ah aZ aH aW az ao false bF kA eS aE dM Z Nx Qr :=
 sK [.g,.g,.g,.g,.g,.g,.b false,.g,.g,.cut 148 (wJ data ag ah aH aW az ao false bF kA aE false aZ) [vK data ag ah aH aW az ao false bF kA aE false P1,vJ data ag ah aH aW az ao false bF kA aE false Pn]] (ai (zT u1) (ai (ai tt (ai (arf (wJ data ag ah aH aW az ao false bF kA aE false aZ)) hL)) (ai (kz1 k1) (ai (kz1 kn) trivial))))
theorem xGN (nx:Nx ew aH aW eP eN Z):wY data ag ah aH aW az ao eP eN kA aE ff ew Z Nx Qr :=
 sF 0 (ew,aH,aW,eP,eN) [] (fun _ f=>f) nx
theorem xVF {Qn:Int->Int->Bool->St->Prop} (h1:qm 97 [.slice data ag ah,iV gh,iV nL,iV aW,.func (.func az) ⟨[]⟩ ⟨ao⟩] Z (.tuple ⟨[]⟩) ZS) (nx:Qn (nL+1) gd true ZS) (u1:kC<=kD:=by omega) (u2:I6 (nL+1):=by omega):zSJ data ag ah aW az ao bA nL kD kE kC true gh gd Z Qn :=
 kO 0 (nL+1,gd,true) [.g,.g,.b true,.g,.g,.g,.g,.g,.g,.c (.tuple ⟨[]⟩) ZS,.g,.n (nL+1),.g] (fun _ f=>an3 (yE u1) h1 (w64 u2) f) nx
theorem xVE {Qn:Int->Int->Bool->St->Prop} (h1:qm 97 [.slice data ag ah,iV gh,iV nL,iV aW,.func (.func az) ⟨[]⟩ ⟨ao⟩] Z (.tuple ⟨[]⟩) ZS) (nx:Qn (nL+1) gd false ZS) (u1:¬ kC<=kD:=by omega) (u2:I6 (nL+1):=by omega):zSJ data ag ah aW az ao bA nL kD kE kC true gh gd Z Qn :=
 kO 0 (nL+1,gd,false) [.g,.g,.b false,.g,.g,.g,.g,.g,.g,.c (.tuple ⟨[]⟩) ZS,.g,.n (nL+1),.g] (fun _ f=>an3 (yH u1) h1 (w64 u2) f) nx
theorem xVD {Qn:Int->Int->Bool->St->Prop} (h1:qm 97 [.slice data ag ah,iV (nL+1),iV gd,iV aW,.func (.func az) ⟨[]⟩ ⟨ao⟩] Z (.tuple ⟨[]⟩) ZS) (nx:Qn gh nL true ZS) (u1:kC<=kE:=by omega) (u2:I6 (nL+1):=by omega):zSJ data ag ah aW az ao bA nL kD kE kC false gh gd Z Qn :=
 kO 0 (gh,nL,true) [.g,.g,.b true,.g,.g,.g,.n (nL+1),.g,.g,.g,.c (.tuple ⟨[]⟩) ZS,.g,.g] (fun _ f=>an3 (yE u1) (w64 u2) h1 f) nx
theorem xVC {Qn:Int->Int->Bool->St->Prop} (h1:qm 97 [.slice data ag ah,iV (nL+1),iV gd,iV aW,.func (.func az) ⟨[]⟩ ⟨ao⟩] Z (.tuple ⟨[]⟩) ZS) (nx:Qn gh nL false ZS) (u1:¬ kC<=kE:=by omega) (u2:I6 (nL+1):=by omega):zSJ data ag ah aW az ao bA nL kD kE kC false gh gd Z Qn :=
 kO 0 (gh,nL,false) [.g,.g,.b false,.g,.g,.g,.n (nL+1),.g,.g,.g,.c (.tuple ⟨[]⟩) ZS,.g,.g] (fun _ f=>an3 (yH u1) (w64 u2) h1 f) nx
theorem xGM {Pn:Int->Int->Bool->St->Prop} (h1:qm 113 [.slice data ag ah,iV ew,iV aH,iV aE,.func (.func az) ⟨[]⟩ ⟨ao⟩] Z (.tuple ⟨[iV nL,.bool bA]⟩) ZPB) (h2:IntKind.wrap .i64 (Int.tdiv kA 8)=Int.tdiv kA 8) (hL:zSJ data ag ah aW az ao bA nL (nL-ew) (aH-nL) (Int.tdiv kA 8) true ew aH ZPB Pn) (kn:∀ i1_5' i2_5' t10_5' Z',Pn i1_5' i2_5' t10_5' Z'->zZW data ag ah aW az ao bA nL (nL-ew) (aH-nL) (Int.tdiv kA 8) true i1_5' i2_5' t10_5' Z' Nx Qr) (u1:I6 (nL-ew):=by omega) (u2:I6 (aH-nL):=by omega) (u3:(nL-ew)<(aH-nL):=by omega):wL data ag ah aH aW az ao eP eN kA aE ff ew Z Nx Qr :=
 let s1:=yWX data ag ah aW az ao bA nL (nL-ew) (aH-nL) (Int.tdiv kA 8) true ew aH;sK [.g,.g,.g,.g,.g,.c (.tuple ⟨[iV nL,.bool bA]⟩) ZPB,.g,.g,.g,.g,.g,.g,.g,.g,.g,.n (nL-ew),.g,.g,.n (aH-nL),.g,.g,.g,.n (Int.tdiv kA 8),.g,.g,.g,.b true,.cut 148 s1 [zZT data ag ah aW az ao bA nL (nL-ew) (aH-nL) (Int.tdiv kA 8) true Pn]] (an5 h1 (w64 u1) (w64 u2) h2 (zR u3) (ai (ai tt (ai (arf s1) hL)) (ai (kz3 kn) trivial)))
theorem xGL {Pn:Int->Int->Bool->St->Prop} (h1:qm 113 [.slice data ag ah,iV ew,iV aH,iV aE,.func (.func az) ⟨[]⟩ ⟨ao⟩] Z (.tuple ⟨[iV nL,.bool bA]⟩) ZPB) (h2:IntKind.wrap .i64 (Int.tdiv kA 8)=Int.tdiv kA 8) (hL:zSJ data ag ah aW az ao bA nL (nL-ew) (aH-nL) (Int.tdiv kA 8) false ew aH ZPB Pn) (kn:∀ i1_5' i2_5' t10_5' Z',Pn i1_5' i2_5' t10_5' Z'->zZW data ag ah aW az ao bA nL (nL-ew) (aH-nL) (Int.tdiv kA 8) false i1_5' i2_5' t10_5' Z' Nx Qr) (u1:I6 (nL-ew):=by omega) (u2:I6 (aH-nL):=by omega) (u3:¬ (nL-ew)<(aH-nL):=by omega):wL data ag ah aH aW az ao eP eN kA aE ff ew Z Nx Qr :=
 let s1:=yWX data ag ah aW az ao bA nL (nL-ew) (aH-nL) (Int.tdiv kA 8) false ew aH;sK [.g,.g,.g,.g,.g,.c (.tuple ⟨[iV nL,.bool bA]⟩) ZPB,.g,.g,.g,.g,.g,.g,.g,.g,.g,.n (nL-ew),.g,.g,.n (aH-nL),.g,.g,.g,.n (Int.tdiv kA 8),.g,.g,.g,.b false,.cut 148 s1 [zZT data ag ah aW az ao bA nL (nL-ew) (aH-nL) (Int.tdiv kA 8) false Pn]] (an5 h1 (w64 u1) (w64 u2) h2 (zT u3) (ai (ai tt (ai (arf s1) hL)) (ai (kz3 kn) trivial)))
theorem yFX (nx:Nx gh gd aW t10_5 bA Z):zZW data ag ah aW az ao bA nL kD kE kC fS gh gd t10_5 Z Nx Qr :=
 sF 0 (gh,gd,aW,t10_5,bA) [] (fun _ f=>f) nx
theorem xNO (hL:xNP data ag ah az ao a_1 b limit true true Z Pr) (kr:∀ Z',Pr Z'->yPB data ag ah az ao Z' Q):qg 97 [.slice data ag ah,iV a_1,iV b,iV limit,.func (.func az) ⟨[]⟩ ⟨ao⟩] Z Q :=
 zH [.g,.g,.lf 148 (zZS data ag ah az ao a_1 b limit true true) [zCI data ag ah az ao Pr]] (kd (ai (ai tt (ai (arf (zZS data ag ah az ao a_1 b limit true true)) hL)) (ai (kz0 kr) trivial)))
theorem yFZ (nx:Q (.tuple ⟨[]⟩) Z):yPB data ag ah az ao Z Q :=
 sK [] nx
theorem yNQ (h1:zAK .u64 ((x_l:Int))=z1) (h2:qm 98 [.int .u64 z1] Z (iV n2) Z) (h3:qm 97 [.slice x x_l x_c,iV 0,iV (x_l:Int),iV n2,.func (.func az) ⟨[]⟩ ⟨ao⟩] Z (.tuple ⟨[]⟩) Z3) (nx:Q (.tuple ⟨[]⟩) Z3):qg 78 [.slice x x_l x_c,.func (.func az) ⟨[]⟩ ⟨ao⟩] Z Q :=
 zH [.g,.g,.g,.g,.g,.g,.n z1,.c (iV n2) Z,.g,.c (.tuple ⟨[]⟩) Z3] (kd (an3 h1 h2 h3 nx))
end
section
open Go.Sort (swp PermIn SortedIn Below SWO)
theorem xS.perm {V:Rec->Prop} {d d':Array Rec} {a B:Nat} (h:xS V d) (hB:B<=d.size) (hp:PermIn a B d d'):xS V d':=by
 intro i hi;rw [hp.1] at hi;by_cases hr:a<=i/\i<B
 ·exact Go.Sort.permIn_all d d' a B V hB hp (fun j h1 h2=>h j (by omega)) i hr.1 hr.2
 ·rw [hp.2.1 i (by omega)];exact h i hi
section
variable {b c:Nat} {s:Option Nat} {g:FuncId} {gc:List Value} {lt:Rec->Rec->Bool} {V:Rec->Prop}
theorem wCH (hS:SWO lt) (hc:Cmp g gc lt V):∀ (n:Nat) (Z:St) (d:Array Rec) (a B:Nat) (limit:Int),B-a<=n->Dt Z b s d->xS V d->a<=B->B<=d.size->d.size<=60000->Below lt a B d->0<=limit/\limit<=100 ->
  ∃ d',PermIn a B d d'/\SortedIn lt a B d'/\uN 97 [.slice (some ⟨b,0,s⟩) d.size c,iV (a:Int),iV (B:Int),iV limit,.func (.func g) ⟨[]⟩ ⟨gc⟩] (.tuple ⟨[]⟩) Z b s d d':=by
 intro n;induction n using Nat.strongRecOn with
 | _ n ih =>
 intro Z d a B limit hn hd hv ha hB hsz hbel hlim;suffices hmain:zO Tryz.prog 97 [.slice (some ⟨b,0,s⟩) d.size c,iV (a:Int),iV (B:Int),iV limit,.func (.func g) ⟨[]⟩ ⟨gc⟩] Z.re fun v τ=>v=.tuple ⟨[]⟩/\∃ d',W Z τ b s d d'/\PermIn a B d d'/\SortedIn lt a B d' by
  obtain ⟨v,τ,hN,e,d',w,r1,r2⟩:=hmain
  exact ⟨d',r1,r2,uN.of hd ⟨v,τ,hN,e,w⟩⟩
 refine xNO (Pr:=fun τ=>∃ d',W Z τ b s d d'/\PermIn a B d d'/\SortedIn lt a B d') (yGA (Inv:=fun k i1 i2 i3 t10 t11 τ=>∃ (p q:Nat) (dk:Array Rec),i1=p/\i2=q/\k=q-p/\a<=p/\p<=q/\q<=B/\(0<=i3/\i3<=100)/\W Z τ b s d dk/\dk.size=d.size/\xS V dk/\Below lt p q dk/\(∀ R,PermIn p q dk R->SortedIn lt p q R->PermIn a B d R/\SortedIn lt a B R)) ?_ (B-a) _ _ _ _ _ Z.re ⟨a,B,d,rfl,rfl,rfl,Nat.le_refl _,ha,Nat.le_refl _,hlim,W.start hd,rfl,hv,hbel,fun R h1 h2=>⟨h1,h2⟩⟩) (fun τ h=>yFZ ⟨rfl,h⟩);rintro k i1 i2 i3 t10 t11 τ ⟨p,q,dk,rfl,rfl,hk,hap,hpq,hqB,hi3,w,hdk,hall,hbk,hJ⟩;suffices hgo:∀ (NX:Int->Int->Int->Bool->Bool->St->Prop) (QR:St->Prop),(∀ (p' q':Nat) (dk':Array Rec) (i3':Int) (t10' t11':Bool) (τ':St),q' - p' < k->a<=p'->p'<=q'->q'<=B->(0<=i3'/\i3'<=100)->W Z τ' b s d dk'->dk'.size=d.size->xS V dk'->Below lt p' q' dk'->(∀ R,PermIn p' q' dk' R->SortedIn lt p' q' R->PermIn a B d R/\SortedIn lt a B R)->NX (p':Int) (q':Int) i3' t10' t11' τ') ->
   (∀ (τ':St) (d':Array Rec),W Z τ' b s d d'->PermIn a B d d'/\SortedIn lt a B d'->QR τ')->zSK (some ⟨b,0,s⟩) d.size c g gc (p:Int) (q:Int) i3 t10 t11 τ NX QR from
  hgo _ _ (fun p' q' dk' i3' t10' t11' τ' h1 h2 h3 h4 h5 h6 h7 h8 h9 h10=>⟨q' - p',h1,p',q',dk',rfl,rfl,rfl,h2,h3,h4,h5,h6,h7,h8,h9,h10⟩) (fun τ' d' h1 h2=>⟨d',h1,h2.1,h2.2⟩)
 intro NX QR hNX hQR;have hqs:q<=dk.size:=by omega
 by_cases h12:q-p<=12
 ·have hins:=Go.Sort.insertionSort_holds (lt:=lt) hS dk p q hpq hqs;obtain ⟨τ',k1,w1⟩:=w.call (wAV (c:=c) (a:=p) (B:=q) w.dt hc hall hqs (by omega) (by omega));rw [hdk] at k1;exact xCL k1 (hQR _ _ w1 (hJ _ hins.1 hins.2)) (by omega) (by omega)
 by_cases h0:i3=0
 ·have hheap:=Go.Sort.heapSort_holds (lt:=lt) hS dk p q hpq hqs;obtain ⟨τ',k1,w1⟩:=w.call (xWM (c:=c) (a:=p) (B:=q) w.dt hc hall hpq hqs (by omega));rw [hdk] at k1;exact xVO k1 (hQR _ _ w1 (hJ _ hheap.1 hheap.2)) (by omega) (by omega) h0
 have k8:IntKind.wrap .i64 (Int.tdiv ((q:Int)-(p:Int)) 8)=Int.tdiv ((q:Int)-(p:Int)) 8:=by
  have e8:Int.tdiv ((q:Int)-(p:Int)) 8=(((q-p) / 8:Nat):Int):=by rw [Int.tdiv_eq_ediv_of_nonneg (by omega)];omega
  rw [<- vW,e8,zYE (by omega) (by omega)]
 have stepN:∀ (i3':Int) (t10 t11:Bool) (x:Nat) (h97:Bool) (d3:Array Rec) (τ3:St),(0<=i3'/\i3'<=100)->p<=x->x<q->W Z τ3 b s d d3->PermIn p q dk d3->xS V d3 ->
   wL (some ⟨b,0,s⟩) d.size c (q:Int) i3' g gc t10 t11 ((q:Int)-(p:Int)) (x:Int) h97 (p:Int) τ3 NX QR:=by
  intro i3' t10 t11 x h97 d3 τ3 hi3' hx1 hx2 w3 hp3 hall3
  have hd3:d3.size=d.size:=by rw [hp3.1,hdk]
  have hq3:q<=d3.size:=by omega
  have hb3:Below lt p q d3:=Go.Sort.Below.permA Go.Sort.permIn_all hqs hbk hp3
  have hJ3:∀ R,PermIn p q d3 R->SortedIn lt p q R->PermIn a B d R/\SortedIn lt a B R:=fun R h1 h2=>hJ R (Go.Sort.permIn_trans _ _ _ p q hp3 h1) h2
  obtain ⟨mid,hmid⟩:∃ mid,mid=(Go.Sort.partition lt d3 p q x).1:=⟨_,rfl⟩
  obtain ⟨ap,hap'⟩:∃ ap,ap=(Go.Sort.partition lt d3 p q x).2.1:=⟨_,rfl⟩
  obtain ⟨d4,hd4⟩:∃ d4,d4=(Go.Sort.partition lt d3 p q x).2.2:=⟨_,rfl⟩
  have hpt:Go.Sort.partition lt d3 p q x=(mid,ap,d4):=by rw [hmid,hap',hd4]
  obtain ⟨m1,m2,m3,m4,m5,m6,m7⟩:=Go.Sort.round_part hS (Go.Sort.partition_holds lt) hx1 hx2 hq3 hb3 hpt
  have hpc:=wAJ (c:=c) w3.dt hc hall3 hx1 hx2 hq3 (by omega)
  rw [<- hmid,<- hap',<- hd4] at hpc
  obtain ⟨τ4,kp,w4⟩:=w3.call hpc
  rw [hd3] at kp
  have hd4s:d4.size=d.size:=by omega
  have hall4:xS V d4:=by
   have:=(Go.Sort.partition_holds lt hS d3 p q x hx1 hx2 hq3).2.2.1;rw [hpt] at this;exact hall3.perm hq3 this
  by_cases hlr:mid-p<q-mid
  ·obtain ⟨L,hL1,hL2,hL3⟩:=ih (mid-p) (by omega) τ4 d4 p mid i3' (Nat.le_refl _) w4.dt hall4 m1 (by omega) (by omega) m4 hi3';obtain ⟨τ5,k5,w5⟩:=w4.call hL3;rw [hd4s] at k5;obtain ⟨n1,n2⟩:=m6 L hL1 hL2;have go:∀ t,NX ((mid:Int)+1) (q:Int) i3' t ap τ5:=fun t=>by
    rw [show (mid:Int)+1=((mid+1:Nat):Int) by omega];exact hNX _ _ L _ _ _ _ (by omega) (by omega) (by omega) hqB hi3' w5 (by rw [hL1.1,hd4s]) (hall4.perm (by omega) hL1) n1 (fun R h1 h2=>hJ3 R (n2 R h1 h2).1 (n2 R h1 h2).2)
   refine xGM kp k8 (Pn:=fun i1 i2 t τ'=>i1=(mid:Int)+1/\i2=(q:Int)/\τ'=τ5) ?_ (fun i1 i2 t τ' ⟨e1,e2,e3⟩=>by subst e1 e2 e3;exact yFX (go t)) (by omega);by_cases hT:Int.tdiv ((q:Int)-(p:Int)) 8<=(mid:Int)-(p:Int)
   ·exact xVF k5 ⟨rfl,rfl,rfl⟩ hT
   ·exact xVE k5 ⟨rfl,rfl,rfl⟩ hT
  ·obtain ⟨L,hL1,hL2,hL3⟩:=ih (q-(mid+1)) (by omega) τ4 d4 (mid+1) q i3' (Nat.le_refl _) w4.dt hall4 (by omega) (by omega) (by omega) m5 hi3';obtain ⟨τ5,k5,w5⟩:=w4.call hL3;rw [hd4s,show ((mid+1:Nat):Int)=(mid:Int)+1 by omega] at k5;obtain ⟨n1,n2⟩:=m7 L hL1 hL2;have go:∀ t,NX (p:Int) (mid:Int) i3' t ap τ5:=fun t=>hNX _ _ L _ _ _ _ (by omega) (by omega) (by omega) (by omega) hi3' w5 (by rw [hL1.1,hd4s]) (hall4.perm (by omega) hL1) n1 (fun R h1 h2=>hJ3 R (n2 R h1 h2).1 (n2 R h1 h2).2)
   refine xGL kp k8 (Pn:=fun i1 i2 t τ'=>i1=(p:Int)/\i2=(mid:Int)/\τ'=τ5) ?_ (fun i1 i2 t τ' ⟨e1,e2,e3⟩=>by subst e1 e2 e3;exact yFX (go t)) (by omega);by_cases hT:Int.tdiv ((q:Int)-(p:Int)) 8<=(q:Int)-(mid:Int)
   ·exact xVD k5 ⟨rfl,rfl,rfl⟩ hT
   ·exact xVC k5 ⟨rfl,rfl,rfl⟩ hT
 have stepE:∀ (i3':Int) (t10 t11:Bool) (x:Nat) (d3:Array Rec) (τ3:St),(0<=i3'/\i3'<=100)->p<=x->x<q->W Z τ3 b s d d3->PermIn p q dk d3->xS V d3->0<p->lt d3[p-1]! d3[x]! = false ->
   ∃ (me:Nat) (τ5:St),zD Tryz.prog 112 [.slice (some ⟨b,0,s⟩) d.size c,iV (p:Int),iV (q:Int),iV (x:Int),.func (.func g) ⟨[]⟩ ⟨gc⟩] τ3 (iV (me:Int)) τ5/\NX (me:Int) (q:Int) i3' t10 t11 τ5:=by
  intro i3' t10 t11 x d3 τ3 hi3' hx1 hx2 w3 hp3 hall3 hp0 hl
  have hd3:d3.size=d.size:=by rw [hp3.1,hdk]
  have hq3:q<=d3.size:=by omega
  have hb3:Below lt p q d3:=Go.Sort.Below.permA Go.Sort.permIn_all hqs hbk hp3
  have hJ3:∀ R,PermIn p q d3 R->SortedIn lt p q R->PermIn a B d R/\SortedIn lt a B R:=fun R h1 h2=>hJ R (Go.Sort.permIn_trans _ _ _ p q hp3 h1) h2
  obtain ⟨me,hme⟩:∃ me,me=(Go.Sort.partitionEqual lt d3 p q x).1:=⟨_,rfl⟩
  obtain ⟨de,hde⟩:∃ de,de=(Go.Sort.partitionEqual lt d3 p q x).2:=⟨_,rfl⟩
  have hpe:Go.Sort.partitionEqual lt d3 p q x=(me,de):=by rw [hme,hde]
  obtain ⟨e1,e2,e3,e4,e5⟩:=Go.Sort.round_eq hS (Go.Sort.partitionEqual_holds lt) hp0 hx1 hx2 hq3 hb3 hl hpe
  have hpc:=xON (c:=c) w3.dt hc hall3 hx1 hx2 hq3 (by omega)
  rw [<- hme,<- hde] at hpc
  obtain ⟨τ5,k5,w5⟩:=w3.call hpc
  rw [hd3] at k5
  have hge:∀ i,p<=i->i<q->lt d3[i]! d3[x]! = false:=fun i hi hi'=>by
   rcases hb3 with h0 | hB'
   ·omega
   ·exact hS.ntrans _ _ _ (hB' i hi hi') hl
  have hperm:=(Go.Sort.partitionEqual_holds lt hS d3 p q x hx1 hx2 hq3 hge).2.2.1
  rw [hpe] at hperm
  exact ⟨me,τ5,k5,hNX _ _ de _ _ _ _ (by omega) (by omega) e2 hqB hi3' w5 (by omega) (hall3.perm hq3 hperm) e4 (fun R h1 h2=>hJ3 R (e5 R h1 h2).1 (e5 R h1 h2).2)⟩
 have stepK:∀ (i3':Int) (t10 t11 h56:Bool) (x:Nat) (i14:Int) (d2:Array Rec) (τ2:St),(0<=i3'/\i3'<=100)->p<=x->x<q->W Z τ2 b s d d2->PermIn p q dk d2->xS V d2 ->
   wB (some ⟨b,0,s⟩) d.size c (p:Int) (q:Int) i3' g gc t10 t11 ((q:Int)-(p:Int)) h56 (x:Int) i14 τ2 NX QR:=by
  intro i3' t10 t11 h56 x i14 d2 τ2 hi3' hx1 hx2 w2 hp2 hall2
  have hd2:d2.size=d.size:=by rw [hp2.1,hdk]
  have hq2:q<=d2.size:=by omega
  have hb2:Below lt p q d2:=Go.Sort.Below.permA Go.Sort.permIn_all hqs hbk hp2
  have out1:∀ (t10 t11 h97:Bool) (i1:Int) (τ':St),NX i1 (q:Int) i3' t10 t11 τ'->wY (some ⟨b,0,s⟩) d.size c (q:Int) i3' g gc t10 t11 ((q:Int)-(p:Int)) (x:Int) h97 i1 τ' NX QR:=fun t10 t11 h97 i1 τ' h=>xGN h
  have eq:∀ (t10 t11:Bool) (d3:Array Rec) (τ3:St),W Z τ3 b s d d3->PermIn p q dk d3->xS V d3->0<p->lt d3[p-1]! d3[x]! = false->uV (some ⟨b,0,s⟩) d.size c (q:Int) i3' g gc t10 t11 ((q:Int)-(p:Int)) (x:Int) true (p:Int) τ3 (fun i1 τ'=>NX i1 (q:Int) i3' t10 t11 τ') (fun i1 τ'=>i1=(p:Int)/\τ'=τ3):=by
   intro t10 t11 d3 τ3 w3 hp3 hall3 hp0 hl;obtain ⟨me,τ5,k5,h5⟩:=stepE i3' t10 t11 x d3 τ3 hi3' hx1 hx2 w3 hp3 hall3 hp0 hl;exact xVH k5 h5
  have nq:∀ (t10 t11:Bool) (τ3:St),uV (some ⟨b,0,s⟩) d.size c (q:Int) i3' g gc t10 t11 ((q:Int)-(p:Int)) (x:Int) false (p:Int) τ3 (fun i1 τ'=>NX i1 (q:Int) i3' t10 t11 τ') (fun i1 τ'=>i1=(p:Int)/\τ'=τ3):=fun t10 t11 τ3=>xVG ⟨rfl,rfl⟩
  have outN:∀ (t10 t11 h97:Bool) (d3:Array Rec) (τ3:St),W Z τ3 b s d d3->PermIn p q dk d3->xS V d3->∀ (i1:Int) (τ':St),(i1=(p:Int)/\τ'=τ3)->wL (some ⟨b,0,s⟩) d.size c (q:Int) i3' g gc t10 t11 ((q:Int)-(p:Int)) (x:Int) h97 i1 τ' NX QR:=by
   rintro t10 t11 h97 d3 τ3 w3 hp3 hall3 i1 τ' ⟨rfl,rfl⟩;exact stepN i3' t10 t11 x h97 d3 _ hi3' hx1 hx2 w3 hp3 hall3
  have ldp:∀ (d3:Array Rec) (τ3:St),W Z τ3 b s d d3->d3.size=d.size->0<p->zB Tryz.prog τ3 45 (zJ ⟨b,0,s⟩ (Int.toNat ((p:Int)-1)*3))=some (zEN d3[p-1]!):=fun d3 τ3 w3 hd3 hp0=>w3.dt.ldN (by omega) (by omega)
  have ldx:∀ (d3:Array Rec) (τ3:St),W Z τ3 b s d d3->d3.size=d.size->zB Tryz.prog τ3 45 (zJ ⟨b,0,s⟩ (Int.toNat (x:Int)*3))=some (zEN d3[x]!):=fun d3 τ3 w3 hd3=>w3.dt.ldN rfl (by omega)
  by_cases hp0:0<p
  ·cases t10 with
   | false =>
    obtain ⟨m,cm,⟨g1,hl⟩ | ⟨g1,hl⟩⟩:=hc.at_ (τ:=τ2) hall2 (i:=p-1) (j:=x) (by omega) (by omega)
    ·exact xGQ (ldp _ _ w2 hd2 hp0) (ldx _ _ w2 hd2) cm (nq _ _ _) (fun i1 τ' h=>out1 _ _ _ _ _ h) (outN _ _ _ _ _ w2 hp2 hall2)
    ·exact xGP (ldp _ _ w2 hd2 hp0) (ldx _ _ w2 hd2) cm (eq _ _ _ _ w2 hp2 hall2 hp0 hl) (fun i1 τ' h=>out1 _ _ _ _ _ h) (outN _ _ _ _ _ w2 hp2 hall2)
   | true =>
   cases t11 with
   | false =>
    obtain ⟨m,cm,⟨g1,hl⟩ | ⟨g1,hl⟩⟩:=hc.at_ (τ:=τ2) hall2 (i:=p-1) (j:=x) (by omega) (by omega)
    ·exact xGT (ldp _ _ w2 hd2 hp0) (ldx _ _ w2 hd2) cm (nq _ _ _) (fun i1 τ' h=>out1 _ _ _ _ _ h) (outN _ _ _ _ _ w2 hp2 hall2)
    ·exact xGS (ldp _ _ w2 hd2 hp0) (ldx _ _ w2 hd2) cm (eq _ _ _ _ w2 hp2 hall2 hp0 hl) (fun i1 τ' h=>out1 _ _ _ _ _ h) (outN _ _ _ _ _ w2 hp2 hall2)
   | true =>
   by_cases h14:i14=1;rotate_left
   ·obtain ⟨m,cm,⟨g1,hl⟩ | ⟨g1,hl⟩⟩:=hc.at_ (τ:=τ2) hall2 (i:=p-1) (j:=x) (by omega) (by omega)
    ·exact xGW (ldp _ _ w2 hd2 hp0) (ldx _ _ w2 hd2) cm (nq _ _ _) (fun i1 τ' h=>out1 _ _ _ _ _ h) (outN _ _ _ _ _ w2 hp2 hall2)
    ·exact xGV (ldp _ _ w2 hd2 hp0) (ldx _ _ w2 hd2) cm (eq _ _ _ _ w2 hp2 hall2 hp0 hl) (fun i1 τ' h=>out1 _ _ _ _ _ h) (outN _ _ _ _ _ w2 hp2 hall2)
   have hpi:=Go.Sort.partialInsertionSort_holds (lt:=lt) hS d2 p q (by omega) hq2 hb2;have hpc:=xCZ (c:=c) (a:=p) (B:=q) w2.dt hc hall2 (by omega) hq2 (by omega);obtain ⟨R,hR⟩:∃ R,R=Go.Sort.partialInsertionSort lt d2 p q:=⟨_,rfl⟩;rw [<- hR] at hpi hpc;obtain ⟨τ3,k3,w3⟩:=w2.call hpc;rw [hd2] at k3;have hp3:=Go.Sort.permIn_trans _ _ _ p q hp2 hpi.1;have hall3:=hall2.perm hq2 hpi.1;have hd3:R.1.size=d.size:=by rw [hp3.1,hdk]
   cases hR2:R.2 with
   | true=>rw [hR2] at k3 hpi;exact yFY k3 (hQR _ _ w3 (hJ _ hp3 (hpi.2 rfl))) h14
   | false =>
    rw [hR2] at k3;obtain ⟨m,cm,⟨g1,hl⟩ | ⟨g1,hl⟩⟩:=hc.at_ (τ:=τ3) hall3 (i:=p-1) (j:=x) (by omega) (by omega)
    ·exact xGZ k3 (ldp _ _ w3 hd3 hp0) (ldx _ _ w3 hd3) cm (nq _ _ _) (fun i1 τ' h=>out1 _ _ _ _ _ h) (outN _ _ _ _ _ w3 hp3 hall3)
    ·exact xGY k3 (ldp _ _ w3 hd3 hp0) (ldx _ _ w3 hd3) cm (eq _ _ _ _ w3 hp3 hall3 hp0 hl) (fun i1 τ' h=>out1 _ _ _ _ _ h) (outN _ _ _ _ _ w3 hp3 hall3)
  ·cases t10 with
   | false=>exact xGO (nq _ _ _) (fun i1 τ' h=>out1 _ _ _ _ _ h) (outN _ _ _ _ _ w2 hp2 hall2)
   | true =>
   cases t11 with
   | false=>exact xGR (nq _ _ _) (fun i1 τ' h=>out1 _ _ _ _ _ h) (outN _ _ _ _ _ w2 hp2 hall2)
   | true =>
   by_cases h14:i14=1;rotate_left
   ·exact xGU (nq _ _ _) (fun i1 τ' h=>out1 _ _ _ _ _ h) (outN _ _ _ _ _ w2 hp2 hall2) h14
   have hpi:=Go.Sort.partialInsertionSort_holds (lt:=lt) hS d2 p q (by omega) hq2 hb2;have hpc:=xCZ (c:=c) (a:=p) (B:=q) w2.dt hc hall2 (by omega) hq2 (by omega);obtain ⟨R,hR⟩:∃ R,R=Go.Sort.partialInsertionSort lt d2 p q:=⟨_,rfl⟩;rw [<- hR] at hpi hpc;obtain ⟨τ3,k3,w3⟩:=w2.call hpc;rw [hd2] at k3;have hp3:=Go.Sort.permIn_trans _ _ _ p q hp2 hpi.1;have hall3:=hall2.perm hq2 hpi.1;cases hR2:R.2 with
   | true=>rw [hR2] at k3 hpi;exact yFY k3 (hQR _ _ w3 (hJ _ hp3 (hpi.2 rfl))) h14
   | false =>
    rw [hR2] at k3;exact xGX k3 (nq _ _ _) (fun i1 τ' h=>out1 _ _ _ _ _ h) (outN _ _ _ _ _ w3 hp3 hall3) h14
 have stepP:∀ (i3':Int) (t10 t11 h39:Bool) (d1:Array Rec) (τ1:St),(0<=i3'/\i3'<=100)->W Z τ1 b s d d1->PermIn p q dk d1->xS V d1 ->
   zJV (some ⟨b,0,s⟩) d.size c (p:Int) (q:Int) g gc t10 t11 ((q:Int)-(p:Int)) h39 i3' τ1 NX QR:=by
  intro i3' t10 t11 h39 d1 τ1 hi3' w1 hp1 hall1
  have hd1:d1.size=d.size:=by rw [hp1.1,hdk]
  have hq1:q<=d1.size:=by omega
  obtain ⟨x,kk,hx1,hx2,kc⟩:=xJL (c:=c) (a:=p) (B:=q) w1.dt hc hall1 (by omega) hq1 (by omega)
  rw [hd1] at kc
  have go:∀ (i13 i14:Int) (h56:Bool) (τ2:St),(∃ (x:Nat) (d2:Array Rec),i13=x/\p<=x/\x<q/\W Z τ2 b s d d2/\PermIn p q dk d2/\xS V d2)->wB (some ⟨b,0,s⟩) d.size c (p:Int) (q:Int) i3' g gc t10 t11 ((q:Int)-(p:Int)) h56 i13 i14 τ2 NX QR:=by
   rintro i13 i14 h56 τ2 ⟨x,d2,rfl,hx1,hx2,w2,hp2,hall2⟩;exact stepK _ _ _ _ _ _ _ _ hi3' hx1 hx2 w2 hp2 hall2
  by_cases hk2:kk=2
  ·have hrev:=Go.Sort.reverseRange_holds (α:=Rec) d1 p q hpq hq1;obtain ⟨τ2,k2,w2⟩:=w1.call (xZU (c:=c) (g:=g) (gc:=gc) (a:=p) (B:=q) w1.dt hall1 (by omega) hq1 (by omega));rw [hd1] at k2;exact xHB kc (Pn:=fun i13 i14 τ2=>∃ (x:Nat) (d2:Array Rec),i13=x/\p<=x/\x<q/\W Z τ2 b s d d2/\PermIn p q dk d2/\xS V d2) (xVJ k2 ⟨(q-1)-(x-p),_,by omega,by omega,by omega,w2,Go.Sort.permIn_trans _ _ _ p q hp1 hrev,hall1.perm hq1 hrev⟩ (by omega) (by omega) (by omega)) (fun i13 i14 τ2 h=>go _ _ _ _ h) hk2
  ·exact xHA kc (Pn:=fun i13 i14 τ2=>∃ (x:Nat) (d2:Array Rec),i13=x/\p<=x/\x<q/\W Z τ2 b s d d2/\PermIn p q dk d2/\xS V d2) (xVI ⟨x,d1,rfl,hx1,hx2,w1,hp1,hall1⟩) (fun i13 i14 τ2 h=>go _ _ _ _ h) hk2
 cases t10 with
 | true=>exact xVN (Pn:=fun i3' τ'=>(0<=i3'/\i3'<=100)/\∃ d1,W Z τ' b s d d1/\PermIn p q dk d1/\xS V d1) (xVK ⟨hi3,dk,w,Go.Sort.permIn_refl _ _ _,hall⟩) (fun i3' τ' ⟨h1,d1,h2,h3,h4⟩=>stepP _ _ _ _ _ _ h1 h2 h3 h4) (by omega) (by omega) h0
 | false =>
  obtain ⟨d1,hp1,hall1,hs1⟩:=xSD (c:=c) (g:=g) (gc:=gc) (a:=p) (B:=q) w.dt hpq hqs (by omega) hall;obtain ⟨τ1,k1,w1⟩:=w.call hs1;rw [hdk] at k1;exact xVM (Pn:=fun i3' τ'=>(0<=i3'/\i3'<=100)/\∃ d1,W Z τ' b s d d1/\PermIn p q dk d1/\xS V d1) (xVL k1 ⟨by omega,d1,w1,hp1,hall1⟩ (by omega)) (fun i3' τ' ⟨h1,d1,h2,h3,h4⟩=>stepP _ _ _ _ _ _ h1 h2 h3 h4) (by omega) (by omega) h0
end
end
section
open Go.Sort (swp PermIn SortedIn Below SWO)
section
variable {Z:St} {b c:Nat} {s:Option Nat} {d:Array Rec} {g:FuncId} {gc:List Value} {lt:Rec->Rec->Bool} {V:Rec->Prop}
theorem xUK (hS:SWO lt) (hc:Cmp g gc lt V) (hd:Dt Z b s d) (hv:xS V d) (hsz:d.size<=60000) :
  ∃ d',PermIn 0 d.size d d'/\SortedIn lt 0 d.size d'/\uN 78 [.slice (some ⟨b,0,s⟩) d.size c,.func (.func g) ⟨[]⟩ ⟨gc⟩] (.tuple ⟨[]⟩) Z b s d d':=by
 obtain ⟨n,n1,n2,n3⟩:=xBA (Z:=Z.re) (x:=d.size) (by omega);obtain ⟨d',p1,p2,p3⟩:=wCH (c:=c) (s:=s) hS hc d.size Z.re d 0 d.size (n:Int) (by omega) hd hv (Nat.zero_le _) (Nat.le_refl _) hsz (.inl rfl) (by omega);have w0:W Z Z.re b s d d:=W.start hd;obtain ⟨τ',k1,w1⟩:=w0.call p3;exact ⟨d',p1,p2,uN.of hd (yNQ (z1:=(d.size:Int)) (by rw [zYD];omega) n3 k1 ⟨rfl,w1⟩)⟩
theorem xQB:zD Tryz.prog 106 [.slice none 0 c,iV 0,iV 0,.func (.func g) ⟨[]⟩ ⟨gc⟩] Z (.tuple ⟨[]⟩) Z :=
 zO.pure (xDJ (P0:=fun τ=>τ=Z.re) (yAV (Inv:=fun k i τ=>i=1/\τ=Z.re) (fun k i τ h=>by obtain ⟨rfl,rfl⟩:=h;exact yQK rfl (by omega)) 0 _ Z.re ⟨rfl,rfl⟩) (fun τ h=>yAU ⟨rfl,by rw [h];exact Nat.le_refl _⟩) (by omega))
theorem xVP {n:Int}:zD Tryz.prog 97 [.slice none 0 c,iV 0,iV 0,iV n,.func (.func g) ⟨[]⟩ ⟨gc⟩] Z (.tuple ⟨[]⟩) Z :=
 zO.pure (xNO (Pr:=fun τ=>τ=Z.re) (yGA (Inv:=fun k i1 i2 i3 t10 t11 τ=>i1=0/\i2=0/\τ=Z.re) (fun k i1 i2 i3 t10 t11 τ h=>by obtain ⟨rfl,rfl,rfl⟩:=h;exact xCL xQB rfl (by omega) (by omega)) 0 _ _ _ _ _ Z.re ⟨rfl,rfl,rfl⟩) (fun τ h=>yFZ ⟨rfl,by rw [h];exact Nat.le_refl _⟩))
theorem xEY:zD Tryz.prog 78 [.slice none 0 c,.func (.func g) ⟨[]⟩ ⟨gc⟩] Z (.tuple ⟨[]⟩) Z:=by
 obtain ⟨n,n1,n2,n3⟩:=xBA (Z:=Z.re) (x:=0) (by omega);exact zO.pure (yNQ (x_l:=0) (z1:=((0:Nat):Int)) (by rw [zYD];rfl) n3 xVP ⟨rfl,Nat.le_refl _⟩)
end
end
abbrev zMY (s:Std):Value:=.agg ⟨zL s.free s.row s.used s.day⟩
structure StOk (s:Std):Prop where
 free:-1000000<=s.free/\s.free<=1000000
 row:0<=s.row/\s.row<=1000000
 used:-1000000<=s.used/\s.used<=1000000
 day:-1<=s.day/\s.day<=6
structure DtOk (d:Dty):Prop where
 day:0<=d.day/\d.day<=6
 on:0<=d.on/\d.on<=1439
section
variable {Z:St} {w:Wk} {p q:Option Addr} {l m c d:Nat} {k:Nat}
theorem yLX {p:Option Addr} {l c:Nat} {xs:List Int} {n:Int} (h:yC Z p l xs) (hl:l<=1073741824):zD Pg 58 [.slice p l c,iV n] Z (.bool (xs.contains n)) Z:=by
 have h1:=(SlV.re h).re;have e1:=h.len;have ci:∃ r:Int,zD Pg 83 [.slice p l c,iV n] Z.re (iV r) Z.re/\(0<=r↔n∈xs):=by
  have key:zO Pg 83 [.slice p l c,iV n] Z.re.re fun v s=>(∃ r:Int,v=iV r/\(0<=r↔n∈xs))/\s=Z.re.re:=by
   refine xQD (yQO (Inv:=fun k i τ=>τ=Z.re.re/\∃ j:Nat,i=j/\j+k=l/\n ∉ xs.take j) (Qr:=fun i τ=>τ=Z.re.re/\0<=i/\n∈xs) (Q0:=fun τ=>τ=Z.re.re/\n ∉ xs) ?_ l 0 _ ⟨rfl,0,rfl,by omega,by simp⟩) ?_ ?_
   ·rintro k i τ ⟨rfl,j,rfl,hk,he⟩;by_cases hj:j<l
    ·obtain ⟨a,rfl,x,hx,l1⟩:=xZ h1 hj;by_cases hxy:n=x
     ·exact xID l1 ⟨rfl,by omega,hxy ▸ List.mem_of_getElem? hx⟩ (by omega) (by omega) hxy
     ·exact xIC l1 ⟨k-1,by omega,rfl,j+1,by omega,by omega,by rw [wF hx,List.mem_append];simp;exact ⟨he,hxy⟩⟩ (by omega) (by omega) hxy (by omega)
    ·rw [List.take_of_length_le (by omega)] at he;exact xIB ⟨rfl,he⟩ (by omega)
   ·rintro i τ ⟨rfl,h2,hn⟩;exact yQM ⟨⟨i,rfl,by simp [h2,hn]⟩,rfl⟩
   ·rintro τ ⟨rfl,hn⟩;exact yQN ⟨⟨-1,rfl,by simp [hn]⟩,rfl⟩
  obtain ⟨v,s,h3,⟨r,rfl,h2⟩,rfl⟩:=key;exact ⟨r,zSI h3 (Nat.le_refl _) rfl,h2⟩
 obtain ⟨r,c1,c2⟩:=ci;by_cases hn:n∈xs
 ·rw [show xs.contains n=true by simp [hn]];exact (xXE c1 ⟨rfl,Nat.le_refl _⟩ (c2.2 hn)).pure
 ·rw [show xs.contains n=false by simp [hn]];exact (xXD c1 ⟨rfl,Nat.le_refl _⟩ (fun h=>hn (c2.1 h))).pure
theorem yJK {s:Std} {x:Dty} {e:Int} (hs:StOk s) (hx:DtOk x) (he:-1000000<=e/\e<=1000000):zD Pg 77 [zMY s,uK x,iV e] Z (zMY (take s x e)) Z:=by
 have h1:=hs.used;have h2:=hs.row;have h3:=hs.day;have h4:=hx.day;have h5:=hx.on;unfold take;by_cases e1:s.day=x.day
 ·rw [if_pos e1];exact (xLU ⟨rfl,by simp⟩ (by omega) (by omega) e1).pure
 ·rw [if_neg e1];by_cases e2:s.day=x.day-1
  ·rw [if_pos e2];exact (xLS ⟨rfl,by simp⟩ (by omega) (by omega) e1 (by omega) e2 (by omega) (by omega) (by omega)).pure
  ·rw [if_neg e2];exact (xLT ⟨rfl,by simp⟩ (by omega) (by omega) e1 (by omega) e2 (by omega) (by omega)).pure
theorem xZC (h:WkP Z 85 88 w p l q m) (hsh:zAD w) (hk:k<m) {s:Std} {x:Dty} (hs:StOk s) (hx:DtOk x) {n:Nat} (hn:n<5):zD Pg (92+n) [.agg ⟨wkc w.M p l c q m d w.rest w.run w.j⟩,iV (k:Int),uK x,zMY s] Z (.bool (holds w n (drQ w k) x s)) Z:=by
 have h1:=hs.free;have h4:=hx.day;have h5:=hx.on;have L:Le Z (((Z.re.row (wkc w.M p l c q m d w.rest w.run w.j) 6).row (zG x.day x.on x.lo x.hi x.route) 5).row (zL s.free s.row s.used s.day) 4):=(((le0 Z).trans (Le.row _ _ _)).trans (Le.row _ _ _)).trans (Le.row _ _ _);obtain ⟨a,rfl,p',l',c',r',n',d',s',j',e',_,hkn,hlv,_,hf⟩:=(h.le L).vld yIT zFF hk;have hm:=h.len.2;have hmem:drQ w k∈w.L:=by
  unfold drQ;rw [List.getD_eq_getElem?_getD,List.getElem?_eq_getElem (by omega)];exact List.getElem_mem _
 have hsx:=hsh _ hmem;match n,hn with
 | 0,_=>exact (xGC (hf 0 _ rfl 26 yT) (yLX hkn (by have:=hkn.len;omega)) ⟨rfl,Nat.le_refl _⟩ (by omega)).pure
 | 1,_ =>
  have cc:=yLX (c:=d') (n:=x.day) hlv (by have:=hlv.len;omega);show zD Pg 93 _ Z (.bool (!(drQ w k).qa.contains x.day)) Z;cases hc:(drQ w k).qa.contains x.day with
  | true=>rw [hc] at cc;exact (xNG (hf 1 _ rfl 26 yT) cc ⟨rfl,Nat.le_refl _⟩ (by omega)).pure
  | false=>rw [hc] at cc;exact (xNF (hf 1 _ rfl 26 yT) cc ⟨rfl,Nat.le_refl _⟩ (by omega)).pure
 | 2,_ =>
  show zD Pg 94 _ Z (.bool (decide (s.day≠x.day))) Z;by_cases e:s.day=x.day
  ·rw [decide_eq_false (by simp [e])];exact (yWR ⟨rfl,Nat.le_refl _⟩ e).pure
  ·rw [decide_eq_true e];exact (yWS ⟨rfl,Nat.le_refl _⟩ e).pure
 | 3,_ =>
  show zD Pg 95 _ Z (.bool (decide (s.day=x.day) || decide (w.rest<=x.day*1440+x.on-s.free))) Z;by_cases e:s.day=x.day
  ·rw [decide_eq_true e];exact (yWV ⟨rfl,Nat.le_refl _⟩ e).pure
  ·rw [decide_eq_false e,Bool.false_or];by_cases e2:w.rest<=x.day*1440+x.on-s.free
   ·rw [decide_eq_true e2];exact (yWU ⟨rfl,Nat.le_refl _⟩ e (by omega) (by omega) (by omega) e2).pure
   ·rw [decide_eq_false e2];exact (yWT ⟨rfl,Nat.le_refl _⟩ e (by omega) (by omega) (by omega) e2).pure
 | 4,_ =>
  show zD Pg 96 _ Z (.bool (decide (s.day=x.day) || decide ((take s x x.on).row<=w.run))) Z;by_cases e:s.day=x.day
  ·rw [decide_eq_true e];exact (xGF ⟨rfl,Nat.le_refl _⟩ e).pure
  ·rw [decide_eq_false e,Bool.false_or];have ct:=yJK (Z:=((Z.re.row (wkc w.M p l c (some a) m d w.rest w.run w.j) 6).row (zG x.day x.on x.lo x.hi x.route) 5).row (zL s.free s.row s.used s.day) 4) (e:=x.on) hs hx (by omega);by_cases e2:(take s x x.on).row<=w.run
   ·rw [decide_eq_true e2];exact (xGE ct ⟨rfl,Nat.le_refl _⟩ e e2).pure
   ·rw [decide_eq_false e2];exact (xGD ct ⟨rfl,Nat.le_refl _⟩ e e2).pure
end
section
open Go.Sort (swp PermIn SortedIn Below SWO)
def bLt (x y:Rec):Prop:=x.a<y.a\/x.a=y.a/\(x.k<y.k\/x.k=y.k/\x.b<y.b)
instance (x y:Rec):Decidable (bLt x y):=by unfold bLt;infer_instance
def ySV (x y:Rec):Bool:=decide (bLt x y)
theorem wCE:SWO ySV:=by
 refine ⟨fun x=>?_,fun x y z h1 h2=>?_,fun x y z h1 h2=>?_⟩
 ·simp only [ySV,decide_eq_false_iff_not];unfold bLt;omega
 ·simp only [ySV,decide_eq_true_eq] at *;unfold bLt at *;omega
 ·simp only [ySV,decide_eq_false_iff_not] at *;unfold bLt at *;omega
def BOk (x:Rec):Prop:=0<=x.k/\x.k<=5/\0<=x.a/\x.a<=100/\0<=x.b/\x.b<=100
section
variable {Z:St}
theorem xXH {x y z:Int} {b c:Nat} (o:Own Z b [iV x,iV y,iV z] 1):zD Tryz.prog 80 [.slice (some ⟨b,0,none⟩) 3 c] Z (iV (if x=0 then (if y=0 then z else y) else x)) Z:=by
 have h0:=o.re;have l0:=h0.ldI (P:=Tryz.prog) (t:=3) (i:=0) (v:=iV x) zU rfl;have l1:=h0.ldI (P:=Tryz.prog) (t:=3) (i:=1) (v:=iV y) zU rfl;have l2:=h0.ldI (P:=Tryz.prog) (t:=3) (i:=2) (v:=iV z) zU rfl;refine zO.pure (xSA (Pr:=fun n τ=>τ=Z.re/\n=if x=0 then (if y=0 then z else y) else x) (P0:=fun τ=>τ=Z.re/\x=0/\y=0/\z=0)
  (ySH (Inv:=fun k i τ=>τ=Z.re/\((i=0/\k=3)\/(i=1/\k=2/\x=0)\/(i=2/\k=1/\x=0/\y=0)\/(i=3/\x=0/\y=0/\z=0))) ?_ 3 0 Z.re ⟨rfl,.inl ⟨rfl,rfl⟩⟩)
  (fun n τ h=>ySF ⟨by rw [h.2],by rw [h.1];exact Nat.le_refl _⟩) (fun τ h=>ySG ⟨by simp [h.2.1,h.2.2.1,h.2.2.2],by rw [h.1];exact Nat.le_refl _⟩))
 rintro k i τ ⟨rfl,⟨rfl,rfl⟩ | ⟨rfl,rfl,hx⟩ | ⟨rfl,rfl,hx,hy⟩ | ⟨rfl,hx,hy,hz⟩⟩
 ·by_cases hx:x=0
  ·exact zTR l0 ⟨2,by omega,rfl,.inr (.inl ⟨rfl,rfl,hx⟩)⟩
  ·exact zTS l0 ⟨rfl,by rw [if_neg hx]⟩
 ·by_cases hy:y=0
  ·exact zTR l1 ⟨1,by omega,rfl,.inr (.inr (.inl ⟨rfl,rfl,hx,hy⟩))⟩
  ·exact zTS l1 ⟨rfl,by rw [if_pos hx,if_neg hy]⟩
 ·by_cases hz:z=0
  ·exact zTR l2 ⟨0,by omega,rfl,.inr (.inr (.inr ⟨rfl,hx,hy,hz⟩))⟩
  ·exact zTS l2 ⟨rfl,by rw [if_pos hx,if_pos hy]⟩
 ·exact xJH ⟨rfl,hx,hy,hz⟩
theorem wDH:Cmp 79 [] ySV BOk:=by
 intro τ x y hx hy;unfold BOk at hx hy;refine ⟨if x.a-y.a=0 then (if x.k-y.k=0 then x.b-y.b else x.k-y.k) else x.a-y.a, ?_, ?_⟩
 ·have N:New τ.re (((τ.re.row (zBE x) 3).row (zBE y) 3).row [iV (x.a-y.a),iV (x.k-y.k),iV (x.b-y.b)] 1):=((New.row _ _ _).row').row';exact zO.pure (xXL (xXH (zC _ _ _)) ⟨rfl,N.lw⟩ (by omega) (by omega) (by omega) (by omega) (by omega))
 ·simp only [ySV,decide_eq_true_eq];unfold bLt;by_cases h:x.a-y.a=0
  ·rw [if_pos h];by_cases h2:x.k-y.k=0
   ·rw [if_pos h2];omega
   ·rw [if_neg h2];omega
  ·rw [if_neg h];omega
end
end
abbrev zFD (s:Std):List Value:=zL s.free s.row s.used s.day
def stL (f:Nat->Std):List Value:=zFD (f 0)++(zFD (f 1)++(zFD (f 2)++(zFD (f 3)++(zFD (f 4)++zFD (f 5)))))
def zFB:List Value:=[yA 0,yA 0,yA 0,yA 0,yA 0,yA 0,yA 0,yA 0,yA 0,yA 0,yA 0,yA 0,yA 0,yA 0,yA 0,yA 0,yA 0,yA 0,yA 0,yA 0,yA 0,yA 0,yA 0,yA 0]
def zWS:Std:=⟨0,0,0,0⟩
theorem yET:zFB=stL fun _=>zWS:=rfl
section
variable {Z:St} {b n:Nat} {f:Nat->Std}
theorem yJL (o:Own Z b (stL f) n) {i:Nat} (hi:i<6):zB Tryz.prog Z 107 ⟨b,0+Int.toNat (i:Int)*4,none⟩=some (zMY (f i)):=by
 rw [Int.toNat_natCast];match i,hi with
 | 0,_=>exact o.ldN (k:=0) vP xG (ds:=zFD (f 0)) rfl rfl (by simp [stL])
 | 1,_=>exact o.ldN (k:=4) vP xG (ds:=zFD (f 1)) rfl rfl (by simp [stL])
 | 2,_=>exact o.ldN (k:=8) vP xG (ds:=zFD (f 2)) rfl rfl (by simp [stL])
 | 3,_=>exact o.ldN (k:=12) vP xG (ds:=zFD (f 3)) rfl rfl (by simp [stL])
 | 4,_=>exact o.ldN (k:=16) vP xG (ds:=zFD (f 4)) rfl rfl (by simp [stL])
 | 5,_=>exact o.ldN (k:=20) vP xG (ds:=zFD (f 5)) rfl rfl (by simp [stL])
theorem xLV (o:Own Z b (stL f) n) {i:Nat} (hi:i<6):zB Tryz.prog Z 3 ⟨b,0+Int.toNat (i:Int)*4+2,none⟩=some (yA (f i).used):=by
 rw [Int.toNat_natCast];match i,hi with
 | 0,_=>exact o.ld (k:=2) rfl zU rfl
 | 1,_=>exact o.ld (k:=6) rfl zU rfl
 | 2,_=>exact o.ld (k:=10) rfl zU rfl
 | 3,_=>exact o.ld (k:=14) rfl zU rfl
 | 4,_=>exact o.ld (k:=18) rfl zU rfl
 | 5,_=>exact o.ld (k:=22) rfl zU rfl
theorem uE (o:Own Z b (stL f) n):zB Tryz.prog Z 109 ⟨b,0,none⟩=some (.agg ⟨stL f⟩):=o.ldN (k:=0) xTE yJQ (ds:=stL f) rfl rfl (by simp [stL])
theorem yUQ (o:Own Z b (stL f) n) {i:Nat} (hi:i<6) (s:Std):zQ Tryz.prog (evL [.pointer (some ⟨b,0+Int.toNat (i:Int)*4,none⟩),zMY s]) Z (.store 107 (.tmp 0) (.tmp 1))=some (undef,Z.own b (stL (upd f i s)) n):=by
 rw [Int.toNat_natCast];match i,hi with
 | 0,_=>exact o.store (k:=0) (vs:=zFD s) rfl xG rfl (by simp [stL]) rfl
 | 1,_=>exact o.store (k:=4) (vs:=zFD s) rfl xG rfl (by simp [stL]) rfl
 | 2,_=>exact o.store (k:=8) (vs:=zFD s) rfl xG rfl (by simp [stL]) rfl
 | 3,_=>exact o.store (k:=12) (vs:=zFD s) rfl xG rfl (by simp [stL]) rfl
 | 4,_=>exact o.store (k:=16) (vs:=zFD s) rfl xG rfl (by simp [stL]) rfl
 | 5,_=>exact o.store (k:=20) (vs:=zFD s) rfl xG rfl (by simp [stL]) rfl
theorem zXA (o:Own Z b (stL f) n) (g:Nat->Std):zQ Tryz.prog (evL [.pointer (some ⟨b,0,none⟩),.agg ⟨stL g⟩]) Z (.store 109 (.tmp 0) (.tmp 1))=some (undef,Z.own b (stL g) n) :=
 o.store (k:=0) (vs:=stL g) rfl yJQ rfl (by simp [stL]) rfl
def st0 (w:Wk) (j:Nat):Nat->Std:=fun k=>if k<j then before (drQ w k) else zWS
theorem wCF {w:Wk} {j:Nat}:upd (st0 w j) j (before (drQ w j))=st0 w (j+1):=by
 funext k;unfold upd st0;by_cases e:k=j
 ·subst e;rw [if_pos rfl,if_pos (by omega)]
 ·rw [if_neg e];by_cases h:k<j
  ·rw [if_pos h,if_pos (by omega)]
  ·rw [if_neg h,if_neg (by omega)]
variable {w:Wk} {p q:Option Addr} {l m c d:Nat}
theorem yEZ (h:WkP Z 85 88 w p l q m) (hm:m<=6):zD Tryz.prog 74 [.agg ⟨wkc w.M p l c q m d w.rest w.run w.j⟩] Z (.agg ⟨stL (st0 w m)⟩) Z:=by
 have hmm:=h.len.2;obtain ⟨Z1,hZ1⟩:∃ Z1,Z1=(Z.re.row (wkc w.M p l c q m d w.rest w.run w.j) 6).row zFB 4:=⟨_,rfl⟩;have N1:New Z.re Z1:=by rw [hZ1];exact (New.row _ _ _).row'
 have L1:Le Z Z1:=(le0 Z).trans N1.le;have o1:Own Z1 (Z.y+1) (stL (st0 w 0)) 4:=by
  rw [hZ1];exact zC (Z.re.row (wkc w.M p l c q m d w.rest w.run w.j) 6) zFB 4
 have hr:zW RD (.agg ⟨stL (st0 w m)⟩)=true:=rfl;refine zO.pure (hv:=hr) (yUN (yDU (Inv:=fun k i τ=>New Z.re τ/\∃ j:Nat,i=j/\j+k=m/\Own τ (Z.y+1) (stL (st0 w j)) 4) (Q0:=fun τ=>New Z.re τ/\Own τ (Z.y+1) (stL (st0 w m)) 4) ?_ m 0 Z1 ⟨N1,0,rfl,by omega,o1⟩ |> fun h=>by rw [hZ1] at h;exact h) ?_)
 ·rintro k i τ ⟨hN,j,rfl,hk,o⟩;by_cases hj:j<m;rotate_left
  ·have:j=m:=by omega
   subst this;exact yNG ⟨hN,o⟩ (by omega)
  have LL:=(le0 Z).trans hN.le;obtain ⟨a,rfl,p',l',c',r',n',d',s',j',e',lx,_,_,_,_⟩:=(h.le LL).vld yIT zFF hj;have hN2:New Z.re ((τ.row (zN none 0 0 none 0 0 none 0 0 0 0 0) 6).own τ.y (zN p' l' c' r' n' d' s' j' e' (drQ w j).off (drQ w j).row (drQ w j).used) 6):=hN.row'.own hN.le.y;have o2:Own ((τ.row (zN none 0 0 none 0 0 none 0 0 0 0 0) 6).own τ.y (zN p' l' c' r' n' d' s' j' e' (drQ w j).off (drQ w j).row (drQ w j).used) 6) (Z.y+1) (stL (st0 w j)) 4:=o.row.own (by have:=o.lt;omega);refine yNH lx (yUQ o2 (i:=j) (by omega) (before (drQ w j))) ⟨k-1,by omega,hN2.own (by show Z.y<=Z.y+1;omega),j+1,by omega,by omega, ?_⟩ (by omega) (by omega) (by omega) (by omega);rw [<- wCF];exact o2.put
 ·rintro τ ⟨hN,o⟩;exact yDT (uE o) (zXA o _) (uE o.put) ⟨rfl,(hN.own (by show Z.y<=Z.y+1;omega)).lw⟩
theorem zVI:∃ b Z',zD Tryz.prog 76 [] Z (.slice (some ⟨b,0,none⟩) 5 5) Z'/\New Z Z'/\Z.y<=b/\Row Z' ⟨b,0,none⟩ [.int .u8 0,.func (.func 92) ⟨[]⟩ ⟨[]⟩,.int .u8 1,.func (.func 93) ⟨[]⟩ ⟨[]⟩,.int .u8 2,.func (.func 94) ⟨[]⟩ ⟨[]⟩,.int .u8 3,.func (.func 95) ⟨[]⟩ ⟨[]⟩,.int .u8 4,.func (.func 96) ⟨[]⟩ ⟨[]⟩]:=by
 obtain ⟨v,Z',h1,h2,b,rfl,h3,h4⟩:=zO.new (Z:=Z) (P:=Tryz.prog) (f:=76) (args:=[]) (Q:=fun v s=>∃ b,v=.slice (some ⟨b,0,none⟩) 5 5/\Z.y<=b/\Row s ⟨b,0,none⟩ [.int .u8 0,.func (.func 92) ⟨[]⟩ ⟨[]⟩,.int .u8 1,.func (.func 93) ⟨[]⟩ ⟨[]⟩,.int .u8 2,.func (.func 94) ⟨[]⟩ ⟨[]⟩,.int .u8 3,.func (.func 95) ⟨[]⟩ ⟨[]⟩,.int .u8 4,.func (.func 96) ⟨[]⟩ ⟨[]⟩])
  (yKI ⟨New.row _ _ _,Z.re.y,rfl,Nat.le_refl _,xH _ _ _⟩) (by rintro v s s' ⟨b,rfl,g1,g2⟩ hle;exact ⟨b,rfl,g1,g2.le hle⟩) (by rintro v s hr ⟨b,rfl,_⟩;cases hr)
 exact ⟨b,Z',h1,h2,h3,h4⟩
end
section
noncomputable section
variable (BA BB:Nat) (s1 slices:oAa) (o:lVa) (dQ aX eE bh:Nat) (aF aY:Int) (s2 fz:oAa) (qA:(Option Addr)->Nat->Nat->Int->St->Prop) (q7:Int->Int->St->Prop) (qC:(Option Addr)->Nat->Nat->St->Prop) (ee fP eF fU:Nat) (q0:Int->St->Prop) (bu aA eU:Int) (q4:St->Prop) (Z:St) (Nx Qr:Int->St->Prop) (Q:vPa) (qE:(Option Addr)->Nat->Nat->Int->St->Prop) (q8:Int->Int->St->Prop) (Q0:St->Prop) (Q2:(Option Addr)->Nat->Nat->St->Prop) (q9:Int->St->Prop)
def yRD:Code:=(Code.part [1,0,1,0,0] (qh 102))
def zRC:lNa:=[(2,pt BA 0),(4,pt BB 0),(7,qf o),(8,iV aF)]
def xIN:Alt:=⟨Int,.normal,fun t=>zRC BA BB o t,fun t=>[],fun t Z=>q0 t Z⟩
def yBJ (BA BB:Nat) (o:lVa):lNa:=[(2,pt BA 0),(4,pt BB 0)]
def zOV:Alt:=⟨Unit,(.exit 0),fun t=>yBJ BA BB o,fun t=>[],fun t Z=>q4 Z⟩
def yBL:Prop:=qi qj none yRD 20 (zRC BA BB o aF) [] [xIN BA BB o Nx,zOV BA BB o Q0] Z
def yRE:Prop:=qk qj none yRD 20 (zRC BA BB o aF) [] [zOV BA BB o Q0] Z
def yBK:Prop:=kZ qj (qh 102) [1,0,1,0] (ql 102 Q) (.exit 0) 20 (yBJ BA BB o) Z
def yCE:Code:=(Code.part [1,0,1,0,0] (qh 119))
def zEH:lNa:=[(0,.slice s1 dQ eE),(1,.slice s2 ee eF),(9,.slice s1 dQ eE),(10,iV (dQ:Int)),(11,iV aA)]
def ySE:Alt:=⟨Int,.normal,fun t=>zEH s1 dQ eE s2 ee eF t,fun t=>[],fun t Z=>q0 t Z⟩
def zRG (s1:oAa) (dQ eE:Nat) (s2:oAa) (ee eF:Nat) (bu:Int):lNa:=[(4,iV bu)]
def zHY:Alt:=⟨Int,.ret,fun t=>zRG s1 dQ eE s2 ee eF t,fun t=>[],fun t Z=>q0 t Z⟩
def zRH:lNa:=[(0,.slice s1 dQ eE),(1,.slice s2 ee eF)]
def zHZ:Alt:=⟨Unit,(.exit 0),fun t=>zRH s1 dQ eE s2 ee eF,fun t=>[],fun t Z=>q4 Z⟩
def zIA:Prop:=qi qj none yCE 36 (zEH s1 dQ eE s2 ee eF aA) [] [ySE s1 dQ eE s2 ee eF Nx,zHY s1 dQ eE s2 ee eF Qr,zHZ s1 dQ eE s2 ee eF Q0] Z
def yCF:Prop:=qk qj none yCE 36 (zEH s1 dQ eE s2 ee eF aA) [] [zHY s1 dQ eE s2 ee eF Qr,zHZ s1 dQ eE s2 ee eF Q0] Z
def zRI:Prop:=kZ qj (qh 119) [1,0,1,0] (ql 119 Q) .ret 36 (zRG s1 dQ eE s2 ee eF bu) Z
def zRJ:Prop:=kZ qj (qh 119) [1,0,1,0] (ql 119 Q) (.exit 0) 36 (zRH s1 dQ eE s2 ee eF) Z
def yRZ:Code:=(Code.part [1,1,0,1,0,0] (qh 104))
def zKU:lNa:=[(0,.slice slices aX bh),(3,iV aY),(9,.slice slices aX bh),(10,iV (aX:Int)),(11,iV aA)]
def xJF:Alt:=⟨Int × Int,.normal,fun t=>zKU slices aX bh t.1 t.2,fun t=>[],fun t Z=>q7 t.1 t.2 Z⟩
def yBZ:lNa:=[(0,.slice slices aX bh),(3,iV aY)]
def zOZ:Alt:=⟨Int,(.exit 0),fun t=>yBZ slices aX bh t,fun t=>[],fun t Z=>q0 t Z⟩
def yCD:Prop:=qi qj none yRZ 36 (zKU slices aX bh aY aA) [] [xJF slices aX bh q8,zOZ slices aX bh q9] Z
def ySB:Prop:=qk qj none yRZ 36 (zKU slices aX bh aY aA) [] [zOZ slices aX bh q9] Z
def yCB:Prop:=kZ qj (qh 104) [1,1,0,1,0] (ql 104 Q) (.exit 0) 36 (yBZ slices aX bh aY) Z
def yRY:Code:=(Code.part [1,1,1,1,0,1,0,0] (qh 104))
def zKT:lNa:=[(6,.slice fz fP fU),(25,.slice slices aX bh),(26,iV (aX:Int)),(27,iV eU)]
def xJE:Alt:=⟨(Option Addr) × Nat × Nat × Int,.normal,fun t=>zKT slices aX bh t.1 t.2.1 t.2.2.1 t.2.2.2,fun t=>[],fun t Z=>qA t.1 t.2.1 t.2.2.1 t.2.2.2 Z⟩
def yBY (slices:oAa) (aX bh:Nat) (fz:oAa) (fP fU:Nat):lNa:=[(6,.slice fz fP fU)]
def zOY:Alt:=⟨(Option Addr) × Nat × Nat,(.exit 2),fun t=>yBY slices aX bh t.1 t.2.1 t.2.2,fun t=>[],fun t Z=>qC t.1 t.2.1 t.2.2 Z⟩
def yCC:Prop:=qi qj none yRY 36 (zKT slices aX bh fz fP fU eU) [] [xJE slices aX bh qE,zOY slices aX bh Q2] Z
def ySA:Prop:=qk qj none yRY 36 (zKT slices aX bh fz fP fU eU) [] [zOY slices aX bh Q2] Z
def yCA:Prop:=kZ qj (qh 104) [1,1,1,1,0,1,0] (ql 104 Q) (.exit 2) 36 (yBY slices aX bh fz fP fU) Z
end
variable {BA BB l1 c1 l2 c2 dQ eE ee eF aX bh lA cE fP fU lI cJ lE cB lL cAB s_l s_c l3 c3 l5 c5 l6 c6:Nat} {o g_0 cs1838 cs1840:lVa} {Inv:Nat->Int->St->Prop} {Q0 P0:St->Prop} {aF nG nF n3 aA nA bu x y aY eU n n1 n2:Int} {ZY Z ZP ZBH Z4:St} {Nx Qr Pr:Int->St->Prop} {Q:vPa} {q1 q2 s1 s2 slices qD fz qI qB qY s q3 q5 q6:oAa} {s1_a s2_a gB:Addr} {Q2 P2:(Option Addr)->Nat->Nat->St->Prop}
theorem yRC (hb:∀ k aF Z,Inv k aF Z->yBL BA BB o aF Z (NX1 Inv k) Q0):∀ k aF Z,Inv k aF Z->yRE BA BB o aF Z Q0 :=
 xE (ai (xV 0) trivial) hb
theorem xIM (h1:zAI Pg 98 (qf o) (iV aF)=some (iV nG)) (h2:lz Z 3 ⟨BA,0+Int.toNat aF*1,none⟩ (iV nF)) (h3:qo (evL [pt BA (0+Int.toNat aF*1),iV (nF+nG)]) Z (.store 3 (.tmp 0) (.tmp 1))=some (undef,ZY)) (nx:Nx (aF+1) ZY) (u1:aF<6:=by omega) (u2:Ix aF 6:=by omega) (u3:I6 (nF+nG):=by omega) (u4:I6 (aF+1):=by omega):yBL BA BB o aF Z Nx Q0 :=
 kO 0 (aF+1) [.b true,.g,.v (iV nG),.g,.g,.g,.i,.l (iV nF),.g,.n (nF+nG),.i,.e undef ZY,.n (aF+1),.g] (fun _ f=>an2 (zR u1) h1 (an6 u2 h2 (w64 u3) u2 h3 (w64 u4) f)) nx
theorem xIL (nx:Q0 Z) (u1:¬ aF<6:=by omega):yBL BA BB o aF Z Nx Q0 :=
 kO 1 () [.b false] (fun _ f=>ai (zT u1) f) nx
theorem xQZ:let y0:=((Z.row g_0 1).row o 1).row (zK 0 0 0 0 0 0) 1;∀ (h1:lz y0 98 ⟨(Z.y+1),0,none⟩ (qf o)) (hL:yRE Z.y (Z.y+2) o 0 y0 P0) (k0:∀ Z',P0 Z'->yBK Z.y (Z.y+2) o Z' Q),qg 102 [qf g_0,qf o] Z Q :=
 let s1:=zRC Z.y (Z.y+2) o 0;fun h1 hL k0=>zH [.g,.g,.g,.l (qf o),.g,.lf 20 s1 [zOV Z.y (Z.y+2) o P0]] (kd (ai h1 (ai (ai tt (ai (arf s1) hL)) (ai (kz0 k0) trivial))))
theorem yRB (h1:lz Z 98 (qe BA 0) (qf cs1838)) (h2:qo (evL [pt BB 0,qf cs1838]) Z (.store 98 (.tmp 0) (.tmp 1))=some (undef,ZP)) (h3:lz ZP 98 (qe BB 0) (qf cs1840)) (nx:Q (qf cs1840) ZP):yBK BA BB o Z Q :=
 sK [.l (qf cs1838),.e undef ZP,.l (qf cs1840)] (an3 h1 h2 h3 nx)
@[reducible] def Ha8 (Z:St) (g_0 o:lVa) (q1 q2:oAa) (l1 c1 l2 c2:Nat) (n3:Int):Prop:=qn ((Z.row g_0 1).row o 1) 98 ⟨Z.y,0,none⟩=some (.agg ⟨g_0⟩)/\(qn ((Z.row g_0 1).row o 1) 98 ⟨(Z.y+1),0,none⟩=some (.agg ⟨o⟩))/\vO Pg .neq 98 (.tmp 5) (.tmp 6) (.agg ⟨g_0⟩) (.agg ⟨o⟩)=some (.bool true)/\vS Pg ((Z.row g_0 1).row o 1) 98 (.pointer (some ⟨Z.y,0,none⟩)) none none none=some (.slice q1 l1 c1)/\(vS Pg ((Z.row g_0 1).row o 1) 98 (.pointer (some ⟨(Z.y+1),0,none⟩)) none none none=some (.slice q2 l2 c2))/\qm 119 [.slice q1 l1 c1,.slice q2 l2 c2] ((Z.row g_0 1).row o 1) (iV n3) ((Z.row g_0 1).row o 1)
theorem xRC (H:Ha8 Z g_0 o q1 q2 l1 c1 l2 c2 n3) (nx:Q (.bool true) ((Z.row g_0 1).row o 1)) (u1:0<n3:=by omega):qg 103 [qf g_0,qf o] Z Q :=
 match H with|⟨h1,h2,h3,h4,h5,h6⟩=>zH [.g,.g,.g,.l (qf g_0),.l (qf o),.v (.bool true),.g,.v (.slice q1 l1 c1),.v (.slice q2 l2 c2),.c (iV n3) ((Z.row g_0 1).row o 1),.b true,.g,.g] (kd (ai h1 (an6 h2 h3 h4 h5 h6 (zR u1) nx)))
theorem xRB (H:Ha8 Z g_0 o q1 q2 l1 c1 l2 c2 n3) (nx:Q (.bool false) ((Z.row g_0 1).row o 1)) (u1:¬ 0<n3:=by omega):qg 103 [qf g_0,qf o] Z Q :=
 match H with|⟨h1,h2,h3,h4,h5,h6⟩=>zH [.g,.g,.g,.l (qf g_0),.l (qf o),.v (.bool true),.g,.v (.slice q1 l1 c1),.v (.slice q2 l2 c2),.c (iV n3) ((Z.row g_0 1).row o 1),.b false,.g,.g] (kd (ai h1 (an6 h2 h3 h4 h5 h6 (zT u1) nx)))
theorem xRA:let y0:=(Z.row g_0 1).row o 1;∀ (h1:lz y0 98 (qe Z.y 0) (qf g_0)) (h2:lz y0 98 ⟨(Z.y+1),0,none⟩ (qf o)) (h3:vO Pg .neq 98 (.tmp 5) (.tmp 6) (qf g_0) (qf o)=some (.bool false)) (nx:Q (.bool false) y0),qg 103 [qf g_0,qf o] Z Q :=
 fun h1 h2 h3 nx=>zH [.g,.g,.g,.l (qf g_0),.l (qf o),.v (.bool false),.g,.g,.g] (kd (an3 h1 h2 h3 nx))
theorem yEN (hb:∀ k aA Z,Inv k aA Z->zIA s1 dQ eE s2 ee eF aA Z (NX1 Inv k) Qr Q0):∀ k aA Z,Inv k aA Z->yCF s1 dQ eE s2 ee eF aA Z Qr Q0 :=
 xE (ai uZ (ai (xV 0) trivial)) hb
theorem zWD (h1:lz Z 3 (zJ s1_a (Int.toNat aA*1)) (iV nG)) (h2:lz Z 3 (zJ s2_a (Int.toNat aA*1)) (iV nF)) (h3:qm 129 [iV nG,iV nF] Z (iV nA) Z) (nx:Qr nA Z) (u1:aA<(dQ:Int):=by omega) (u2:Ix aA dQ:=by omega) (u3:¬ (ee:Int)<=aA:=by omega) (u4:Ix aA ee:=by omega) (u5:¬ nA=0:=by omega):zIA (some s1_a) dQ eE (some s2_a) ee eF aA Z Nx Qr Q0 :=
 kO 1 nA [.b true,.g,.i,.l (iV nG),.g,.g,.g,.g,.g,.b false,.g,.g,.i,.l (iV nF),.g,.g,.g,.c (iV nA) Z,.g,.g,.b true,.g,.g] (fun _ f=>an2 (zR u1) u2 (an6 h1 (yH u3) u4 h2 h3 (zCC u5) f)) nx
theorem ySD (h1:lz Z 3 (zJ s1_a (Int.toNat aA*1)) (iV nG)) (h2:lz Z 3 (zJ s2_a (Int.toNat aA*1)) (iV nF)) (h3:qm 129 [iV nG,iV nF] Z (iV nA) Z) (nx:Nx (aA+1) Z) (u1:aA<(dQ:Int):=by omega) (u2:Ix aA dQ:=by omega) (u3:¬ (ee:Int)<=aA:=by omega) (u4:Ix aA ee:=by omega) (u5:nA=0:=by omega) (u6:I6 (aA+1):=by omega):zIA (some s1_a) dQ eE (some s2_a) ee eF aA Z Nx Qr Q0 :=
 kO 0 (aA+1) [.b true,.g,.i,.l (iV nG),.g,.g,.g,.g,.g,.b false,.g,.g,.i,.l (iV nF),.g,.g,.g,.c (iV nA) Z,.g,.g,.b false,.n (aA+1),.g] (fun _ f=>an3 (zR u1) u2 h1 (an6 (yH u3) u4 h2 h3 (xR u5) (w64 u6) f)) nx
theorem ySC (nx:Q0 Z) (u1:¬ aA<(dQ:Int):=by omega):zIA s1 dQ eE s2 ee eF aA Z Nx Qr Q0 :=
 kO 2 () [.b false] (fun _ f=>ai (zT u1) f) nx
theorem yZU (hL:yCF s1 dQ eE s2 ee eF 0 Z Pr P0) (kr:∀ i4_1' Z',Pr i4_1' Z'->zRI s1 dQ eE s2 ee eF i4_1' Z' Q) (k0:∀ Z',P0 Z'->zRJ s1 dQ eE s2 ee eF Z' Q):qg 119 [.slice s1 dQ eE,.slice s2 ee eF] Z Q :=
 zH [.g,.g,.g,.g,.lf 36 (zEH s1 dQ eE s2 ee eF 0) [zHY s1 dQ eE s2 ee eF Pr,zHZ s1 dQ eE s2 ee eF P0]] (kd (ai (ai tt (ai (arf (zEH s1 dQ eE s2 ee eF 0)) hL)) (ai (kz1 kr) (ai (kz0 k0) trivial))))
theorem yEL (nx:Q (iV bu) Z):zRI s1 dQ eE s2 ee eF bu Z Q :=
 sK [] nx
theorem yEM (nx:Q (iV 0) Z) (u1:¬ (dQ:Int)<(ee:Int):=by omega):zRJ s1 dQ eE s2 ee eF Z Q :=
 sK [.g,.g,.g,.g,.b false,.g] (ai (zT u1) nx)
theorem xXK (h1:qm 132 [iV x] Z (.bool false) Z) (h2:qm 132 [iV y] Z (.bool false) Z) (nx:Q (iV (-1)) Z) (u1:x<y:=by omega):qg 129 [iV x,iV y] Z Q :=
 zH [.g,.g,.c (.bool false) Z,.g,.g,.c (.bool false) Z,.g,.g,.g,.g,.g,.b true,.g] (kd (an3 h1 h2 (zR u1) nx))
theorem xXJ (h1:qm 132 [iV x] Z (.bool false) Z) (h2:qm 132 [iV y] Z (.bool false) Z) (nx:Q (iV 1) Z) (u1:¬ x<y:=by omega) (u2:y<x:=by omega):qg 129 [iV x,iV y] Z Q :=
 zH [.g,.g,.c (.bool false) Z,.g,.g,.c (.bool false) Z,.g,.g,.g,.g,.g,.b false,.g,.g,.b true,.g] (kd (an4 h1 h2 (zT u1) (zR u2) nx))
theorem xXI (h1:qm 132 [iV x] Z (.bool false) Z) (h2:qm 132 [iV y] Z (.bool false) Z) (nx:Q (iV 0) Z) (u1:¬ x<y:=by omega) (u2:¬ y<x:=by omega):qg 129 [iV x,iV y] Z Q :=
 zH [.g,.g,.c (.bool false) Z,.g,.g,.c (.bool false) Z,.g,.g,.g,.g,.g,.b false,.g,.g,.b false,.g] (kd (an4 h1 h2 (zT u1) (zT u2) nx))
theorem xPV (nx:Q (.bool false) Z) (u1:x=x:=by omega):qg 132 [iV x] Z Q :=
 zH [.g,.g,.g,.b false,.g] (kd (ai (xR u1) nx))
theorem yRX {Inv:Nat->Int->Int->St->Prop} {Q0:Int->St->Prop} (hb:∀ k aY aA Z,Inv k aY aA Z->yCD slices aX bh aY aA Z (NX2 Inv k) Q0):∀ k aY aA Z,Inv k aY aA Z->ySB slices aX bh aY aA Z Q0 :=
 zCR (ai (xV 0) trivial) hb
theorem xJD {Nx:Int->Int->St->Prop} {Q0:Int->St->Prop} (h1:lz Z 26 (zJ gB (Int.toNat aA*1)) (.slice qD lA cE)) (nx:Nx (aY+(lA:Int)) (aA+1) Z) (u1:aA<(aX:Int):=by omega) (u2:Ix aA aX:=by omega) (u3:I6 (aY+(lA:Int)):=by omega) (u4:¬ (aY+(lA:Int))<0:=by omega) (u5:I6 (aA+1):=by omega):yCD (some gB) aX bh aY aA Z Nx Q0 :=
 kO 0 ((aY+(lA:Int)),aA+1) [.b true,.i,.l (.slice qD lA cE),.g,.g,.g,.g,.n (aY+(lA:Int)),.g,.g,.b false,.n (aA+1),.g] (fun _ f=>an6 (zR u1) u2 h1 (w64 u3) (zT u4) (w64 u5) f) nx
theorem xJC {Nx:Int->Int->St->Prop} {Q0:Int->St->Prop} (nx:Q0 aY Z) (u1:¬ aA<(aX:Int):=by omega):yCD slices aX bh aY aA Z Nx Q0 :=
 kO 1 aY [.b false] (fun _ f=>ai (zT u1) f) nx
theorem xRZ {P0:Int->St->Prop} (hL:ySB slices aX bh 0 0 Z P0) (k0:∀ i3_1' Z',P0 i3_1' Z'->yCB slices aX bh i3_1' Z' Q):qg 104 [.slice slices aX bh] Z Q :=
 zH [.g,.g,.g,.g,.g,.lf 36 (zKU slices aX bh 0 0) [zOZ slices aX bh P0]] (kd (ai (ai tt (ai (arf (zKU slices aX bh 0 0)) hL)) (ai (kz1 k0) trivial)))
theorem yRW {Inv:Nat->(Option Addr)->Nat->Nat->Int->St->Prop} (hb:∀ k fz fP fU eU Z,Inv k fz fP fU eU Z->yCC slices aX bh fz fP fU eU Z (NX4 Inv k) Q2):∀ k fz fP fU eU Z,Inv k fz fP fU eU Z->ySA slices aX bh fz fP fU eU Z Q2 :=
 yAS (ai (xV 2) trivial) hb
theorem xJB {Nx:(Option Addr)->Nat->Nat->Int->St->Prop} (h1:lz Z 26 (zJ gB (Int.toNat eU*1)) (.slice qI lI cJ)) (h2:yF Pg 26 26 (.slice fz fP fU) (.slice qI lI cJ) Z=some (.slice qB lE cB,ZBH)) (nx:Nx qB lE cB (eU+1) ZBH) (u1:eU<(aX:Int):=by omega) (u2:Ix eU aX:=by omega) (u3:I6 (eU+1):=by omega):yCC (some gB) aX bh fz fP fU eU Z Nx Q2 :=
 kO 0 (qB,lE,cB,eU+1) [.b true,.i,.l (.slice qI lI cJ),.g,.g,.g,.e (.slice qB lE cB) ZBH,.g,.n (eU+1),.g] (fun _ f=>an5 (zR u1) u2 h1 h2 (w64 u3) f) nx
theorem xJA {Nx:(Option Addr)->Nat->Nat->Int->St->Prop} (nx:Q2 fz fP fU Z) (u1:¬ eU<(aX:Int):=by omega):yCC slices aX bh fz fP fU eU Z Nx Q2 :=
 kO 1 (fz,fP,fU) [.b false] (fun _ f=>ai (zT u1) f) nx
theorem yRV (h1:qm 120 [.slice none 0 0,iV aY] Z (.slice qY lL cAB) ZP) (hL:ySA slices aX bh qY lL cAB 0 ZP P2) (k2:∀ p6_2' l6_2' c6_2' Z',P2 p6_2' l6_2' c6_2' Z'->yCA slices aX bh p6_2' l6_2' c6_2' Z' Q):yCB slices aX bh aY Z Q :=
 sK [.g,.c (.slice qY lL cAB) ZP,.g,.g,.g,.g,.lf 36 (zKT slices aX bh qY lL cAB 0) [zOY slices aX bh P2]] (ai h1 (ai (ai tt (ai (arf (zKT slices aX bh qY lL cAB 0)) hL)) (ai (kz3 k2) trivial)))
theorem yRU (nx:Q (.slice fz fP fU) Z):yCA slices aX bh fz fP fU Z Q :=
 sK [.g,.g] nx
theorem xQY (h1:xM Pg (evL [.slice s s_l s_c]) Z (.call { callee:=.builtin .cap,args:=⟨wS 1⟩,argTypes:=⟨[26]⟩ })=some (iV n1)) (h2:xM Pg (evL [.slice s s_l s_c]) Z (.call { callee:=.builtin .cap,args:=⟨wS 1⟩,argTypes:=⟨[26]⟩ })=some (iV n2)) (h3:vS Pg Z 26 (.slice s s_l s_c) none (some (iV n2)) none=some (.slice q3 l3 c3)) (h4:yF Pg 26 3 (.slice q3 l3 c3) (iV (n-(n1-(s_l:Int)))) Z=some (.slice q5 l5 c5,Z4)) (h5:vS Pg Z4 26 (.slice q5 l5 c5) none (some (iV (s_l:Int))) none=some (.slice q6 l6 c6)) (nx:Q (.slice q6 l6 c6) Z4) (u1:¬ n<0:=by omega) (u2:I6 (n1-(s_l:Int)):=by omega) (u3:I6 (n-(n1-(s_l:Int))):=by omega) (u4:0<(n-(n1-(s_l:Int))):=by omega):qg 120 [.slice s s_l s_c,iV n] Z Q :=
 zH [.g,.g,.b false,.g,.g,.v (iV n1),.g,.g,.n (n1-(s_l:Int)),.n (n-(n1-(s_l:Int))),.g,.g,.b true,.g,.g,.v (iV n2),.v (.slice q3 l3 c3),.g,.e (.slice q5 l5 c5) Z4,.g,.g,.v (.slice q6 l6 c6),.g,.g,.g] (kd (an3 (zT u1) h1 (w64 u2) (an6 (w64 u3) (zR u4) h2 h3 h4 h5 nx)))
theorem xQX (h1:xM Pg (evL [.slice s s_l s_c]) Z (.call { callee:=.builtin .cap,args:=⟨wS 1⟩,argTypes:=⟨[26]⟩ })=some (iV n1)) (nx:Q (.slice s s_l s_c) Z) (u1:¬ n<0:=by omega) (u2:I6 (n1-(s_l:Int)):=by omega) (u3:I6 (n-(n1-(s_l:Int))):=by omega) (u4:¬ 0<(n-(n1-(s_l:Int))):=by omega):qg 120 [.slice s s_l s_c,iV n] Z Q :=
 zH [.g,.g,.b false,.g,.g,.v (iV n1),.g,.g,.n (n1-(s_l:Int)),.n (n-(n1-(s_l:Int))),.g,.g,.b false,.g,.g] (kd (an5 (zT u1) h1 (w64 u2) (w64 u3) (zT u4) nx))
end
end Go.Proofs.YtgfiniccfpfplaaGreat
