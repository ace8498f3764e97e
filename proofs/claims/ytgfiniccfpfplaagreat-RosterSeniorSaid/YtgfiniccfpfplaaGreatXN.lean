import Derived.Test.YtgfiniccfpfplaaGreatTy
import Derived.Test.YtgfiniccfpfplaaGreatUA
set_option linter.unusedVariables false
set_option maxRecDepth 20000
set_option linter.unusedSimpArgs false
namespace Go.Proofs.YtgfiniccfpfplaaGreat
open Go Go.Lay
open Tryz renaming prog -> Pg
section
noncomputable section
variable (data:oAa) (ar:Addr) (ag ah:Nat) (hi a_1 first b:Int) (aB:FuncId) (ao:lVa) (q4:Int->Int->St->Prop) (kB aE aG bH aZ aD bV bf aQ bM aH ba bW:Int) (t8_1:Bool) (q7:Bool->St->Prop) (q0:St->Prop) (Q:Int->St->Prop) (Z:St) (q5:Int->Int->St->Prop) (Nx Q4 Q2 Q8 q6 Q6:Int->St->Prop) (q2:vPa) (Q0 q1 q3:St->Prop) (Qr:Bool->St->Prop)
def yJV:Code:=(Code.part [1,0,0] (qh 106))
def zWS:lNa:=[(0,.slice data ag ah),(1,iV a_1),(2,iV b),(3,.func (.func aB) ⟨[]⟩ ⟨ao⟩),(8,iV aG)]
def yPK:Alt:=⟨Int,.normal,fun t=>zWS data ag ah a_1 b aB ao t,fun t=>[],fun t Z=>Q t Z⟩
def yFT (data:oAa) (ag ah:Nat) (a_1 b:Int) (aB:FuncId) (ao:lVa):lNa:=[]
def zLU:Alt:=⟨Unit,(.exit 0),fun t=>yFT data ag ah a_1 b aB ao,fun t=>[],fun t Z=>q0 Z⟩
def yJW:Prop:=qi qj none yJV 53 (zWS data ag ah a_1 b aB ao aG) [] [yPK data ag ah a_1 b aB ao Nx,zLU data ag ah a_1 b aB ao Q0] Z
def xBZ:Prop:=qk qj none yJV 53 (zWS data ag ah a_1 b aB ao aG) [] [zLU data ag ah a_1 b aB ao Q0] Z
def xBX:Code:=(Code.part [1,0,0,1,0,0,1,0,0] (qh 106))
def zQB:lNa:=[(0,.slice data ag ah),(1,iV a_1),(2,iV b),(3,.func (.func aB) ⟨[]⟩ ⟨ao⟩),(8,iV aG),(9,iV aQ)]
def xNT:Alt:=⟨Int,.normal,fun t=>zQB data ag ah a_1 b aB ao aG t,fun t=>[],fun t Z=>Q t Z⟩
def yFS:lNa:=[(0,.slice data ag ah),(1,iV a_1),(2,iV b),(3,.func (.func aB) ⟨[]⟩ ⟨ao⟩),(8,iV aG)]
def zSD:Alt:=⟨Unit,(.exit 2),fun t=>yFS data ag ah a_1 b aB ao aG,fun t=>[],fun t Z=>q0 Z⟩
def zWT:Prop:=qi qj none xBX 53 (zQB data ag ah a_1 b aB ao aG aQ) [] [xNT data ag ah a_1 b aB ao aG Nx,zSD data ag ah a_1 b aB ao aG q1] Z
def xBY:Prop:=qk qj none xBX 53 (zQB data ag ah a_1 b aB ao aG aQ) [] [zSD data ag ah a_1 b aB ao aG q1] Z
def yFU:Prop:=kZ qj yJV [1,0,0,1,0] (zFK 53 [yPK data ag ah a_1 b aB ao Nx,zLU data ag ah a_1 b aB ao Q0]) (.exit 2) 53 (yFS data ag ah a_1 b aB ao aG) Z
def yFV:Prop:=kZ qj (qh 106) [1,0] (ql 106 q2) (.exit 0) 53 (yFT data ag ah a_1 b aB ao) Z
def yMJ:Code:=(Code.part [1,0,0] (qh 121))
def zIW:lNa:=[(0,.slice data ag ah),(2,iV hi),(3,iV first),(4,.func (.func aB) ⟨[]⟩ ⟨ao⟩),(10,iV aD)]
def xDR:Alt:=⟨Int,.normal,fun t=>zIW data ag ah hi first aB ao t,fun t=>[],fun t Z=>Q t Z⟩
def zXR (data:oAa) (ag ah:Nat) (hi first:Int) (aB:FuncId) (ao:lVa):lNa:=[]
def zNJ:Alt:=⟨Unit,(.exit 0),fun t=>zXR data ag ah hi first aB ao,fun t=>[],fun t Z=>q0 Z⟩
def zXQ (data:oAa) (ag ah:Nat) (hi first:Int) (aB:FuncId) (ao:lVa):lNa:=[]
def zNI:Alt:=⟨Unit,.ret,fun t=>zXQ data ag ah hi first aB ao,fun t=>[],fun t Z=>q0 Z⟩
def zCE:Prop:=qi qj none yMJ 82 (zIW data ag ah hi first aB ao aD) [] [xDR data ag ah hi first aB ao Nx,zNJ data ag ah hi first aB ao Q0,zNI data ag ah hi first aB ao q3] Z
def yMK:Prop:=qk qj none yMJ 82 (zIW data ag ah hi first aB ao aD) [] [zNJ data ag ah hi first aB ao Q0,zNI data ag ah hi first aB ao q3] Z
def zXT:Prop:=kZ qj (qh 121) [1,0] (ql 121 q2) (.exit 0) 82 (zXR data ag ah hi first aB ao) Z
def zXS:Prop:=kZ qj (qh 121) [1,0] (ql 121 q2) .ret 82 (zXQ data ag ah hi first aB ao) Z
def yPW:Code:=(Code.part [1,1,1,0,1,0,0] (qh 107))
def zQJ (data:oAa) (ag ah:Nat) (aB:FuncId) (ao:lVa) (a_1 kB aE:Int):lNa:=[(0,.slice data ag ah),(3,.func (.func aB) ⟨[]⟩ ⟨ao⟩),(8,iV a_1),(9,iV 0),(10,iV kB),(11,iV aE)]
def xGY (data:oAa) (ag ah:Nat) (aB:FuncId) (ao:lVa) (a_1 kB:Int) (Q:Int->St->Prop):Alt:=⟨Int,.normal,fun t=>zQJ data ag ah aB ao a_1 kB t,fun t=>[],fun t Z=>Q t Z⟩
def yAF (data:oAa) (ag ah:Nat) (aB:FuncId) (ao:lVa) (a_1 kB:Int):lNa:=[(0,.slice data ag ah),(3,.func (.func aB) ⟨[]⟩ ⟨ao⟩),(8,iV a_1),(9,iV 0),(10,iV kB)]
def zOF (data:oAa) (ag ah:Nat) (aB:FuncId) (ao:lVa) (a_1 kB:Int) (Q:St->Prop):Alt:=⟨Unit,(.exit 0),fun t=>yAF data ag ah aB ao a_1 kB,fun t=>[],fun t Z=>Q Z⟩
def yAJ (data:oAa) (ag ah:Nat) (aB:FuncId) (ao:lVa) (a_1 kB aE:Int) (Z:St) (Nx:Int->St->Prop) (Q0:St->Prop):Prop:=qi qj none yPW 60 (zQJ data ag ah aB ao a_1 kB aE) [] [xGY data ag ah aB ao a_1 kB Nx,zOF data ag ah aB ao a_1 kB Q0] Z
def yPY (data:oAa) (ag ah:Nat) (aB:FuncId) (ao:lVa) (a_1 kB aE:Int) (Z:St) (Q0:St->Prop):Prop:=qk qj none yPW 60 (zQJ data ag ah aB ao a_1 kB aE) [] [zOF data ag ah aB ao a_1 kB Q0] Z
def yAH (data:oAa) (ag ah:Nat) (aB:FuncId) (ao:lVa) (a_1 kB:Int) (Z:St) (Q:vPa):Prop:=kZ qj (qh 107) [1,1,1,0,1,0] (ql 107 Q) (.exit 0) 60 (yAF data ag ah aB ao a_1 kB) Z
def yPV:Code:=(Code.part [1,1,1,1,1,0,0] (qh 107))
def zQI (data:oAa) (ag ah:Nat) (aB:FuncId) (ao:lVa) (a_1 dW:Int):lNa:=[(0,.slice data ag ah),(3,.func (.func aB) ⟨[]⟩ ⟨ao⟩),(8,iV a_1),(9,iV 0),(12,iV dW)]
def xGX (data:oAa) (ag ah:Nat) (aB:FuncId) (ao:lVa) (a_1:Int) (Q:Int->St->Prop):Alt:=⟨Int,.normal,fun t=>zQI data ag ah aB ao a_1 t,fun t=>[],fun t Z=>Q t Z⟩
def yAE (data:oAa) (ag ah:Nat) (aB:FuncId) (ao:lVa) (a_1:Int):lNa:=[]
def zOE (data:oAa) (ag ah:Nat) (aB:FuncId) (ao:lVa) (a_1:Int) (Q:St->Prop):Alt:=⟨Unit,(.exit 2),fun t=>yAE data ag ah aB ao a_1,fun t=>[],fun t Z=>Q Z⟩
def yAI (data:oAa) (ag ah:Nat) (aB:FuncId) (ao:lVa) (a_1 dW:Int) (Z:St) (Nx:Int->St->Prop) (Q2:St->Prop):Prop:=qi qj none yPV 60 (zQI data ag ah aB ao a_1 dW) [] [xGX data ag ah aB ao a_1 Nx,zOE data ag ah aB ao a_1 Q2] Z
def yPX (data:oAa) (ag ah:Nat) (aB:FuncId) (ao:lVa) (a_1 dW:Int) (Z:St) (Q2:St->Prop):Prop:=qk qj none yPV 60 (zQI data ag ah aB ao a_1 dW) [] [zOE data ag ah aB ao a_1 Q2] Z
def yAG (data:oAa) (ag ah:Nat) (aB:FuncId) (ao:lVa) (a_1:Int) (Z:St) (Q:vPa):Prop:=kZ qj (qh 107) [1,1,1,1,1,0] (ql 107 Q) (.exit 2) 60 (yAE data ag ah aB ao a_1) Z
def zLO:Code:=(Code.part [1,1,1,0,0,0] (qh 112))
def zLN:lNa:=[(0,.slice (some ar) ag ah),(1,iV a_1),(4,.func (.func aB) ⟨[]⟩ ⟨ao⟩),(11,iV aE),(12,iV aZ)]
def zNY:Alt:=⟨Int × Int,.normal,fun t=>zLN ar ag ah a_1 aB ao t.1 t.2,fun t=>[],fun t Z=>q4 t.1 t.2 Z⟩
def zUP (ar:Addr) (ag ah:Nat) (a_1:Int) (aB:FuncId) (ao:lVa) (aE:Int):lNa:=[(11,iV aE)]
def zCH:Alt:=⟨Int,(.exit 0),fun t=>zUP ar ag ah a_1 aB ao t,fun t=>[],fun t Z=>Q t Z⟩
def yFG:Prop:=qi qj none zLO 90 (zLN ar ag ah a_1 aB ao aE aZ) [] [zNY ar ag ah a_1 aB ao q5,zCH ar ag ah a_1 aB ao q6] Z
def yFF:Prop:=qk qj none zLO 90 (zLN ar ag ah a_1 aB ao aE aZ) [] [zCH ar ag ah a_1 aB ao q6] Z
def yFC:Code:=(Code.part [1,1,1,0,0,0,0,0,0,0] (qh 112))
def zFY:lNa:=[(0,.slice (some ar) ag ah),(1,iV a_1),(4,.func (.func aB) ⟨[]⟩ ⟨ao⟩),(11,iV bf),(12,iV aZ)]
def yWF:Alt:=⟨Int,.normal,fun t=>zFY ar ag ah a_1 aB ao aZ t,fun t=>[],fun t Z=>Q t Z⟩
def zUO:lNa:=[(0,.slice (some ar) ag ah),(1,iV a_1),(4,.func (.func aB) ⟨[]⟩ ⟨ao⟩),(11,iV bf),(12,iV aZ)]
def zJY:Alt:=⟨Int,(.exit 2),fun t=>zUO ar ag ah a_1 aB ao aZ t,fun t=>[],fun t Z=>Q t Z⟩
def zLQ:Prop:=qi qj none yFC 90 (zFY ar ag ah a_1 aB ao aZ bf) [] [yWF ar ag ah a_1 aB ao aZ Nx,zJY ar ag ah a_1 aB ao aZ Q2] Z
def yFE:Prop:=qk qj none yFC 90 (zFY ar ag ah a_1 aB ao aZ bf) [] [zJY ar ag ah a_1 aB ao aZ Q2] Z
def zUQ:Prop:=kZ qj zLO [0,0,0] (zFK 90 [zNY ar ag ah a_1 aB ao q5,zCH ar ag ah a_1 aB ao q6]) (.exit 2) 90 (zUO ar ag ah a_1 aB ao aZ bf) Z
def yFB:Code:=(Code.part [1,1,1,0,0,0,0,1,0,0,0] (qh 112))
def zFX:lNa:=[(0,.slice (some ar) ag ah),(1,iV a_1),(4,.func (.func aB) ⟨[]⟩ ⟨ao⟩),(11,iV bf),(12,iV bM)]
def yWE:Alt:=⟨Int,.normal,fun t=>zFX ar ag ah a_1 aB ao bf t,fun t=>[],fun t Z=>Q t Z⟩
def zUN:lNa:=[(0,.slice (some ar) ag ah),(1,iV a_1),(4,.func (.func aB) ⟨[]⟩ ⟨ao⟩),(11,iV bf),(12,iV bM)]
def zJX:Alt:=⟨Int,(.exit 4),fun t=>zUN ar ag ah a_1 aB ao bf t,fun t=>[],fun t Z=>Q t Z⟩
def zLP:Prop:=qi qj none yFB 90 (zFX ar ag ah a_1 aB ao bf bM) [] [yWE ar ag ah a_1 aB ao bf Nx,zJX ar ag ah a_1 aB ao bf Q4] Z
def yFD:Prop:=qk qj none yFB 90 (zFX ar ag ah a_1 aB ao bf bM) [] [zJX ar ag ah a_1 aB ao bf Q4] Z
def zJZ:Prop:=kZ qj zLO [0,1,0,0] (zFK 90 [zNY ar ag ah a_1 aB ao q5,zCH ar ag ah a_1 aB ao q6]) (.exit 4) 90 (zUN ar ag ah a_1 aB ao bf bM) Z
def zUR:Prop:=kZ qj (qh 112) [1,1,1,0,0] (ql 112 q2) (.exit 0) 90 (zUP ar ag ah a_1 aB ao aE) Z
def xBF:Code:=(Code.part [1,1,1,0,0,0] (qh 113))
def zWL:lNa:=[(0,.slice (some ar) ag ah),(1,iV a_1),(4,.func (.func aB) ⟨[]⟩ ⟨ao⟩),(12,iV aZ),(13,iV kB)]
def xMA:Alt:=⟨Int,.normal,fun t=>zWL ar ag ah a_1 aB ao kB t,fun t=>[],fun t Z=>Q t Z⟩
def yEX:lNa:=[(0,.slice (some ar) ag ah),(1,iV a_1),(4,.func (.func aB) ⟨[]⟩ ⟨ao⟩),(12,iV aZ),(13,iV kB)]
def zRV:Alt:=⟨Int,(.exit 0),fun t=>yEX ar ag ah a_1 aB ao kB t,fun t=>[],fun t Z=>Q t Z⟩
def zWQ:Prop:=qi qj none xBF 178 (zWL ar ag ah a_1 aB ao kB aZ) [] [xMA ar ag ah a_1 aB ao kB Nx,zRV ar ag ah a_1 aB ao kB q6] Z
def xBK:Prop:=qk qj none xBF 178 (zWL ar ag ah a_1 aB ao kB aZ) [] [zRV ar ag ah a_1 aB ao kB q6] Z
def yFA:Prop:=kZ qj (qh 113) [1,1,1,0,0] (ql 113 q2) (.exit 0) 178 (yEX ar ag ah a_1 aB ao kB aZ) Z
def xBE:Code:=(Code.part [1,1,1,1,0,0,0] (qh 113))
def zPS:lNa:=[(0,.slice (some ar) ag ah),(1,iV a_1),(4,.func (.func aB) ⟨[]⟩ ⟨ao⟩),(12,iV aZ),(13,iV bV)]
def xLZ:Alt:=⟨Int,.normal,fun t=>zPS ar ag ah a_1 aB ao aZ t,fun t=>[],fun t Z=>Q t Z⟩
def yEW:lNa:=[(0,.slice (some ar) ag ah),(1,iV a_1),(4,.func (.func aB) ⟨[]⟩ ⟨ao⟩),(12,iV aZ),(13,iV bV)]
def zRU:Alt:=⟨Int,(.exit 2),fun t=>yEW ar ag ah a_1 aB ao aZ t,fun t=>[],fun t Z=>Q t Z⟩
def zWP:Prop:=qi qj none xBE 178 (zPS ar ag ah a_1 aB ao aZ bV) [] [xLZ ar ag ah a_1 aB ao aZ Nx,zRU ar ag ah a_1 aB ao aZ Q2] Z
def xBJ:Prop:=qk qj none xBE 178 (zPS ar ag ah a_1 aB ao aZ bV) [] [zRU ar ag ah a_1 aB ao aZ Q2] Z
def zRX:Prop:=kZ qj (qh 113) [1,1,1,1,0,0] (ql 113 q2) (.exit 2) 178 (yEW ar ag ah a_1 aB ao aZ bV) Z
def zWM:Code:=(Code.part [1,1,1,1,1,1,1,1,1,0,0,0] (qh 113))
def zWK:lNa:=[(0,.slice (some ar) ag ah),(1,iV a_1),(4,.func (.func aB) ⟨[]⟩ ⟨ao⟩),(12,iV bM),(13,iV aH)]
def zYY:Alt:=⟨Int × Int,.normal,fun t=>zWK ar ag ah a_1 aB ao t.1 t.2,fun t=>[],fun t Z=>q4 t.1 t.2 Z⟩
def yEV (ar:Addr) (ag ah:Nat) (a_1:Int) (aB:FuncId) (ao:lVa) (aH:Int):lNa:=[(0,.slice (some ar) ag ah),(1,iV a_1),(13,iV aH)]
def zFW:Alt:=⟨Int,(.exit 4),fun t=>yEV ar ag ah a_1 aB ao t,fun t=>[],fun t Z=>Q t Z⟩
def xBL:Prop:=qi qj none zWM 178 (zWK ar ag ah a_1 aB ao bM aH) [] [zYY ar ag ah a_1 aB ao q5,zFW ar ag ah a_1 aB ao Q4] Z
def xBI:Prop:=qk qj none zWM 178 (zWK ar ag ah a_1 aB ao bM aH) [] [zFW ar ag ah a_1 aB ao Q4] Z
def xBD:Code:=(Code.part [1,1,1,1,1,1,1,1,1,0,0,0,0,0,0,0] (qh 113))
def zPR:lNa:=[(0,.slice (some ar) ag ah),(1,iV a_1),(4,.func (.func aB) ⟨[]⟩ ⟨ao⟩),(12,iV ba),(13,iV aH)]
def xLY:Alt:=⟨Int,.normal,fun t=>zPR ar ag ah a_1 aB ao aH t,fun t=>[],fun t Z=>Q t Z⟩
def yEU:lNa:=[(0,.slice (some ar) ag ah),(1,iV a_1),(4,.func (.func aB) ⟨[]⟩ ⟨ao⟩),(12,iV ba),(13,iV aH)]
def zRT:Alt:=⟨Int,(.exit 6),fun t=>yEU ar ag ah a_1 aB ao aH t,fun t=>[],fun t Z=>Q t Z⟩
def zWO:Prop:=qi qj none xBD 178 (zPR ar ag ah a_1 aB ao aH ba) [] [xLY ar ag ah a_1 aB ao aH Nx,zRT ar ag ah a_1 aB ao aH Q6] Z
def xBH:Prop:=qk qj none xBD 178 (zPR ar ag ah a_1 aB ao aH ba) [] [zRT ar ag ah a_1 aB ao aH Q6] Z
def yEY:Prop:=kZ qj zWM [0,0,0] (zFK 178 [zYY ar ag ah a_1 aB ao q5,zFW ar ag ah a_1 aB ao Q4]) (.exit 6) 178 (yEU ar ag ah a_1 aB ao aH ba) Z
def xBC:Code:=(Code.part [1,1,1,1,1,1,1,1,1,0,0,0,0,1,0,0,0] (qh 113))
def zPQ:lNa:=[(0,.slice (some ar) ag ah),(1,iV a_1),(4,.func (.func aB) ⟨[]⟩ ⟨ao⟩),(12,iV ba),(13,iV bW)]
def xLX:Alt:=⟨Int,.normal,fun t=>zPQ ar ag ah a_1 aB ao ba t,fun t=>[],fun t Z=>Q t Z⟩
def yET:lNa:=[(0,.slice (some ar) ag ah),(1,iV a_1),(4,.func (.func aB) ⟨[]⟩ ⟨ao⟩),(12,iV ba),(13,iV bW)]
def zRS:Alt:=⟨Int,(.exit 8),fun t=>yET ar ag ah a_1 aB ao ba t,fun t=>[],fun t Z=>Q t Z⟩
def zWN:Prop:=qi qj none xBC 178 (zPQ ar ag ah a_1 aB ao ba bW) [] [xLX ar ag ah a_1 aB ao ba Nx,zRS ar ag ah a_1 aB ao ba Q8] Z
def xBG:Prop:=qk qj none xBC 178 (zPQ ar ag ah a_1 aB ao ba bW) [] [zRS ar ag ah a_1 aB ao ba Q8] Z
def zRW:Prop:=kZ qj zWM [0,1,0,0] (zFK 178 [zYY ar ag ah a_1 aB ao q5,zFW ar ag ah a_1 aB ao Q4]) (.exit 8) 178 (yET ar ag ah a_1 aB ao ba bW) Z
def yEZ:Prop:=kZ qj (qh 113) [1,1,1,1,1,1,1,1,1,0,0] (ql 113 q2) (.exit 4) 178 (yEV ar ag ah a_1 aB ao aH) Z
def zJV:Code:=(Code.part [1,1,0,1,0,0] (qh 111))
def zPU:lNa:=[(0,.slice data ag ah),(1,iV a_1),(2,iV b),(3,.func (.func aB) ⟨[]⟩ ⟨ao⟩),(9,iV bH),(10,iV aD)]
def zLM:Alt:=⟨Int × Int,.normal,fun t=>zPU data ag ah a_1 b aB ao t.1 t.2,fun t=>[],fun t Z=>q4 t.1 t.2 Z⟩
def zZD (data:oAa) (ag ah:Nat) (a_1 b:Int) (aB:FuncId) (ao:lVa):lNa:=[]
def zBJ:Alt:=⟨Unit,(.exit 0),fun t=>zZD data ag ah a_1 b aB ao,fun t=>[],fun t Z=>q0 Z⟩
def zZC (data:oAa) (ag ah:Nat) (a_1 b:Int) (aB:FuncId) (ao:lVa) (t8_1:Bool):lNa:=[(8,.bool t8_1)]
def zBI:Alt:=⟨Bool,.ret,fun t=>zZC data ag ah a_1 b aB ao t,fun t=>[],fun t Z=>q7 t Z⟩
def zZH:Prop:=qi qj none zJV 141 (zPU data ag ah a_1 b aB ao bH aD) [] [zLM data ag ah a_1 b aB ao q5,zBJ data ag ah a_1 b aB ao Q0,zBI data ag ah a_1 b aB ao Qr] Z
def yOU:Prop:=qk qj none zJV 141 (zPU data ag ah a_1 b aB ao bH aD) [] [zBJ data ag ah a_1 b aB ao Q0,zBI data ag ah a_1 b aB ao Qr] Z
def yOS:Code:=(Code.part [1,1,0,1,0,0,1,0,0,0,0,0] (qh 111))
def zJU:lNa:=[(0,.slice data ag ah),(1,iV a_1),(2,iV b),(3,.func (.func aB) ⟨[]⟩ ⟨ao⟩),(9,iV aQ),(10,iV aD)]
def xGF:Alt:=⟨Int,.normal,fun t=>zJU data ag ah a_1 b aB ao aD t,fun t=>[],fun t Z=>Q t Z⟩
def zZB:lNa:=[(0,.slice data ag ah),(1,iV a_1),(2,iV b),(3,.func (.func aB) ⟨[]⟩ ⟨ao⟩),(9,iV aQ),(10,iV aD)]
def zNV:Alt:=⟨Int,(.exit 2),fun t=>zZB data ag ah a_1 b aB ao aD t,fun t=>[],fun t Z=>Q t Z⟩
def zPX:Prop:=qi qj none yOS 141 (zJU data ag ah a_1 b aB ao aD aQ) [] [xGF data ag ah a_1 b aB ao aD Nx,zNV data ag ah a_1 b aB ao aD Q2] Z
def yOT:Prop:=qk qj none yOS 141 (zJU data ag ah a_1 b aB ao aD aQ) [] [zNV data ag ah a_1 b aB ao aD Q2] Z
def zBK:Prop:=kZ qj zJV [1,0,0,0,0] (zFK 141 [zLM data ag ah a_1 b aB ao q5,zBJ data ag ah a_1 b aB ao Q0,zBI data ag ah a_1 b aB ao Qr]) (.exit 2) 141 (zZB data ag ah a_1 b aB ao aD aQ) Z
def yOR:Code:=(Code.part [1,1,0,1,0,0,1,0,0,1,1,1,1,0,1,0,1,0,0] (qh 111))
def zPT (ar:Addr) (ag ah:Nat) (a_1 b:Int) (aB:FuncId) (ao:lVa) (aQ aD dz:Int):lNa:=[(0,.slice (some ar) ag ah),(1,iV a_1),(2,iV b),(3,.func (.func aB) ⟨[]⟩ ⟨ao⟩),(9,iV aQ),(10,iV aD),(11,iV dz)]
def xGE (ar:Addr) (ag ah:Nat) (a_1 b:Int) (aB:FuncId) (ao:lVa) (aQ aD:Int) (Q:Int->St->Prop):Alt:=⟨Int,.normal,fun t=>zPT ar ag ah a_1 b aB ao aQ aD t,fun t=>[],fun t Z=>Q t Z⟩
def zZA (ar:Addr) (ag ah:Nat) (a_1 b:Int) (aB:FuncId) (ao:lVa) (aQ aD:Int):lNa:=[(0,.slice (some ar) ag ah),(1,iV a_1),(2,iV b),(3,.func (.func aB) ⟨[]⟩ ⟨ao⟩),(9,iV aQ),(10,iV aD)]
def zNU (ar:Addr) (ag ah:Nat) (a_1 b:Int) (aB:FuncId) (ao:lVa) (aQ aD:Int) (Q:St->Prop):Alt:=⟨Unit,(.exit 4),fun t=>zZA ar ag ah a_1 b aB ao aQ aD,fun t=>[],fun t Z=>Q Z⟩
def zPW (ar:Addr) (ag ah:Nat) (a_1 b:Int) (aB:FuncId) (ao:lVa) (aQ aD dz:Int) (Z:St) (Nx:Int->St->Prop) (Q4:St->Prop):Prop:=qi qj none yOR 141 (zPT ar ag ah a_1 b aB ao aQ aD dz) [] [xGE ar ag ah a_1 b aB ao aQ aD Nx,zNU ar ag ah a_1 b aB ao aQ aD Q4] Z
def zZE (ar:Addr) (ag ah:Nat) (a_1 b:Int) (aB:FuncId) (ao:lVa) (aQ aD dz:Int) (Z:St) (Q4:St->Prop):Prop:=qk qj none yOR 141 (zPT ar ag ah a_1 b aB ao aQ aD dz) [] [zNU ar ag ah a_1 b aB ao aQ aD Q4] Z
def zNX (data:oAa) (ar:Addr) (ag ah:Nat) (a_1 b:Int) (aB:FuncId) (ao:lVa) (aQ aD:Int) (Z:St) (Nx:Int->Int->St->Prop) (Q0:St->Prop) (Qr:Bool->St->Prop):Prop:=kZ qj zJV [1,0,0,1,1,1,1,0,1,0,1,0] (zFK 141 [zLM data ag ah a_1 b aB ao Nx,zBJ data ag ah a_1 b aB ao Q0,zBI data ag ah a_1 b aB ao Qr]) (.exit 4) 141 (zZA ar ag ah a_1 b aB ao aQ aD) Z
def yOQ:Code:=(Code.part [1,1,0,1,0,0,1,0,0,1,1,1,1,1,1,0,1,0,0] (qh 111))
def zJT (ar:Addr) (ag ah:Nat) (a_1 b:Int) (aB:FuncId) (ao:lVa) (aQ aD ba:Int):lNa:=[(0,.slice (some ar) ag ah),(1,iV a_1),(2,iV b),(3,.func (.func aB) ⟨[]⟩ ⟨ao⟩),(9,iV aQ),(10,iV aD),(12,iV ba)]
def xGD (ar:Addr) (ag ah:Nat) (a_1 b:Int) (aB:FuncId) (ao:lVa) (aQ aD:Int) (Q:Int->St->Prop):Alt:=⟨Int,.normal,fun t=>zJT ar ag ah a_1 b aB ao aQ aD t,fun t=>[],fun t Z=>Q t Z⟩
def zYZ (ar:Addr) (ag ah:Nat) (a_1 b:Int) (aB:FuncId) (ao:lVa) (aQ aD:Int):lNa:=[(0,.slice (some ar) ag ah),(1,iV a_1),(2,iV b),(3,.func (.func aB) ⟨[]⟩ ⟨ao⟩),(9,iV aQ),(10,iV aD)]
def zHC (ar:Addr) (ag ah:Nat) (a_1 b:Int) (aB:FuncId) (ao:lVa) (aQ aD:Int) (Q:St->Prop):Alt:=⟨Unit,(.exit 6),fun t=>zYZ ar ag ah a_1 b aB ao aQ aD,fun t=>[],fun t Z=>Q Z⟩
def zPV (ar:Addr) (ag ah:Nat) (a_1 b:Int) (aB:FuncId) (ao:lVa) (aQ aD ba:Int) (Z:St) (Nx:Int->St->Prop) (Q6:St->Prop):Prop:=qi qj none yOQ 141 (zJT ar ag ah a_1 b aB ao aQ aD ba) [] [xGD ar ag ah a_1 b aB ao aQ aD Nx,zHC ar ag ah a_1 b aB ao aQ aD Q6] Z
def zJW (ar:Addr) (ag ah:Nat) (a_1 b:Int) (aB:FuncId) (ao:lVa) (aQ aD ba:Int) (Z:St) (Q6:St->Prop):Prop:=qk qj none yOQ 141 (zJT ar ag ah a_1 b aB ao aQ aD ba) [] [zHC ar ag ah a_1 b aB ao aQ aD Q6] Z
def zNW (data:oAa) (ar:Addr) (ag ah:Nat) (a_1 b:Int) (aB:FuncId) (ao:lVa) (aQ aD:Int) (Z:St) (Nx:Int->Int->St->Prop) (Q0:St->Prop) (Qr:Bool->St->Prop):Prop:=kZ qj zJV [1,0,0,1,1,1,1,1,1,0,1,0] (zFK 141 [zLM data ag ah a_1 b aB ao Nx,zBJ data ag ah a_1 b aB ao Q0,zBI data ag ah a_1 b aB ao Qr]) (.exit 6) 141 (zYZ ar ag ah a_1 b aB ao aQ aD) Z
def zZG:Prop:=kZ qj (qh 111) [1,1,0,1,0] (ql 111 q2) (.exit 0) 141 (zZD data ag ah a_1 b aB ao) Z
def zZF:Prop:=kZ qj (qh 111) [1,1,0,1,0] (ql 111 q2) .ret 141 (zZC data ag ah a_1 b aB ao t8_1) Z
end
variable {data:oAa} {ag ah:Nat} {a_1 b aG aQ nS nV nR nU nI nH nJ hi first aD nF nG nD nB nA nE nK nO nP nQ nW nEC nFC nBH lo_1 kB aE dW aZ bf bM nT nLB nFB nMB nNB nGB nJB nDB nEB nX nY nZ nAB dA n1 n2 n3 n4 n5 n6 bV nWB nBI nBJ nXB nYB nZB aH ba nCB nHB nOB nPB nQB nRB nVB bW nBK nBL nBM nBN nBO nBP nBQ nBi nBj nBk nBl nBm nBn nBo nBp nBq nBr nBs nBt bH dz nKB nIB nAC nBC nCC nDC:Int} {aB:FuncId} {ao:lVa} {Inv:Nat->Int->St->Prop} {Q0 P0 Pr P6:St->Prop} {Q2 Nx P2 Q4 P4 Q6 Q8 P8:Int->St->Prop} {ar:Addr} {ZT ZU Z ZQ ZG ZL ZA ZC ZV ZM ZGB ZHB ZIB Z7 Z8 ZK ZW ZJB ZKB ZLB ZMB ZNB ZOB ZN ZO ZPB ZQB:St} {Q:vPa} {Qr:Bool->St->Prop} {t8_1:Bool}
theorem zZX (hb:∀ k aG Z,Inv k aG Z->yJW data ag ah a_1 b aB ao aG Z (NX1 Inv k) Q0):∀ k aG Z,Inv k aG Z->xBZ data ag ah a_1 b aB ao aG Z Q0 :=
 xC (ai (xY 0) trivial) hb
theorem yWZ {Q2:St->Prop} (hb:∀ k aQ Z,Inv k aQ Z->zWT data ag ah a_1 b aB ao aG aQ Z (NX1 Inv k) Q2):∀ k aQ Z,Inv k aQ Z->xBY data ag ah a_1 b aB ao aG aQ Z Q2 :=
 xC (ai (xY 2) trivial) hb
theorem xNQ {Q2:St->Prop}:let y0:=rcd nS nV nR;let y1:=rcd nU nI nH;let y2:=zL ar (Int.toNat (aQ-1)*3);let y3:=zL ar (Int.toNat aQ*3);∀ (h1:lz Z 45 y3 (qf y0)) (h2:lz Z 45 y2 (qf y1)) (h3:qm aB (qf y0::(qf y1)::ao) Z (iV nJ) Z) (h4:qn (evL [pz y3,qf y1]) Z (.store 45 (.tmp 0) (.tmp 1))=some (undef,ZT)) (h5:qn (evL [pz y2,qf y0]) ZT (.store 45 (.tmp 0) (.tmp 1))=some (undef,ZU)) (nx:Nx (aQ-1) ZU) (u1:a_1<aQ:=by omega) (u2:Ix aQ ag:=by omega) (u3:I6 (aQ-1):=by omega) (u4:Ix (aQ-1) ag:=by omega) (u5:nJ<0:=by omega),zWT (some ar) ag ah a_1 b aB ao aG aQ Z Nx Q2 :=
 let y0:=rcd nS nV nR;let y1:=rcd nU nI nH;fun h1 h2 h3 h4 h5 nx u1 u2 u3 u4 u5=>kO 0 (aQ-1) [.g,.g,.b true,.g,.g,.g,.g,.i,.l (qf y0),.g,.g,.n (aQ-1),.i,.l (qf y1),.c (iV nJ) Z,.b true,.g,.g,.g,.g,.g,.n (aQ-1),.g,.g,.n (aQ-1),.i,.l (qf y1),.g,.g,.i,.l (qf y0),.i,.e undef ZT,.i,.e undef ZU,.g,.n (aQ-1),.g] (fun _ f=>ai (zR u1) (an6 u2 h1 (w64 u3) u4 h2 h3 (an6 (zR u5) (w64 u3) (w64 u3) u4 h2 u2 (an6 h1 u2 h4 u4 h5 (w64 u3) f)))) nx
theorem xNP {Q2:St->Prop} (h1:lz Z 45 (zL ar (Int.toNat aQ*3)) (qf (rcd nS nV nR))) (h2:lz Z 45 (zL ar (Int.toNat (aQ-1)*3)) (qf (rcd nU nI nH))) (h3:qm aB (qf (rcd nS nV nR)::(qf (rcd nU nI nH))::ao) Z (iV nJ) Z) (nx:Q2 Z) (u1:a_1<aQ:=by omega) (u2:Ix aQ ag:=by omega) (u3:I6 (aQ-1):=by omega) (u4:Ix (aQ-1) ag:=by omega) (u5:¬ nJ<0:=by omega):zWT (some ar) ag ah a_1 b aB ao aG aQ Z Nx Q2 :=
 kO 1 () [.g,.g,.b true,.g,.g,.g,.g,.i,.l (qf (rcd nS nV nR)),.g,.g,.n (aQ-1),.i,.l (qf (rcd nU nI nH)),.c (iV nJ) Z,.b false,.g] (fun _ f=>an2 (zR u1) u2 (an6 h1 (w64 u3) u4 h2 h3 (zT u5) f)) nx
theorem xNO {Q2:St->Prop} (nx:Q2 Z) (u1:¬ a_1<aQ:=by omega):zWT data ag ah a_1 b aB ao aG aQ Z Nx Q2 :=
 kO 1 () [.g,.g,.b false,.g,.g] (fun _ f=>ai (zT u1) f) nx
theorem xNR {P2:St->Prop} (hL:xBY data ag ah a_1 b aB ao aG aG Z P2) (k2:∀ Z',P2 Z'->yFU data ag ah a_1 b aB ao aG Z' Nx Q0) (u1:aG<b:=by omega):yJW data ag ah a_1 b aB ao aG Z Nx Q0 :=
 zCC [.g,.g,.b true,.g,.g,.lf 53 (zQB data ag ah a_1 b aB ao aG aG) [zSD data ag ah a_1 b aB ao aG P2]] (fun g=>kd (ai (zR u1) (ai (ai tt (ai (arf (zQB data ag ah a_1 b aB ao aG aG)) hL)) (ai (kz0 k2) trivial))))
theorem yPJ (nx:Q0 Z) (u1:¬ aG<b:=by omega):yJW data ag ah a_1 b aB ao aG Z Nx Q0 :=
 kO 1 () [.g,.g,.b false] (fun _ f=>ai (zT u1) f) nx
theorem yWY (nx:Nx (aG+1) Z) (u1:I6 (aG+1):=by omega):yFU data ag ah a_1 b aB ao aG Z Nx Q0 :=
 sF 0 (aG+1) [.g,.n (aG+1),.g] (fun _ f=>ai (w64 u1) f) nx
theorem xBW (hL:xBZ data ag ah a_1 b aB ao (a_1+1) Z P0) (k0:∀ Z',P0 Z'->yFV data ag ah a_1 b aB ao Z' Q) (u1:I6 (a_1+1):=by omega):qg 106 [.slice data ag ah,iV a_1,iV b,.func (.func aB) ⟨[]⟩ ⟨ao⟩] Z Q :=
 let s1:=zWS data ag ah a_1 b aB ao (a_1+1);zH [.g,.n (a_1+1),.g,.lf 53 s1 [zLU data ag ah a_1 b aB ao P0]] (kd (ai (w64 u1) (ai (ai tt (ai (arf s1) hL)) (ai (kz0 k0) trivial))))
theorem zZW (nx:Q (.tuple ⟨[]⟩) Z):yFV data ag ah a_1 b aB ao Z Q :=
 sK [] nx
theorem yMI {Qr:St->Prop} (hb:∀ k aD Z,Inv k aD Z->zCE data ag ah hi first aB ao aD Z (NX1 Inv k) Q0 Qr):∀ k aD Z,Inv k aD Z->yMK data ag ah hi first aB ao aD Z Q0 Qr :=
 xC (ai (xY 0) (ai uQ trivial)) hb
theorem xDQ {Qr:St->Prop} (nx:Q0 Z) (u1:I6 (2*aD):=by omega) (u2:I6 ((2*aD)+1):=by omega) (u3:hi<=((2*aD)+1):=by omega):zCE data ag ah hi first aB ao aD Z Nx Q0 Qr :=
 kO 1 () [.g,.n (2*aD),.n ((2*aD)+1),.g,.g,.g,.b true] (fun _ f=>an3 (w64 u1) (w64 u2) (yE u3) f) nx
theorem xDP {Qr:St->Prop}:let s1:=(2*aD)+1;let s2:=first+(s1+1);let s3:=first+aD;let s4:=first+s1;let y0:=rcd nW nEC nFC;let y1:=rcd nO nP nQ;let y2:=zL ar (Int.toNat s3*3);let y3:=zL ar (Int.toNat s2*3);∀ (h1:lz Z 45 (zL ar (Int.toNat s4*3)) (qf (rcd nF nG nD))) (h2:lz Z 45 (zL ar (Int.toNat (s4+1)*3)) (qf (rcd nB nA nE))) (h3:qm aB (qf (rcd nF nG nD)::(qf (rcd nB nA nE))::ao) Z (iV nK) Z) (h4:lz Z 45 y2 (qf y1)) (h5:lz Z 45 y3 (qf y0)) (h6:qm aB (qf y1::(qf y0)::ao) Z (iV nBH) Z) (h7:qn (evL [pz y2,qf y0]) Z (.store 45 (.tmp 0) (.tmp 1))=some (undef,ZQ)) (h8:qn (evL [pz y3,qf y1]) ZQ (.store 45 (.tmp 0) (.tmp 1))=some (undef,ZG)) (nx:Nx (s1+1) ZG) (u1:I6 (2*aD):=by omega) (u2:I6 s1:=by omega) (u3:¬ hi<=s1:=by omega) (u4:I6 (s1+1):=by omega) (u5:(s1+1)<hi:=by omega) (u6:I6 s4:=by omega) (u7:Ix s4 ag:=by omega) (u8:I6 (s4+1):=by omega) (u9:Ix (s4+1) ag:=by omega) (u10:nK<0:=by omega) (u11:I6 s3:=by omega) (u12:Ix s3 ag:=by omega) (u13:I6 s2:=by omega) (u14:Ix s2 ag:=by omega) (u15:nBH<0:=by omega),zCE (some ar) ag ah hi first aB ao aD Z Nx Q0 Qr:=
 let s1:=(2*aD)+1;let s2:=first+(s1+1);let s3:=first+aD;let s4:=first+s1;let y0:=rcd nW nEC nFC;let y1:=rcd nO nP nQ;fun h1 h2 h3 h4 h5 h6 h7 h8 nx u1 u2 u3 u4 u5 u6 u7 u8 u9 u10 u11 u12 u13 u14 u15=>kO 0 (s1+1) [.g,.n (2*aD),.n s1,.g,.g,.g,.b false,.g,.n (s1+1),.g,.b true,.g,.g,.g,.g,.g,.n s4,.i,.l (qf (rcd nF nG nD)),.g,.g,.g,.n s4,.n (s4+1),.i,.l (qf (rcd nB nA nE)),.c (iV nK) Z,.b true,.g,.g,.n (s1+1),.g,.g,.g,.g,.g,.n s3,.i,.l (qf y1),.g,.g,.g,.n s2,.i,.l (qf y0),.c (iV nBH) Z,.b true,.g,.g,.g,.g,.n s3,.g,.g,.g,.n s2,.g,.g,.g,.n s2,.i,.l (qf y0),.g,.g,.g,.n s3,.i,.l (qf y1),.i,.e undef ZQ,.i,.e undef ZG,.g,.g] (fun _ f=>an5 (w64 u1) (w64 u2) (yG u3) (w64 u4) (zR u5) (an6 (w64 u6) u7 h1 (w64 u6) (w64 u8) u9 (an6 h2 h3 (zR u10) (w64 u4) (w64 u11) u12 (an6 h4 (w64 u13) u14 h5 h6 (zR u15) (an6 (w64 u11) (w64 u13) (w64 u13) u14 h5 (w64 u11) (an6 u12 h4 u12 h7 u14 h8 f)))))) nx
theorem xDO {Qr:St->Prop}:let s1:=(2*aD)+1;let s2:=first+s1;∀ (h1:lz Z 45 (zL ar (Int.toNat s2*3)) (qf (rcd nF nG nD))) (h2:lz Z 45 (zL ar (Int.toNat (s2+1)*3)) (qf (rcd nB nA nE))) (h3:qm aB (qf (rcd nF nG nD)::(qf (rcd nB nA nE))::ao) Z (iV nK) Z) (h4:lz Z 45 (zL ar (Int.toNat (first+aD)*3)) (qf (rcd nO nP nQ))) (h5:lz Z 45 (zL ar (Int.toNat (first+(s1+1))*3)) (qf (rcd nW nEC nFC))) (h6:qm aB (qf (rcd nO nP nQ)::(qf (rcd nW nEC nFC))::ao) Z (iV nBH) Z) (nx:Qr Z) (u1:I6 (2*aD):=by omega) (u2:I6 s1:=by omega) (u3:¬ hi<=s1:=by omega) (u4:I6 (s1+1):=by omega) (u5:(s1+1)<hi:=by omega) (u6:I6 s2:=by omega) (u7:Ix s2 ag:=by omega) (u8:I6 (s2+1):=by omega) (u9:Ix (s2+1) ag:=by omega) (u10:nK<0:=by omega) (u11:I6 (first+aD):=by omega) (u12:Ix (first+aD) ag:=by omega) (u13:I6 (first+(s1+1)):=by omega) (u14:Ix (first+(s1+1)) ag:=by omega) (u15:¬ nBH<0:=by omega),zCE (some ar) ag ah hi first aB ao aD Z Nx Q0 Qr:=
 let s1:=(2*aD)+1;let s2:=first+s1;fun h1 h2 h3 h4 h5 h6 nx u1 u2 u3 u4 u5 u6 u7 u8 u9 u10 u11 u12 u13 u14 u15=>kO 2 () [.g,.n (2*aD),.n s1,.g,.g,.g,.b false,.g,.n (s1+1),.g,.b true,.g,.g,.g,.g,.g,.n s2,.i,.l (qf (rcd nF nG nD)),.g,.g,.g,.n s2,.n (s2+1),.i,.l (qf (rcd nB nA nE)),.c (iV nK) Z,.b true,.g,.g,.n (s1+1),.g,.g,.g,.g,.g,.n (first+aD),.i,.l (qf (rcd nO nP nQ)),.g,.g,.g,.n (first+(s1+1)),.i,.l (qf (rcd nW nEC nFC)),.c (iV nBH) Z,.b false,.g] (fun _ f=>an5 (w64 u1) (w64 u2) (yG u3) (w64 u4) (zR u5) (an6 (w64 u6) u7 h1 (w64 u6) (w64 u8) u9 (an6 h2 h3 (zR u10) (w64 u4) (w64 u11) u12 (an6 h4 (w64 u13) u14 h5 h6 (zT u15) f)))) nx
theorem xDN {Qr:St->Prop}:let s2:=(2*aD)+1;let s1:=first+s2;let s3:=first+aD;let y0:=rcd nF nG nD;let y1:=rcd nO nP nQ;let y2:=zL ar (Int.toNat s1*3);let y3:=zL ar (Int.toNat s3*3);∀ (h1:lz Z 45 y2 (qf y0)) (h2:lz Z 45 (zL ar (Int.toNat (s1+1)*3)) (qf (rcd nB nA nE))) (h3:qm aB (qf y0::(qf (rcd nB nA nE))::ao) Z (iV nK) Z) (h4:lz Z 45 y3 (qf y1)) (h5:qm aB (qf y1::(qf y0)::ao) Z (iV nW) Z) (h6:qn (evL [pz y3,qf y0]) Z (.store 45 (.tmp 0) (.tmp 1))=some (undef,ZL)) (h7:qn (evL [pz y2,qf y1]) ZL (.store 45 (.tmp 0) (.tmp 1))=some (undef,ZA)) (nx:Nx s2 ZA) (u1:I6 (2*aD):=by omega) (u2:I6 s2:=by omega) (u3:¬ hi<=s2:=by omega) (u4:I6 (s2+1):=by omega) (u5:(s2+1)<hi:=by omega) (u6:I6 s1:=by omega) (u7:Ix s1 ag:=by omega) (u8:I6 (s1+1):=by omega) (u9:Ix (s1+1) ag:=by omega) (u10:¬ nK<0:=by omega) (u11:I6 s3:=by omega) (u12:Ix s3 ag:=by omega) (u13:nW<0:=by omega),zCE (some ar) ag ah hi first aB ao aD Z Nx Q0 Qr:=
 let s2:=(2*aD)+1;let s1:=first+s2;let s3:=first+aD;let y0:=rcd nF nG nD;let y1:=rcd nO nP nQ;fun h1 h2 h3 h4 h5 h6 h7 nx u1 u2 u3 u4 u5 u6 u7 u8 u9 u10 u11 u12 u13=>kO 0 s2 [.g,.n (2*aD),.n s2,.g,.g,.g,.b false,.g,.n (s2+1),.g,.b true,.g,.g,.g,.g,.g,.n s1,.i,.l (qf y0),.g,.g,.g,.n s1,.n (s1+1),.i,.l (qf (rcd nB nA nE)),.c (iV nK) Z,.b false,.g,.g,.g,.g,.g,.n s3,.i,.l (qf y1),.g,.g,.g,.n s1,.i,.l (qf y0),.c (iV nW) Z,.b true,.g,.g,.g,.g,.n s3,.g,.g,.g,.n s1,.g,.g,.g,.n s1,.i,.l (qf y0),.g,.g,.g,.n s3,.i,.l (qf y1),.i,.e undef ZL,.i,.e undef ZA,.g,.g] (fun _ f=>an4 (w64 u1) (w64 u2) (yG u3) (w64 u4) (an6 (zR u5) (w64 u6) u7 h1 (w64 u6) (w64 u8) (an6 u9 h2 h3 (zT u10) (w64 u11) u12 (an6 h4 (w64 u6) u7 h1 h5 (zR u13) (an6 (w64 u11) (w64 u6) (w64 u6) u7 h1 (w64 u11) (an6 u12 h4 u12 h6 u7 h7 f)))))) nx
theorem xDM {Qr:St->Prop}:let s2:=2*aD;let s1:=first+(s2+1);let y0:=rcd nF nG nD;∀ (h1:lz Z 45 (zL ar (Int.toNat s1*3)) (qf y0)) (h2:lz Z 45 (zL ar (Int.toNat (s1+1)*3)) (qf (rcd nB nA nE))) (h3:qm aB (qf y0::(qf (rcd nB nA nE))::ao) Z (iV nK) Z) (h4:lz Z 45 (zL ar (Int.toNat (first+aD)*3)) (qf (rcd nO nP nQ))) (h5:qm aB (qf (rcd nO nP nQ)::(qf y0)::ao) Z (iV nW) Z) (nx:Qr Z) (u1:I6 s2:=by omega) (u2:I6 (s2+1):=by omega) (u3:¬ hi<=(s2+1):=by omega) (u4:I6 ((s2+1)+1):=by omega) (u5:((s2+1)+1)<hi:=by omega) (u6:I6 s1:=by omega) (u7:Ix s1 ag:=by omega) (u8:I6 (s1+1):=by omega) (u9:Ix (s1+1) ag:=by omega) (u10:¬ nK<0:=by omega) (u11:I6 (first+aD):=by omega) (u12:Ix (first+aD) ag:=by omega) (u13:¬ nW<0:=by omega),zCE (some ar) ag ah hi first aB ao aD Z Nx Q0 Qr:=
 let s2:=2*aD;let s1:=first+(s2+1);let y0:=rcd nF nG nD;fun h1 h2 h3 h4 h5 nx u1 u2 u3 u4 u5 u6 u7 u8 u9 u10 u11 u12 u13=>kO 2 () [.g,.n s2,.n (s2+1),.g,.g,.g,.b false,.g,.n ((s2+1)+1),.g,.b true,.g,.g,.g,.g,.g,.n s1,.i,.l (qf y0),.g,.g,.g,.n s1,.n (s1+1),.i,.l (qf (rcd nB nA nE)),.c (iV nK) Z,.b false,.g,.g,.g,.g,.g,.n (first+aD),.i,.l (qf (rcd nO nP nQ)),.g,.g,.g,.n s1,.i,.l (qf y0),.c (iV nW) Z,.b false,.g] (fun _ f=>an4 (w64 u1) (w64 u2) (yG u3) (w64 u4) (an6 (zR u5) (w64 u6) u7 h1 (w64 u6) (w64 u8) (an6 u9 h2 h3 (zT u10) (w64 u11) u12 (an6 h4 (w64 u6) u7 h1 h5 (zT u13) f)))) nx
theorem xDL {Qr:St->Prop}:let s1:=(2*aD)+1;let s2:=first+aD;let s3:=first+s1;let y0:=rcd nF nG nD;let y1:=rcd nB nA nE;let y2:=zL ar (Int.toNat s2*3);let y3:=zL ar (Int.toNat s3*3);∀ (h1:lz Z 45 y2 (qf y0)) (h2:lz Z 45 y3 (qf y1)) (h3:qm aB (qf y0::(qf y1)::ao) Z (iV nK) Z) (h4:qn (evL [pz y2,qf y1]) Z (.store 45 (.tmp 0) (.tmp 1))=some (undef,ZC)) (h5:qn (evL [pz y3,qf y0]) ZC (.store 45 (.tmp 0) (.tmp 1))=some (undef,ZV)) (nx:Nx s1 ZV) (u1:I6 (2*aD):=by omega) (u2:I6 s1:=by omega) (u3:¬ hi<=s1:=by omega) (u4:I6 (s1+1):=by omega) (u5:¬ (s1+1)<hi:=by omega) (u6:I6 s2:=by omega) (u7:Ix s2 ag:=by omega) (u8:I6 s3:=by omega) (u9:Ix s3 ag:=by omega) (u10:nK<0:=by omega),zCE (some ar) ag ah hi first aB ao aD Z Nx Q0 Qr:=
 let s1:=(2*aD)+1;let s2:=first+aD;let s3:=first+s1;let y0:=rcd nF nG nD;let y1:=rcd nB nA nE;fun h1 h2 h3 h4 h5 nx u1 u2 u3 u4 u5 u6 u7 u8 u9 u10=>kO 0 s1 [.g,.n (2*aD),.n s1,.g,.g,.g,.b false,.g,.n (s1+1),.g,.b false,.g,.g,.g,.g,.g,.g,.n s2,.i,.l (qf y0),.g,.g,.g,.n s3,.i,.l (qf y1),.c (iV nK) Z,.b true,.g,.g,.g,.g,.n s2,.g,.g,.g,.n s3,.g,.g,.g,.n s3,.i,.l (qf y1),.g,.g,.g,.n s2,.i,.l (qf y0),.i,.e undef ZC,.i,.e undef ZV,.g,.g] (fun _ f=>ai (w64 u1) (an6 (w64 u2) (yG u3) (w64 u4) (zT u5) (w64 u6) u7 (an6 h1 (w64 u8) u9 h2 h3 (zR u10) (an6 (w64 u6) (w64 u8) (w64 u8) u9 h2 (w64 u6) (an6 u7 h1 u7 h4 u9 h5 f))))) nx
theorem xDK {Qr:St->Prop} (h1:lz Z 45 (zL ar (Int.toNat (first+aD)*3)) (qf (rcd nF nG nD))) (h2:lz Z 45 (zL ar (Int.toNat (first+((2*aD)+1))*3)) (qf (rcd nB nA nE))) (h3:qm aB (qf (rcd nF nG nD)::(qf (rcd nB nA nE))::ao) Z (iV nK) Z) (nx:Qr Z) (u1:I6 (2*aD):=by omega) (u2:I6 ((2*aD)+1):=by omega) (u3:¬ hi<=((2*aD)+1):=by omega) (u4:I6 (((2*aD)+1)+1):=by omega) (u5:¬ (((2*aD)+1)+1)<hi:=by omega) (u6:I6 (first+aD):=by omega) (u7:Ix (first+aD) ag:=by omega) (u8:I6 (first+((2*aD)+1)):=by omega) (u9:Ix (first+((2*aD)+1)) ag:=by omega) (u10:¬ nK<0:=by omega):zCE (some ar) ag ah hi first aB ao aD Z Nx Q0 Qr :=
 let s1:=(2*aD)+1;kO 2 () [.g,.n (2*aD),.n s1,.g,.g,.g,.b false,.g,.n (s1+1),.g,.b false,.g,.g,.g,.g,.g,.g,.n (first+aD),.i,.l (qf (rcd nF nG nD)),.g,.g,.g,.n (first+s1),.i,.l (qf (rcd nB nA nE)),.c (iV nK) Z,.b false,.g] (fun _ f=>ai (w64 u1) (an6 (w64 u2) (yG u3) (w64 u4) (zT u5) (w64 u6) u7 (an6 h1 (w64 u8) u9 h2 h3 (zT u10) f))) nx
theorem xJY (hL:yMK data ag ah hi first aB ao lo_1 Z P0 Pr) (k0:∀ Z',P0 Z'->zXT data ag ah hi first aB ao Z' Q) (kr:∀ Z',Pr Z'->zXS data ag ah hi first aB ao Z' Q):qg 121 [.slice data ag ah,iV lo_1,iV hi,iV first,.func (.func aB) ⟨[]⟩ ⟨ao⟩] Z Q :=
 zH [.g,.g,.lf 82 (zIW data ag ah hi first aB ao lo_1) [zNJ data ag ah hi first aB ao P0,zNI data ag ah hi first aB ao Pr]] (kd (ai (ai tt (ai (arf (zIW data ag ah hi first aB ao lo_1)) hL)) (ai (kz0 k0) (ai (kz0 kr) trivial))))
theorem yMH (nx:Q (.tuple ⟨[]⟩) Z):zXT data ag ah hi first aB ao Z Q :=
 sK [] nx
theorem yMG (nx:Q (.tuple ⟨[]⟩) Z):zXS data ag ah hi first aB ao Z Q :=
 sK [] nx
theorem yPU (hb:∀ k aE Z,Inv k aE Z->yAJ data ag ah aB ao a_1 kB aE Z (NX1 Inv k) Q0):∀ k aE Z,Inv k aE Z->yPY data ag ah aB ao a_1 kB aE Z Q0 :=
 xC (ai (xY 0) trivial) hb
theorem xGW (h1:qm 121 [.slice data ag ah,iV aE,iV kB,iV a_1,.func (.func aB) ⟨[]⟩ ⟨ao⟩] Z (.tuple ⟨[]⟩) ZM) (nx:Nx (aE-1) ZM) (u1:0<=aE:=by omega) (u2:I6 (aE-1):=by omega):yAJ data ag ah aB ao a_1 kB aE Z Nx Q0 :=
 kO 0 (aE-1) [.g,.b true,.g,.g,.g,.g,.g,.c (.tuple ⟨[]⟩) ZM,.g,.n (aE-1),.g] (fun _ f=>an3 (yE u1) h1 (w64 u2) f) nx
theorem xGV (nx:Q0 Z) (u1:¬ 0<=aE:=by omega):yAJ data ag ah aB ao a_1 kB aE Z Nx Q0 :=
 kO 1 () [.g,.b false] (fun _ f=>ai (yG u1) f) nx
theorem xOL (h1:IntKind.wrap .i64 (Int.tdiv ((b-a_1)-1) 2)=Int.tdiv ((b-a_1)-1) 2) (hL:yPY data ag ah aB ao a_1 (b-a_1) (Int.tdiv ((b-a_1)-1) 2) Z P0) (k0:∀ Z',P0 Z'->yAH data ag ah aB ao a_1 (b-a_1) Z' Q) (u1:I6 (b-a_1):=by omega) (u2:I6 ((b-a_1)-1):=by omega):qg 107 [.slice data ag ah,iV a_1,iV b,.func (.func aB) ⟨[]⟩ ⟨ao⟩] Z Q :=
 let s1:=zQJ data ag ah aB ao a_1 (b-a_1) (Int.tdiv ((b-a_1)-1) 2);zH [.g,.g,.g,.g,.g,.n (b-a_1),.g,.g,.n ((b-a_1)-1),.n (Int.tdiv ((b-a_1)-1) 2),.g,.lf 60 s1 [zOF data ag ah aB ao a_1 (b-a_1) P0]] (kd (an3 (w64 u1) (w64 u2) h1 (ai (ai tt (ai (arf s1) hL)) (ai (kz0 k0) trivial))))
theorem yPT {Q2:St->Prop} (hb:∀ k dW Z,Inv k dW Z->yAI data ag ah aB ao a_1 dW Z (NX1 Inv k) Q2):∀ k dW Z,Inv k dW Z->yPX data ag ah aB ao a_1 dW Z Q2 :=
 xC (ai (xY 2) trivial) hb
theorem xGU {Q2:St->Prop} (h1:lz Z 45 (zL ar (Int.toNat (a_1+dW)*3)) (qf (rcd nS nV nR))) (h2:lz Z 45 (zL ar (Int.toNat a_1*3)) (qf (rcd nU nI nH))) (h3:qn (evL [pz (zL ar (Int.toNat a_1*3)),qf (rcd nS nV nR)]) Z (.store 45 (.tmp 0) (.tmp 1))=some (undef,ZGB)) (h4:qn (evL [pz (zL ar (Int.toNat (a_1+dW)*3)),qf (rcd nU nI nH)]) ZGB (.store 45 (.tmp 0) (.tmp 1))=some (undef,ZT)) (h5:qm 121 [.slice (some ar) ag ah,iV 0,iV dW,iV a_1,.func (.func aB) ⟨[]⟩ ⟨ao⟩] ZT (.tuple ⟨[]⟩) ZU) (nx:Nx (dW-1) ZU) (u1:0<=dW:=by omega) (u2:I6 (a_1+dW):=by omega) (u3:Ix (a_1+dW) ag:=by omega) (u4:Ix a_1 ag:=by omega) (u5:I6 (dW-1):=by omega):yAI (some ar) ag ah aB ao a_1 dW Z Nx Q2 :=
 kO 0 (dW-1) [.g,.b true,.g,.g,.g,.g,.g,.n (a_1+dW),.g,.g,.g,.n (a_1+dW),.i,.l (qf (rcd nS nV nR)),.g,.g,.i,.l (qf (rcd nU nI nH)),.i,.e undef ZGB,.i,.e undef ZT,.g,.g,.g,.g,.g,.c (.tuple ⟨[]⟩) ZU,.g,.n (dW-1),.g] (fun _ f=>ai (yE u1) (an6 (w64 u2) (w64 u2) u3 h1 u4 h2 (an6 u4 h3 u3 h4 h5 (w64 u5) f))) nx
theorem xGT {Q2:St->Prop} (nx:Q2 Z) (u1:¬ 0<=dW:=by omega):yAI data ag ah aB ao a_1 dW Z Nx Q2 :=
 kO 1 () [.g,.b false] (fun _ f=>ai (yG u1) f) nx
theorem yPS {P2:St->Prop} (hL:yPX data ag ah aB ao a_1 (kB-1) Z P2) (k2:∀ Z',P2 Z'->yAG data ag ah aB ao a_1 Z' Q) (u1:I6 (kB-1):=by omega):yAH data ag ah aB ao a_1 kB Z Q :=
 let s1:=zQI data ag ah aB ao a_1 (kB-1);sK [.g,.n (kB-1),.g,.lf 60 s1 [zOE data ag ah aB ao a_1 P2]] (ai (w64 u1) (ai (ai tt (ai (arf s1) hL)) (ai (kz0 k2) trivial)))
theorem yPR (nx:Q (.tuple ⟨[]⟩) Z):yAG data ag ah aB ao a_1 Z Q :=
 sK [] nx
theorem yJL {Inv:Nat->Int->Int->St->Prop} {Q0:Int->St->Prop} (hb:∀ k aE aZ Z,Inv k aE aZ Z->yFG ar ag ah a_1 aB ao aE aZ Z (NX2 Inv k) Q0):∀ k aE aZ Z,Inv k aE aZ Z->yFF ar ag ah a_1 aB ao aE aZ Z Q0 :=
 zCP (ai (xY 0) trivial) hb
theorem yJK (hb:∀ k bf Z,Inv k bf Z->zLQ ar ag ah a_1 aB ao aZ bf Z (NX1 Inv k) Q2):∀ k bf Z,Inv k bf Z->yFE ar ag ah a_1 aB ao aZ bf Z Q2 :=
 xC (ai (xY 2) trivial) hb
theorem yWC (h1:lz Z 45 (zL ar (Int.toNat a_1*3)) (qf (rcd nS nV nR))) (h2:lz Z 45 (zL ar (Int.toNat bf*3)) (qf (rcd nU nI nH))) (h3:qm aB (qf (rcd nS nV nR)::(qf (rcd nU nI nH))::ao) Z (iV nJ) Z) (nx:Q2 bf Z) (u1:bf<=aZ:=by omega) (u2:Ix a_1 ag:=by omega) (u3:Ix bf ag:=by omega) (u4:nJ<0:=by omega):zLQ ar ag ah a_1 aB ao aZ bf Z Nx Q2 :=
 kO 1 bf [.g,.g,.b true,.g,.g,.g,.g,.i,.l (qf (rcd nS nV nR)),.g,.g,.i,.l (qf (rcd nU nI nH)),.c (iV nJ) Z,.b true,.g,.g] (fun _ f=>ai (yE u1) (an6 u2 h1 u3 h2 h3 (zR u4) f)) nx
theorem yWB (h1:lz Z 45 (zL ar (Int.toNat a_1*3)) (qf (rcd nS nV nR))) (h2:lz Z 45 (zL ar (Int.toNat bf*3)) (qf (rcd nU nI nH))) (h3:qm aB (qf (rcd nS nV nR)::(qf (rcd nU nI nH))::ao) Z (iV nJ) Z) (nx:Nx (bf+1) Z) (u1:bf<=aZ:=by omega) (u2:Ix a_1 ag:=by omega) (u3:Ix bf ag:=by omega) (u4:¬ nJ<0:=by omega) (u5:I6 (bf+1):=by omega):zLQ ar ag ah a_1 aB ao aZ bf Z Nx Q2 :=
 kO 0 (bf+1) [.g,.g,.b true,.g,.g,.g,.g,.i,.l (qf (rcd nS nV nR)),.g,.g,.i,.l (qf (rcd nU nI nH)),.c (iV nJ) Z,.b false,.g,.g,.g,.n (bf+1),.g] (fun _ f=>an2 (yE u1) u2 (an6 h1 u3 h2 h3 (zT u4) (w64 u5) f)) nx
theorem yWA (nx:Q2 bf Z) (u1:¬ bf<=aZ:=by omega):zLQ ar ag ah a_1 aB ao aZ bf Z Nx Q2 :=
 kO 1 bf [.g,.g,.b false,.g,.g] (fun _ f=>ai (yG u1) f) nx
theorem yWD {Nx:Int->Int->St->Prop} {Q0:Int->St->Prop} (hL:yFE ar ag ah a_1 aB ao aZ aE Z P2) (k2:∀ i11_2' Z',P2 i11_2' Z'->zUQ ar ag ah a_1 aB ao aZ i11_2' Z' Nx Q0):yFG ar ag ah a_1 aB ao aE aZ Z Nx Q0 :=
 zCC [.lf 90 (zFY ar ag ah a_1 aB ao aZ aE) [zJY ar ag ah a_1 aB ao aZ P2]] (fun g=>kd (ai (ai tt (ai (arf (zFY ar ag ah a_1 aB ao aZ aE)) hL)) (ai (kz1 k2) trivial)))
theorem yJJ (hb:∀ k bM Z,Inv k bM Z->zLP ar ag ah a_1 aB ao bf bM Z (NX1 Inv k) Q4):∀ k bM Z,Inv k bM Z->yFD ar ag ah a_1 aB ao bf bM Z Q4 :=
 xC (ai (xY 4) trivial) hb
theorem yVZ (h1:lz Z 45 (zL ar (Int.toNat a_1*3)) (qf (rcd nT nLB nFB))) (h2:lz Z 45 (zL ar (Int.toNat bM*3)) (qf (rcd nMB nNB nGB))) (h3:qm aB (qf (rcd nT nLB nFB)::(qf (rcd nMB nNB nGB))::ao) Z (iV nJB) Z) (nx:Nx (bM-1) Z) (u1:bf<=bM:=by omega) (u2:Ix a_1 ag:=by omega) (u3:Ix bM ag:=by omega) (u4:nJB<0:=by omega) (u5:I6 (bM-1):=by omega):zLP ar ag ah a_1 aB ao bf bM Z Nx Q4 :=
 kO 0 (bM-1) [.g,.g,.b true,.g,.g,.g,.g,.i,.l (qf (rcd nT nLB nFB)),.g,.g,.i,.l (qf (rcd nMB nNB nGB)),.c (iV nJB) Z,.b true,.g,.g,.n (bM-1),.g] (fun _ f=>an2 (yE u1) u2 (an6 h1 u3 h2 h3 (zR u4) (w64 u5) f)) nx
theorem yVY (h1:lz Z 45 (zL ar (Int.toNat a_1*3)) (qf (rcd nT nLB nFB))) (h2:lz Z 45 (zL ar (Int.toNat bM*3)) (qf (rcd nMB nNB nGB))) (h3:qm aB (qf (rcd nT nLB nFB)::(qf (rcd nMB nNB nGB))::ao) Z (iV nJB) Z) (nx:Q4 bM Z) (u1:bf<=bM:=by omega) (u2:Ix a_1 ag:=by omega) (u3:Ix bM ag:=by omega) (u4:¬ nJB<0:=by omega):zLP ar ag ah a_1 aB ao bf bM Z Nx Q4 :=
 kO 1 bM [.g,.g,.b true,.g,.g,.g,.g,.i,.l (qf (rcd nT nLB nFB)),.g,.g,.i,.l (qf (rcd nMB nNB nGB)),.c (iV nJB) Z,.b false,.g] (fun _ f=>ai (yE u1) (an6 u2 h1 u3 h2 h3 (zT u4) f)) nx
theorem yVX (nx:Q4 bM Z) (u1:¬ bf<=bM:=by omega):zLP ar ag ah a_1 aB ao bf bM Z Nx Q4 :=
 kO 1 bM [.g,.g,.b false,.g,.g] (fun _ f=>ai (yG u1) f) nx
theorem yJH {Nx:Int->Int->St->Prop} {Q0:Int->St->Prop} (hL:yFD ar ag ah a_1 aB ao bf aZ Z P4) (k4:∀ i12_3' Z',P4 i12_3' Z'->zJZ ar ag ah a_1 aB ao bf i12_3' Z' Nx Q0):zUQ ar ag ah a_1 aB ao aZ bf Z Nx Q0 :=
 sK [.lf 90 (zFX ar ag ah a_1 aB ao bf aZ) [zJX ar ag ah a_1 aB ao bf P4]] (ai (ai tt (ai (arf (zFX ar ag ah a_1 aB ao bf aZ)) hL)) (ai (kz1 k4) trivial))
theorem yJG {Nx:Int->Int->St->Prop} {Q0:Int->St->Prop} (nx:Q0 bf Z) (u1:bM<bf:=by omega):zJZ ar ag ah a_1 aB ao bf bM Z Nx Q0 :=
 sF 1 bf [.g,.g,.b true] (fun _ f=>ai (zR u1) f) nx
theorem yJF {Nx:Int->Int->St->Prop} {Q0:Int->St->Prop} (h1:lz Z 45 (zL ar (Int.toNat bM*3)) (qf (rcd nDB nEB nX))) (h2:lz Z 45 (zL ar (Int.toNat bf*3)) (qf (rcd nY nZ nAB))) (h3:qn (evL [pz (zL ar (Int.toNat bf*3)),qf (rcd nDB nEB nX)]) Z (.store 45 (.tmp 0) (.tmp 1))=some (undef,ZHB)) (h4:qn (evL [pz (zL ar (Int.toNat bM*3)),qf (rcd nY nZ nAB)]) ZHB (.store 45 (.tmp 0) (.tmp 1))=some (undef,ZIB)) (nx:Nx (bf+1) (bM-1) ZIB) (u1:¬ bM<bf:=by omega) (u2:Ix bM ag:=by omega) (u3:Ix bf ag:=by omega) (u4:I6 (bf+1):=by omega) (u5:I6 (bM-1):=by omega):zJZ ar ag ah a_1 aB ao bf bM Z Nx Q0 :=
 sF 0 (bf+1,bM-1) [.g,.g,.b false,.g,.g,.g,.g,.g,.g,.i,.l (qf (rcd nDB nEB nX)),.g,.g,.i,.l (qf (rcd nY nZ nAB)),.i,.e undef ZHB,.i,.e undef ZIB,.g,.n (bf+1),.g,.g,.n (bM-1),.g] (fun _ f=>an5 (zT u1) u2 h1 u3 h2 (an6 u3 h3 u2 h4 (w64 u4) (w64 u5) f)) nx
theorem xGG {P0:Int->St->Prop} (h1:lz Z 45 (zL ar (Int.toNat dA*3)) (qf (rcd n1 n2 n3))) (h2:lz Z 45 (zL ar (Int.toNat a_1*3)) (qf (rcd n4 n5 n6))) (h3:qn (evL [pz (zL ar (Int.toNat a_1*3)),qf (rcd n1 n2 n3)]) Z (.store 45 (.tmp 0) (.tmp 1))=some (undef,Z7)) (h4:qn (evL [pz (zL ar (Int.toNat dA*3)),qf (rcd n4 n5 n6)]) Z7 (.store 45 (.tmp 0) (.tmp 1))=some (undef,Z8)) (hL:yFF ar ag ah a_1 aB ao (a_1+1) (b-1) Z8 P0) (k0:∀ i11_1' Z',P0 i11_1' Z'->zUR ar ag ah a_1 aB ao i11_1' Z' Q) (u1:Ix dA ag:=by omega) (u2:Ix a_1 ag:=by omega) (u3:I6 (a_1+1):=by omega) (u4:I6 (b-1):=by omega):qg 112 [.slice (some ar) ag ah,iV a_1,iV b,iV dA,.func (.func aB) ⟨[]⟩ ⟨ao⟩] Z Q :=
 let s1:=zLN ar ag ah a_1 aB ao (a_1+1) (b-1);zH [.g,.g,.g,.g,.g,.g,.g,.i,.l (qf (rcd n1 n2 n3)),.g,.g,.i,.l (qf (rcd n4 n5 n6)),.i,.e undef Z7,.i,.e undef Z8,.g,.n (a_1+1),.g,.n (b-1),.g,.g,.lf 90 s1 [zCH ar ag ah a_1 aB ao P0]] (kd (an4 u1 h1 u2 h2 (an6 u2 h3 u1 h4 (w64 u3) (w64 u4) (ai (ai tt (ai (arf s1) hL)) (ai (kz1 k0) trivial)))))
theorem yJI (nx:Q (iV aE) Z):zUR ar ag ah a_1 aB ao aE Z Q :=
 sK [.g,.g] nx
theorem yVV {Q0:Int->St->Prop} (hb:∀ k aZ Z,Inv k aZ Z->zWQ ar ag ah a_1 aB ao kB aZ Z (NX1 Inv k) Q0):∀ k aZ Z,Inv k aZ Z->xBK ar ag ah a_1 aB ao kB aZ Z Q0 :=
 xC (ai (xY 0) trivial) hb
theorem xLW {Q0:Int->St->Prop} (h1:lz Z 45 (zL ar (Int.toNat aZ*3)) (qf (rcd nF nG nD))) (h2:lz Z 45 (zL ar (Int.toNat a_1*3)) (qf (rcd nB nA nE))) (h3:qm aB (qf (rcd nF nG nD)::(qf (rcd nB nA nE))::ao) Z (iV nK) Z) (nx:Nx (aZ+1) Z) (u1:aZ<=kB:=by omega) (u2:Ix aZ ag:=by omega) (u3:Ix a_1 ag:=by omega) (u4:nK<0:=by omega) (u5:I6 (aZ+1):=by omega):zWQ ar ag ah a_1 aB ao kB aZ Z Nx Q0 :=
 kO 0 (aZ+1) [.g,.g,.b true,.g,.g,.g,.g,.i,.l (qf (rcd nF nG nD)),.g,.g,.i,.l (qf (rcd nB nA nE)),.c (iV nK) Z,.b true,.g,.g,.n (aZ+1),.g] (fun _ f=>an2 (yE u1) u2 (an6 h1 u3 h2 h3 (zR u4) (w64 u5) f)) nx
theorem xLV {Q0:Int->St->Prop} (h1:lz Z 45 (zL ar (Int.toNat aZ*3)) (qf (rcd nF nG nD))) (h2:lz Z 45 (zL ar (Int.toNat a_1*3)) (qf (rcd nB nA nE))) (h3:qm aB (qf (rcd nF nG nD)::(qf (rcd nB nA nE))::ao) Z (iV nK) Z) (nx:Q0 aZ Z) (u1:aZ<=kB:=by omega) (u2:Ix aZ ag:=by omega) (u3:Ix a_1 ag:=by omega) (u4:¬ nK<0:=by omega):zWQ ar ag ah a_1 aB ao kB aZ Z Nx Q0 :=
 kO 1 aZ [.g,.g,.b true,.g,.g,.g,.g,.i,.l (qf (rcd nF nG nD)),.g,.g,.i,.l (qf (rcd nB nA nE)),.c (iV nK) Z,.b false,.g] (fun _ f=>ai (yE u1) (an6 u2 h1 u3 h2 h3 (zT u4) f)) nx
theorem xLU {Q0:Int->St->Prop} (nx:Q0 aZ Z) (u1:¬ aZ<=kB:=by omega):zWQ ar ag ah a_1 aB ao kB aZ Z Nx Q0 :=
 kO 1 aZ [.g,.g,.b false,.g,.g] (fun _ f=>ai (yG u1) f) nx
theorem xTK {P0:Int->St->Prop} (h1:lz Z 45 (zL ar (Int.toNat dA*3)) (qf (rcd n1 n2 n3))) (h2:lz Z 45 (zL ar (Int.toNat a_1*3)) (qf (rcd n4 n5 n6))) (h3:qn (evL [pz (zL ar (Int.toNat a_1*3)),qf (rcd n1 n2 n3)]) Z (.store 45 (.tmp 0) (.tmp 1))=some (undef,Z7)) (h4:qn (evL [pz (zL ar (Int.toNat dA*3)),qf (rcd n4 n5 n6)]) Z7 (.store 45 (.tmp 0) (.tmp 1))=some (undef,Z8)) (hL:xBK ar ag ah a_1 aB ao (b-1) (a_1+1) Z8 P0) (k0:∀ i12_1' Z',P0 i12_1' Z'->yFA ar ag ah a_1 aB ao (b-1) i12_1' Z' Q) (u1:Ix dA ag:=by omega) (u2:Ix a_1 ag:=by omega) (u3:I6 (a_1+1):=by omega) (u4:I6 (b-1):=by omega):qg 113 [.slice (some ar) ag ah,iV a_1,iV b,iV dA,.func (.func aB) ⟨[]⟩ ⟨ao⟩] Z Q :=
 let s1:=zWL ar ag ah a_1 aB ao (b-1) (a_1+1);zH [.g,.g,.g,.g,.g,.g,.g,.g,.i,.l (qf (rcd n1 n2 n3)),.g,.g,.i,.l (qf (rcd n4 n5 n6)),.i,.e undef Z7,.i,.e undef Z8,.g,.n (a_1+1),.g,.n (b-1),.g,.g,.lf 178 s1 [zRV ar ag ah a_1 aB ao (b-1) P0]] (kd (an4 u1 h1 u2 h2 (an6 u2 h3 u1 h4 (w64 u3) (w64 u4) (ai (ai tt (ai (arf s1) hL)) (ai (kz1 k0) trivial)))))
theorem yVU (hb:∀ k bV Z,Inv k bV Z->zWP ar ag ah a_1 aB ao aZ bV Z (NX1 Inv k) Q2):∀ k bV Z,Inv k bV Z->xBJ ar ag ah a_1 aB ao aZ bV Z Q2 :=
 xC (ai (xY 2) trivial) hb
theorem xLT (h1:lz Z 45 (zL ar (Int.toNat bV*3)) (qf (rcd nS nV nR))) (h2:lz Z 45 (zL ar (Int.toNat a_1*3)) (qf (rcd nU nI nH))) (h3:qm aB (qf (rcd nS nV nR)::(qf (rcd nU nI nH))::ao) Z (iV nJ) Z) (nx:Q2 bV Z) (u1:aZ<=bV:=by omega) (u2:Ix bV ag:=by omega) (u3:Ix a_1 ag:=by omega) (u4:nJ<0:=by omega):zWP ar ag ah a_1 aB ao aZ bV Z Nx Q2 :=
 kO 1 bV [.g,.g,.b true,.g,.g,.g,.g,.i,.l (qf (rcd nS nV nR)),.g,.g,.i,.l (qf (rcd nU nI nH)),.c (iV nJ) Z,.b true,.g,.g] (fun _ f=>ai (yE u1) (an6 u2 h1 u3 h2 h3 (zR u4) f)) nx
theorem xLS (h1:lz Z 45 (zL ar (Int.toNat bV*3)) (qf (rcd nS nV nR))) (h2:lz Z 45 (zL ar (Int.toNat a_1*3)) (qf (rcd nU nI nH))) (h3:qm aB (qf (rcd nS nV nR)::(qf (rcd nU nI nH))::ao) Z (iV nJ) Z) (nx:Nx (bV-1) Z) (u1:aZ<=bV:=by omega) (u2:Ix bV ag:=by omega) (u3:Ix a_1 ag:=by omega) (u4:¬ nJ<0:=by omega) (u5:I6 (bV-1):=by omega):zWP ar ag ah a_1 aB ao aZ bV Z Nx Q2 :=
 kO 0 (bV-1) [.g,.g,.b true,.g,.g,.g,.g,.i,.l (qf (rcd nS nV nR)),.g,.g,.i,.l (qf (rcd nU nI nH)),.c (iV nJ) Z,.b false,.g,.g,.g,.n (bV-1),.g] (fun _ f=>an2 (yE u1) u2 (an6 h1 u3 h2 h3 (zT u4) (w64 u5) f)) nx
theorem xLR (nx:Q2 bV Z) (u1:¬ aZ<=bV:=by omega):zWP ar ag ah a_1 aB ao aZ bV Z Nx Q2 :=
 kO 1 bV [.g,.g,.b false,.g,.g] (fun _ f=>ai (yG u1) f) nx
theorem yVQ (hL:xBJ ar ag ah a_1 aB ao aZ kB Z P2) (k2:∀ i13_2' Z',P2 i13_2' Z'->zRX ar ag ah a_1 aB ao aZ i13_2' Z' Q):yFA ar ag ah a_1 aB ao kB aZ Z Q :=
 sK [.lf 178 (zPS ar ag ah a_1 aB ao aZ kB) [zRU ar ag ah a_1 aB ao aZ P2]] (ai (ai tt (ai (arf (zPS ar ag ah a_1 aB ao aZ kB)) hL)) (ai (kz1 k2) trivial))
theorem yVP (h1:lz Z 45 (zL ar (Int.toNat a_1*3)) (qf (rcd nWB nBI nBJ))) (h2:lz Z 45 (zL ar (Int.toNat bV*3)) (qf (rcd nXB nYB nZB))) (h3:qn (evL [pz (zL ar (Int.toNat bV*3)),qf (rcd nWB nBI nBJ)]) Z (.store 45 (.tmp 0) (.tmp 1))=some (undef,ZK)) (h4:qn (evL [pz (zL ar (Int.toNat a_1*3)),qf (rcd nXB nYB nZB)]) ZK (.store 45 (.tmp 0) (.tmp 1))=some (undef,ZW)) (nx:Q (.tuple ⟨[iV bV,.bool true]⟩) ZW) (u1:bV<aZ:=by omega) (u2:Ix a_1 ag:=by omega) (u3:Ix bV ag:=by omega):zRX ar ag ah a_1 aB ao aZ bV Z Q :=
 sK [.g,.g,.b true,.g,.g,.g,.g,.g,.g,.i,.l (qf (rcd nWB nBI nBJ)),.g,.g,.i,.l (qf (rcd nXB nYB nZB)),.i,.e undef ZK,.i,.e undef ZW,.g,.g,.g] (an3 (zR u1) u2 h1 (an6 u3 h2 u3 h3 u2 h4 nx))
theorem yVT {Inv:Nat->Int->Int->St->Prop} (hb:∀ k bM aH Z,Inv k bM aH Z->xBL ar ag ah a_1 aB ao bM aH Z (NX2 Inv k) Q4):∀ k bM aH Z,Inv k bM aH Z->xBI ar ag ah a_1 aB ao bM aH Z Q4 :=
 zCP (ai (xY 4) trivial) hb
theorem yVS (hb:∀ k ba Z,Inv k ba Z->zWO ar ag ah a_1 aB ao aH ba Z (NX1 Inv k) Q6):∀ k ba Z,Inv k ba Z->xBH ar ag ah a_1 aB ao aH ba Z Q6 :=
 xC (ai (xY 6) trivial) hb
theorem xLP (h1:lz Z 45 (zL ar (Int.toNat ba*3)) (qf (rcd nCB nHB nOB))) (h2:lz Z 45 (zL ar (Int.toNat a_1*3)) (qf (rcd nPB nQB nRB))) (h3:qm aB (qf (rcd nCB nHB nOB)::(qf (rcd nPB nQB nRB))::ao) Z (iV nVB) Z) (nx:Nx (ba+1) Z) (u1:ba<=aH:=by omega) (u2:Ix ba ag:=by omega) (u3:Ix a_1 ag:=by omega) (u4:nVB<0:=by omega) (u5:I6 (ba+1):=by omega):zWO ar ag ah a_1 aB ao aH ba Z Nx Q6 :=
 kO 0 (ba+1) [.g,.g,.b true,.g,.g,.g,.g,.i,.l (qf (rcd nCB nHB nOB)),.g,.g,.i,.l (qf (rcd nPB nQB nRB)),.c (iV nVB) Z,.b true,.g,.g,.n (ba+1),.g] (fun _ f=>an2 (yE u1) u2 (an6 h1 u3 h2 h3 (zR u4) (w64 u5) f)) nx
theorem xLO (h1:lz Z 45 (zL ar (Int.toNat ba*3)) (qf (rcd nCB nHB nOB))) (h2:lz Z 45 (zL ar (Int.toNat a_1*3)) (qf (rcd nPB nQB nRB))) (h3:qm aB (qf (rcd nCB nHB nOB)::(qf (rcd nPB nQB nRB))::ao) Z (iV nVB) Z) (nx:Q6 ba Z) (u1:ba<=aH:=by omega) (u2:Ix ba ag:=by omega) (u3:Ix a_1 ag:=by omega) (u4:¬ nVB<0:=by omega):zWO ar ag ah a_1 aB ao aH ba Z Nx Q6 :=
 kO 1 ba [.g,.g,.b true,.g,.g,.g,.g,.i,.l (qf (rcd nCB nHB nOB)),.g,.g,.i,.l (qf (rcd nPB nQB nRB)),.c (iV nVB) Z,.b false,.g] (fun _ f=>ai (yE u1) (an6 u2 h1 u3 h2 h3 (zT u4) f)) nx
theorem xLN (nx:Q6 ba Z) (u1:¬ ba<=aH:=by omega):zWO ar ag ah a_1 aB ao aH ba Z Nx Q6 :=
 kO 1 ba [.g,.g,.b false,.g,.g] (fun _ f=>ai (yG u1) f) nx
theorem xLQ {Nx:Int->Int->St->Prop} {P6:Int->St->Prop} (hL:xBH ar ag ah a_1 aB ao aH bM Z P6) (k6:∀ i12_4' Z',P6 i12_4' Z'->yEY ar ag ah a_1 aB ao aH i12_4' Z' Nx Q4):xBL ar ag ah a_1 aB ao bM aH Z Nx Q4 :=
 zCC [.lf 178 (zPR ar ag ah a_1 aB ao aH bM) [zRT ar ag ah a_1 aB ao aH P6]] (fun g=>kd (ai (ai tt (ai (arf (zPR ar ag ah a_1 aB ao aH bM)) hL)) (ai (kz1 k6) trivial)))
theorem yVR (hb:∀ k bW Z,Inv k bW Z->zWN ar ag ah a_1 aB ao ba bW Z (NX1 Inv k) Q8):∀ k bW Z,Inv k bW Z->xBG ar ag ah a_1 aB ao ba bW Z Q8 :=
 xC (ai (xY 8) trivial) hb
theorem xLM (h1:lz Z 45 (zL ar (Int.toNat bW*3)) (qf (rcd nBK nBL nBM))) (h2:lz Z 45 (zL ar (Int.toNat a_1*3)) (qf (rcd nBN nBO nBP))) (h3:qm aB (qf (rcd nBK nBL nBM)::(qf (rcd nBN nBO nBP))::ao) Z (iV nBQ) Z) (nx:Q8 bW Z) (u1:ba<=bW:=by omega) (u2:Ix bW ag:=by omega) (u3:Ix a_1 ag:=by omega) (u4:nBQ<0:=by omega):zWN ar ag ah a_1 aB ao ba bW Z Nx Q8 :=
 kO 1 bW [.g,.g,.b true,.g,.g,.g,.g,.i,.l (qf (rcd nBK nBL nBM)),.g,.g,.i,.l (qf (rcd nBN nBO nBP)),.c (iV nBQ) Z,.b true,.g,.g] (fun _ f=>ai (yE u1) (an6 u2 h1 u3 h2 h3 (zR u4) f)) nx
theorem xLL (h1:lz Z 45 (zL ar (Int.toNat bW*3)) (qf (rcd nBK nBL nBM))) (h2:lz Z 45 (zL ar (Int.toNat a_1*3)) (qf (rcd nBN nBO nBP))) (h3:qm aB (qf (rcd nBK nBL nBM)::(qf (rcd nBN nBO nBP))::ao) Z (iV nBQ) Z) (nx:Nx (bW-1) Z) (u1:ba<=bW:=by omega) (u2:Ix bW ag:=by omega) (u3:Ix a_1 ag:=by omega) (u4:¬ nBQ<0:=by omega) (u5:I6 (bW-1):=by omega):zWN ar ag ah a_1 aB ao ba bW Z Nx Q8 :=
 kO 0 (bW-1) [.g,.g,.b true,.g,.g,.g,.g,.i,.l (qf (rcd nBK nBL nBM)),.g,.g,.i,.l (qf (rcd nBN nBO nBP)),.c (iV nBQ) Z,.b false,.g,.g,.g,.n (bW-1),.g] (fun _ f=>an2 (yE u1) u2 (an6 h1 u3 h2 h3 (zT u4) (w64 u5) f)) nx
theorem xLK (nx:Q8 bW Z) (u1:¬ ba<=bW:=by omega):zWN ar ag ah a_1 aB ao ba bW Z Nx Q8 :=
 kO 1 bW [.g,.g,.b false,.g,.g] (fun _ f=>ai (yG u1) f) nx
theorem yVM {Nx:Int->Int->St->Prop} (hL:xBG ar ag ah a_1 aB ao ba aH Z P8) (k8:∀ i13_5' Z',P8 i13_5' Z'->zRW ar ag ah a_1 aB ao ba i13_5' Z' Nx Q4):yEY ar ag ah a_1 aB ao aH ba Z Nx Q4 :=
 sK [.lf 178 (zPQ ar ag ah a_1 aB ao ba aH) [zRS ar ag ah a_1 aB ao ba P8]] (ai (ai tt (ai (arf (zPQ ar ag ah a_1 aB ao ba aH)) hL)) (ai (kz1 k8) trivial))
theorem yVL {Nx:Int->Int->St->Prop} (nx:Q4 bW Z) (u1:bW<ba:=by omega):zRW ar ag ah a_1 aB ao ba bW Z Nx Q4 :=
 sF 1 bW [.g,.g,.b true] (fun _ f=>ai (zR u1) f) nx
theorem yVK {Nx:Int->Int->St->Prop} (h1:lz Z 45 (zL ar (Int.toNat bW*3)) (qf (rcd nBi nBj nBk))) (h2:lz Z 45 (zL ar (Int.toNat ba*3)) (qf (rcd nBl nBm nBn))) (h3:qn (evL [pz (zL ar (Int.toNat ba*3)),qf (rcd nBi nBj nBk)]) Z (.store 45 (.tmp 0) (.tmp 1))=some (undef,ZJB)) (h4:qn (evL [pz (zL ar (Int.toNat bW*3)),qf (rcd nBl nBm nBn)]) ZJB (.store 45 (.tmp 0) (.tmp 1))=some (undef,ZKB)) (nx:Nx (ba+1) (bW-1) ZKB) (u1:¬ bW<ba:=by omega) (u2:Ix bW ag:=by omega) (u3:Ix ba ag:=by omega) (u4:I6 (ba+1):=by omega) (u5:I6 (bW-1):=by omega):zRW ar ag ah a_1 aB ao ba bW Z Nx Q4 :=
 sF 0 (ba+1,bW-1) [.g,.g,.b false,.g,.g,.g,.g,.g,.g,.i,.l (qf (rcd nBi nBj nBk)),.g,.g,.i,.l (qf (rcd nBl nBm nBn)),.i,.e undef ZJB,.i,.e undef ZKB,.g,.n (ba+1),.g,.g,.n (bW-1),.g] (fun _ f=>an5 (zT u1) u2 h1 u3 h2 (an6 u3 h3 u2 h4 (w64 u4) (w64 u5) f)) nx
theorem yVO (h1:lz Z 45 (zL ar (Int.toNat bV*3)) (qf (rcd nWB nBI nBJ))) (h2:lz Z 45 (zL ar (Int.toNat aZ*3)) (qf (rcd nXB nYB nZB))) (h3:qn (evL [pz (zL ar (Int.toNat aZ*3)),qf (rcd nWB nBI nBJ)]) Z (.store 45 (.tmp 0) (.tmp 1))=some (undef,ZK)) (h4:qn (evL [pz (zL ar (Int.toNat bV*3)),qf (rcd nXB nYB nZB)]) ZK (.store 45 (.tmp 0) (.tmp 1))=some (undef,ZW)) (hL:xBI ar ag ah a_1 aB ao (aZ+1) (bV-1) ZW P4) (k4:∀ i13_3' Z',P4 i13_3' Z'->yEZ ar ag ah a_1 aB ao i13_3' Z' Q) (u1:¬ bV<aZ:=by omega) (u2:Ix bV ag:=by omega) (u3:Ix aZ ag:=by omega) (u4:I6 (aZ+1):=by omega) (u5:I6 (bV-1):=by omega):zRX ar ag ah a_1 aB ao aZ bV Z Q :=
 let s1:=zWK ar ag ah a_1 aB ao (aZ+1) (bV-1);sK [.g,.g,.b false,.g,.g,.g,.g,.g,.g,.i,.l (qf (rcd nWB nBI nBJ)),.g,.g,.i,.l (qf (rcd nXB nYB nZB)),.i,.e undef ZK,.i,.e undef ZW,.g,.n (aZ+1),.g,.g,.n (bV-1),.g,.lf 178 s1 [zFW ar ag ah a_1 aB ao P4]] (an5 (zT u1) u2 h1 u3 h2 (an6 u3 h3 u2 h4 (w64 u4) (w64 u5) (ai (ai tt (ai (arf s1) hL)) (ai (kz1 k4) trivial))))
theorem yVN (h1:lz Z 45 (zL ar (Int.toNat a_1*3)) (qf (rcd nBo nBp nBq))) (h2:lz Z 45 (zL ar (Int.toNat aH*3)) (qf (rcd nBr nBs nBt))) (h3:qn (evL [pz (zL ar (Int.toNat aH*3)),qf (rcd nBo nBp nBq)]) Z (.store 45 (.tmp 0) (.tmp 1))=some (undef,ZLB)) (h4:qn (evL [pz (zL ar (Int.toNat a_1*3)),qf (rcd nBr nBs nBt)]) ZLB (.store 45 (.tmp 0) (.tmp 1))=some (undef,ZMB)) (nx:Q (.tuple ⟨[iV aH,.bool false]⟩) ZMB) (u1:Ix a_1 ag:=by omega) (u2:Ix aH ag:=by omega):yEZ ar ag ah a_1 aB ao aH Z Q :=
 sK [.g,.g,.g,.g,.g,.g,.i,.l (qf (rcd nBo nBp nBq)),.g,.g,.i,.l (qf (rcd nBr nBs nBt)),.i,.e undef ZLB,.i,.e undef ZMB,.g,.g,.g] (an2 u1 h1 (an6 u2 h2 u2 h3 u1 h4 nx))
theorem yOP {Inv:Nat->Int->Int->St->Prop} (hb:∀ k bH aD Z,Inv k bH aD Z->zZH data ag ah a_1 b aB ao bH aD Z (NX2 Inv k) Q0 Qr):∀ k bH aD Z,Inv k bH aD Z->yOU data ag ah a_1 b aB ao bH aD Z Q0 Qr :=
 zCP (ai (xY 0) (ai uQ trivial)) hb
theorem yOO (hb:∀ k aQ Z,Inv k aQ Z->zPX data ag ah a_1 b aB ao aD aQ Z (NX1 Inv k) Q2):∀ k aQ Z,Inv k aQ Z->yOT data ag ah a_1 b aB ao aD aQ Z Q2 :=
 xC (ai (xY 2) trivial) hb
theorem xGA (h1:lz Z 45 (zL ar (Int.toNat aQ*3)) (qf (rcd nS nV nR))) (h2:lz Z 45 (zL ar (Int.toNat (aQ-1)*3)) (qf (rcd nU nI nH))) (h3:qm aB (qf (rcd nS nV nR)::(qf (rcd nU nI nH))::ao) Z (iV nJ) Z) (nx:Q2 aQ Z) (u1:aQ<b:=by omega) (u2:Ix aQ ag:=by omega) (u3:I6 (aQ-1):=by omega) (u4:Ix (aQ-1) ag:=by omega) (u5:nJ<0:=by omega):zPX (some ar) ag ah a_1 b aB ao aD aQ Z Nx Q2 :=
 kO 1 aQ [.g,.g,.b true,.g,.g,.g,.g,.i,.l (qf (rcd nS nV nR)),.g,.g,.n (aQ-1),.i,.l (qf (rcd nU nI nH)),.c (iV nJ) Z,.b true,.g,.g] (fun _ f=>an2 (zR u1) u2 (an6 h1 (w64 u3) u4 h2 h3 (zR u5) f)) nx
theorem xFZ (h1:lz Z 45 (zL ar (Int.toNat aQ*3)) (qf (rcd nS nV nR))) (h2:lz Z 45 (zL ar (Int.toNat (aQ-1)*3)) (qf (rcd nU nI nH))) (h3:qm aB (qf (rcd nS nV nR)::(qf (rcd nU nI nH))::ao) Z (iV nJ) Z) (nx:Nx (aQ+1) Z) (u1:aQ<b:=by omega) (u2:Ix aQ ag:=by omega) (u3:I6 (aQ-1):=by omega) (u4:Ix (aQ-1) ag:=by omega) (u5:¬ nJ<0:=by omega) (u6:I6 (aQ+1):=by omega):zPX (some ar) ag ah a_1 b aB ao aD aQ Z Nx Q2 :=
 kO 0 (aQ+1) [.g,.g,.b true,.g,.g,.g,.g,.i,.l (qf (rcd nS nV nR)),.g,.g,.n (aQ-1),.i,.l (qf (rcd nU nI nH)),.c (iV nJ) Z,.b false,.g,.g,.g,.n (aQ+1),.g] (fun _ f=>an3 (zR u1) u2 h1 (an6 (w64 u3) u4 h2 h3 (zT u5) (w64 u6) f)) nx
theorem xFY (nx:Q2 aQ Z) (u1:¬ aQ<b:=by omega):zPX data ag ah a_1 b aB ao aD aQ Z Nx Q2 :=
 kO 1 aQ [.g,.g,.b false,.g,.g] (fun _ f=>ai (zT u1) f) nx
theorem xGC {Nx:Int->Int->St->Prop} (hL:yOT data ag ah a_1 b aB ao aD bH Z P2) (k2:∀ i9_2' Z',P2 i9_2' Z'->zBK data ag ah a_1 b aB ao aD i9_2' Z' Nx Q0 Qr) (u1:aD<5:=by omega):zZH data ag ah a_1 b aB ao bH aD Z Nx Q0 Qr :=
 zCC [.g,.b true,.lf 141 (zJU data ag ah a_1 b aB ao aD bH) [zNV data ag ah a_1 b aB ao aD P2]] (fun g=>kd (ai (zR u1) (ai (ai tt (ai (arf (zJU data ag ah a_1 b aB ao aD bH)) hL)) (ai (kz1 k2) trivial))))
theorem xGB {Nx:Int->Int->St->Prop} (nx:Q0 Z) (u1:¬ aD<5:=by omega):zZH data ag ah a_1 b aB ao bH aD Z Nx Q0 Qr :=
 kO 1 () [.g,.b false] (fun _ f=>ai (zT u1) f) nx
theorem yOI {Nx:Int->Int->St->Prop} (nx:Qr true Z) (u1:aQ=b:=by omega):zBK data ag ah a_1 b aB ao aD aQ Z Nx Q0 Qr :=
 sF 2 true [.g,.g,.b true,.g] (fun _ f=>ai (xL u1) f) nx
theorem yOH {Nx:Int->Int->St->Prop} (nx:Qr false Z) (u1:¬ aQ=b:=by omega) (u2:I6 (b-a_1):=by omega) (u3:(b-a_1)<50:=by omega):zBK data ag ah a_1 b aB ao aD aQ Z Nx Q0 Qr :=
 sF 2 false [.g,.g,.b false,.g,.g,.n (b-a_1),.b true,.g] (fun _ f=>an3 (xK u1) (w64 u2) (zR u3) f) nx
theorem yON {Q4:St->Prop} (hb:∀ k dz Z,Inv k dz Z->zPW ar ag ah a_1 b aB ao aQ aD dz Z (NX1 Inv k) Q4):∀ k dz Z,Inv k dz Z->zZE ar ag ah a_1 b aB ao aQ aD dz Z Q4 :=
 xC (ai (xY 4) trivial) hb
theorem xFX {Q4:St->Prop}:let y0:=rcd nMB nNB nGB;let y1:=rcd nT nLB nFB;let y2:=zL ar (Int.toNat (dz-1)*3);let y3:=zL ar (Int.toNat dz*3);∀ (h1:lz Z 45 y3 (qf y1)) (h2:lz Z 45 y2 (qf y0)) (h3:qm aB (qf y1::(qf y0)::ao) Z (iV nJB) Z) (h4:qn (evL [pz y3,qf y0]) Z (.store 45 (.tmp 0) (.tmp 1))=some (undef,ZNB)) (h5:qn (evL [pz y2,qf y1]) ZNB (.store 45 (.tmp 0) (.tmp 1))=some (undef,ZOB)) (nx:Nx (dz-1) ZOB) (u1:1<=dz:=by omega) (u2:Ix dz ag:=by omega) (u3:I6 (dz-1):=by omega) (u4:Ix (dz-1) ag:=by omega) (u5:nJB<0:=by omega),zPW ar ag ah a_1 b aB ao aQ aD dz Z Nx Q4 :=
 let s1:=dz-1;let y0:=rcd nMB nNB nGB;let y1:=rcd nT nLB nFB;fun h1 h2 h3 h4 h5 nx u1 u2 u3 u4 u5=>kO 0 s1 [.g,.b true,.g,.g,.g,.i,.l (qf y1),.g,.g,.n s1,.i,.l (qf y0),.c (iV nJB) Z,.b true,.g,.g,.g,.g,.g,.n s1,.g,.g,.n s1,.i,.l (qf y0),.g,.g,.i,.l (qf y1),.i,.e undef ZNB,.i,.e undef ZOB,.g,.n s1,.g] (fun _ f=>ai (yE u1) (an6 u2 h1 (w64 u3) u4 h2 h3 (an6 (zR u5) (w64 u3) (w64 u3) u4 h2 u2 (an6 h1 u2 h4 u4 h5 (w64 u3) f)))) nx
theorem xFW {Q4:St->Prop} (h1:lz Z 45 (zL ar (Int.toNat dz*3)) (qf (rcd nT nLB nFB))) (h2:lz Z 45 (zL ar (Int.toNat (dz-1)*3)) (qf (rcd nMB nNB nGB))) (h3:qm aB (qf (rcd nT nLB nFB)::(qf (rcd nMB nNB nGB))::ao) Z (iV nJB) Z) (nx:Q4 Z) (u1:1<=dz:=by omega) (u2:Ix dz ag:=by omega) (u3:I6 (dz-1):=by omega) (u4:Ix (dz-1) ag:=by omega) (u5:¬ nJB<0:=by omega):zPW ar ag ah a_1 b aB ao aQ aD dz Z Nx Q4 :=
 kO 1 () [.g,.b true,.g,.g,.g,.i,.l (qf (rcd nT nLB nFB)),.g,.g,.n (dz-1),.i,.l (qf (rcd nMB nNB nGB)),.c (iV nJB) Z,.b false,.g] (fun _ f=>an2 (yE u1) u2 (an6 h1 (w64 u3) u4 h2 h3 (zT u5) f)) nx
theorem xFV {Q4:St->Prop} (nx:Q4 Z) (u1:¬ 1<=dz:=by omega):zPW ar ag ah a_1 b aB ao aQ aD dz Z Nx Q4 :=
 kO 1 () [.g,.b false] (fun _ f=>ai (yG u1) f) nx
theorem yOG {Nx:Int->Int->St->Prop} {P4:St->Prop} (h1:lz Z 45 (zL ar (Int.toNat (aQ-1)*3)) (qf (rcd nKB nIB nAC))) (h2:lz Z 45 (zL ar (Int.toNat aQ*3)) (qf (rcd nBC nCC nDC))) (h3:qn (evL [pz (zL ar (Int.toNat aQ*3)),qf (rcd nKB nIB nAC)]) Z (.store 45 (.tmp 0) (.tmp 1))=some (undef,ZN)) (h4:qn (evL [pz (zL ar (Int.toNat (aQ-1)*3)),qf (rcd nBC nCC nDC)]) ZN (.store 45 (.tmp 0) (.tmp 1))=some (undef,ZO)) (hL:zZE ar ag ah a_1 b aB ao aQ aD (aQ-1) ZO P4) (k4:∀ Z',P4 Z'->zNX (some ar) ar ag ah a_1 b aB ao aQ aD Z' Nx Q0 Qr) (u1:¬ aQ=b:=by omega) (u2:I6 (b-a_1):=by omega) (u3:¬ (b-a_1)<50:=by omega) (u4:I6 (aQ-1):=by omega) (u5:Ix (aQ-1) ag:=by omega) (u6:Ix aQ ag:=by omega) (u7:I6 (aQ-a_1):=by omega) (u8:2<=(aQ-a_1):=by omega):zBK (some ar) ag ah a_1 b aB ao aD aQ Z Nx Q0 Qr :=
 let s1:=zPT ar ag ah a_1 b aB ao aQ aD (aQ-1);sK [.g,.g,.b false,.g,.g,.n (b-a_1),.b false,.g,.g,.g,.g,.n (aQ-1),.g,.g,.n (aQ-1),.i,.l (qf (rcd nKB nIB nAC)),.g,.g,.i,.l (qf (rcd nBC nCC nDC)),.i,.e undef ZN,.i,.e undef ZO,.g,.g,.n (aQ-a_1),.b true,.g,.n (aQ-1),.g,.lf 141 s1 [zNU ar ag ah a_1 b aB ao aQ aD P4]] (an4 (xK u1) (w64 u2) (zT u3) (w64 u4) (an6 (w64 u4) u5 h1 u6 h2 u6 (an6 h3 u5 h4 (w64 u7) (yE u8) (w64 u4) (ai (ai tt (ai (arf s1) hL)) (ai (kz0 k4) trivial)))))
theorem yOM {Q6:St->Prop} (hb:∀ k ba Z,Inv k ba Z->zPV ar ag ah a_1 b aB ao aQ aD ba Z (NX1 Inv k) Q6):∀ k ba Z,Inv k ba Z->zJW ar ag ah a_1 b aB ao aQ aD ba Z Q6 :=
 xC (ai (xY 6) trivial) hb
theorem xFU {Q6:St->Prop}:let y0:=rcd nCB nHB nOB;let y1:=rcd nPB nQB nRB;let y2:=zL ar (Int.toNat (ba-1)*3);let y3:=zL ar (Int.toNat ba*3);∀ (h1:lz Z 45 y3 (qf y0)) (h2:lz Z 45 y2 (qf y1)) (h3:qm aB (qf y0::(qf y1)::ao) Z (iV nVB) Z) (h4:qn (evL [pz y3,qf y1]) Z (.store 45 (.tmp 0) (.tmp 1))=some (undef,ZPB)) (h5:qn (evL [pz y2,qf y0]) ZPB (.store 45 (.tmp 0) (.tmp 1))=some (undef,ZQB)) (nx:Nx (ba+1) ZQB) (u1:ba<b:=by omega) (u2:Ix ba ag:=by omega) (u3:I6 (ba-1):=by omega) (u4:Ix (ba-1) ag:=by omega) (u5:nVB<0:=by omega) (u6:I6 (ba+1):=by omega),zPV ar ag ah a_1 b aB ao aQ aD ba Z Nx Q6 :=
 let s1:=ba-1;let y0:=rcd nCB nHB nOB;let y1:=rcd nPB nQB nRB;fun h1 h2 h3 h4 h5 nx u1 u2 u3 u4 u5 u6=>kO 0 (ba+1) [.g,.g,.b true,.g,.g,.g,.i,.l (qf y0),.g,.g,.n s1,.i,.l (qf y1),.c (iV nVB) Z,.b true,.g,.g,.g,.g,.g,.n s1,.g,.g,.n s1,.i,.l (qf y1),.g,.g,.i,.l (qf y0),.i,.e undef ZPB,.i,.e undef ZQB,.g,.n (ba+1),.g] (fun _ f=>ai (zR u1) (an6 u2 h1 (w64 u3) u4 h2 h3 (an6 (zR u5) (w64 u3) (w64 u3) u4 h2 u2 (an6 h1 u2 h4 u4 h5 (w64 u6) f)))) nx
theorem xFT {Q6:St->Prop} (h1:lz Z 45 (zL ar (Int.toNat ba*3)) (qf (rcd nCB nHB nOB))) (h2:lz Z 45 (zL ar (Int.toNat (ba-1)*3)) (qf (rcd nPB nQB nRB))) (h3:qm aB (qf (rcd nCB nHB nOB)::(qf (rcd nPB nQB nRB))::ao) Z (iV nVB) Z) (nx:Q6 Z) (u1:ba<b:=by omega) (u2:Ix ba ag:=by omega) (u3:I6 (ba-1):=by omega) (u4:Ix (ba-1) ag:=by omega) (u5:¬ nVB<0:=by omega):zPV ar ag ah a_1 b aB ao aQ aD ba Z Nx Q6 :=
 kO 1 () [.g,.g,.b true,.g,.g,.g,.i,.l (qf (rcd nCB nHB nOB)),.g,.g,.n (ba-1),.i,.l (qf (rcd nPB nQB nRB)),.c (iV nVB) Z,.b false,.g] (fun _ f=>an2 (zR u1) u2 (an6 h1 (w64 u3) u4 h2 h3 (zT u5) f)) nx
theorem xFS {Q6:St->Prop} (nx:Q6 Z) (u1:¬ ba<b:=by omega):zPV ar ag ah a_1 b aB ao aQ aD ba Z Nx Q6 :=
 kO 1 () [.g,.g,.b false] (fun _ f=>ai (zT u1) f) nx
theorem yOF {Nx:Int->Int->St->Prop} (h1:lz Z 45 (zL ar (Int.toNat (aQ-1)*3)) (qf (rcd nKB nIB nAC))) (h2:lz Z 45 (zL ar (Int.toNat aQ*3)) (qf (rcd nBC nCC nDC))) (h3:qn (evL [pz (zL ar (Int.toNat aQ*3)),qf (rcd nKB nIB nAC)]) Z (.store 45 (.tmp 0) (.tmp 1))=some (undef,ZN)) (h4:qn (evL [pz (zL ar (Int.toNat (aQ-1)*3)),qf (rcd nBC nCC nDC)]) ZN (.store 45 (.tmp 0) (.tmp 1))=some (undef,ZO)) (hL:zJW ar ag ah a_1 b aB ao aQ aD (aQ+1) ZO P6) (k6:∀ Z',P6 Z'->zNW (some ar) ar ag ah a_1 b aB ao aQ aD Z' Nx Q0 Qr) (u1:¬ aQ=b:=by omega) (u2:I6 (b-a_1):=by omega) (u3:¬ (b-a_1)<50:=by omega) (u4:I6 (aQ-1):=by omega) (u5:Ix (aQ-1) ag:=by omega) (u6:Ix aQ ag:=by omega) (u7:I6 (aQ-a_1):=by omega) (u8:¬ 2<=(aQ-a_1):=by omega) (u9:I6 (b-aQ):=by omega) (u10:2<=(b-aQ):=by omega) (u11:I6 (aQ+1):=by omega):zBK (some ar) ag ah a_1 b aB ao aD aQ Z Nx Q0 Qr :=
 let s1:=zJT ar ag ah a_1 b aB ao aQ aD (aQ+1);sK [.g,.g,.b false,.g,.g,.n (b-a_1),.b false,.g,.g,.g,.g,.n (aQ-1),.g,.g,.n (aQ-1),.i,.l (qf (rcd nKB nIB nAC)),.g,.g,.i,.l (qf (rcd nBC nCC nDC)),.i,.e undef ZN,.i,.e undef ZO,.g,.g,.n (aQ-a_1),.b false,.g,.g,.n (b-aQ),.b true,.g,.n (aQ+1),.g,.lf 141 s1 [zHC ar ag ah a_1 b aB ao aQ aD P6]] (an6 (xK u1) (w64 u2) (zT u3) (w64 u4) (w64 u4) u5 (an6 h1 u6 h2 u6 h3 u5 (an6 h4 (w64 u7) (yG u8) (w64 u9) (yE u10) (w64 u11) (ai (ai tt (ai (arf s1) hL)) (ai (kz0 k6) trivial)))))
theorem yOE {Nx:Int->Int->St->Prop} (h1:lz Z 45 (zL ar (Int.toNat (aQ-1)*3)) (qf (rcd nKB nIB nAC))) (h2:lz Z 45 (zL ar (Int.toNat aQ*3)) (qf (rcd nBC nCC nDC))) (h3:qn (evL [pz (zL ar (Int.toNat aQ*3)),qf (rcd nKB nIB nAC)]) Z (.store 45 (.tmp 0) (.tmp 1))=some (undef,ZN)) (h4:qn (evL [pz (zL ar (Int.toNat (aQ-1)*3)),qf (rcd nBC nCC nDC)]) ZN (.store 45 (.tmp 0) (.tmp 1))=some (undef,ZO)) (nx:Nx aQ (aD+1) ZO) (u1:¬ aQ=b:=by omega) (u2:I6 (b-a_1):=by omega) (u3:¬ (b-a_1)<50:=by omega) (u4:I6 (aQ-1):=by omega) (u5:Ix (aQ-1) ag:=by omega) (u6:Ix aQ ag:=by omega) (u7:I6 (aQ-a_1):=by omega) (u8:¬ 2<=(aQ-a_1):=by omega) (u9:I6 (b-aQ):=by omega) (u10:¬ 2<=(b-aQ):=by omega) (u11:I6 (aD+1):=by omega):zBK (some ar) ag ah a_1 b aB ao aD aQ Z Nx Q0 Qr :=
 sF 0 (aQ,aD+1) [.g,.g,.b false,.g,.g,.n (b-a_1),.b false,.g,.g,.g,.g,.n (aQ-1),.g,.g,.n (aQ-1),.i,.l (qf (rcd nKB nIB nAC)),.g,.g,.i,.l (qf (rcd nBC nCC nDC)),.i,.e undef ZN,.i,.e undef ZO,.g,.g,.n (aQ-a_1),.b false,.g,.g,.n (b-aQ),.b false,.g,.n (aD+1),.g] (fun _ f=>an6 (xK u1) (w64 u2) (zT u3) (w64 u4) (w64 u4) u5 (an6 h1 u6 h2 u6 h3 u5 (an6 h4 (w64 u7) (yG u8) (w64 u9) (yG u10) (w64 u11) f))) nx
theorem yOD {Nx:Int->Int->St->Prop} (hL:zJW ar ag ah a_1 b aB ao aQ aD (aQ+1) Z P6) (k6:∀ Z',P6 Z'->zNW data ar ag ah a_1 b aB ao aQ aD Z' Nx Q0 Qr) (u1:I6 (b-aQ):=by omega) (u2:2<=(b-aQ):=by omega) (u3:I6 (aQ+1):=by omega):zNX data ar ag ah a_1 b aB ao aQ aD Z Nx Q0 Qr :=
 let s1:=zJT ar ag ah a_1 b aB ao aQ aD (aQ+1);sK [.g,.g,.n (b-aQ),.b true,.g,.n (aQ+1),.g,.lf 141 s1 [zHC ar ag ah a_1 b aB ao aQ aD P6]] (an3 (w64 u1) (yE u2) (w64 u3) (ai (ai tt (ai (arf s1) hL)) (ai (kz0 k6) trivial)))
theorem yOC {Nx:Int->Int->St->Prop} (nx:Nx aQ (aD+1) Z) (u1:I6 (b-aQ):=by omega) (u2:¬ 2<=(b-aQ):=by omega) (u3:I6 (aD+1):=by omega):zNX (some ar) ar ag ah a_1 b aB ao aQ aD Z Nx Q0 Qr :=
 sF 0 (aQ,aD+1) [.g,.g,.n (b-aQ),.b false,.g,.n (aD+1),.g] (fun _ f=>an3 (w64 u1) (yG u2) (w64 u3) f) nx
theorem zUM {Nx:Int->Int->St->Prop} (nx:Nx aQ (aD+1) Z) (u1:I6 (aD+1):=by omega):zNW (some ar) ar ag ah a_1 b aB ao aQ aD Z Nx Q0 Qr :=
 sF 0 (aQ,aD+1) [.g,.n (aD+1),.g] (fun _ f=>ai (w64 u1) f) nx
theorem xMB {Pr:Bool->St->Prop} (hL:yOU data ag ah a_1 b aB ao (a_1+1) 0 Z P0 Pr) (k0:∀ Z',P0 Z'->zZG data ag ah a_1 b aB ao Z' Q) (kr:∀ t8_1' Z',Pr t8_1' Z'->zZF data ag ah a_1 b aB ao t8_1' Z' Q) (u1:I6 (a_1+1):=by omega):qg 111 [.slice data ag ah,iV a_1,iV b,.func (.func aB) ⟨[]⟩ ⟨ao⟩] Z Q :=
 let s1:=zPU data ag ah a_1 b aB ao (a_1+1) 0;zH [.g,.g,.n (a_1+1),.g,.g,.lf 141 s1 [zBJ data ag ah a_1 b aB ao P0,zBI data ag ah a_1 b aB ao Pr]] (kd (ai (w64 u1) (ai (ai tt (ai (arf s1) hL)) (ai (kz0 k0) (ai (kz1 kr) trivial)))))
theorem yOK (nx:Q (.bool false) Z):zZG data ag ah a_1 b aB ao Z Q :=
 sK [.g] nx
theorem yOJ (nx:Q (.bool t8_1) Z):zZF data ag ah a_1 b aB ao t8_1 Z Q :=
 sK [] nx
end
section
open Go.Sort (swp)
def Cmp (g:FuncId) (gc:List Value) (lt:Rec->Rec->Bool) (V:Rec->Prop):Prop:=∀ (τ:St) (x y:Rec),V x->V y->∃ n:Int,zD Pg g (zEO x::zEO y::gc) τ (iV n) τ/\(n<0↔lt x y=true)
def xR (V:Rec->Prop) (d:Array Rec):Prop:=∀ i,i<d.size->V d[i]!
theorem yY (d:Array Rec) (i j:Nat):(swp d i j).size=d.size:=by simp [swp]
theorem xCK (d:Array Rec) (i k:Nat) (x:Rec) (hk:k<d.size):(d.setIfInBounds i x)[k]! = if i=k then x else d[k]! := by
 rw [getElem!_pos _ k (by simpa using hk),getElem!_pos d k hk,Array.getElem_setIfInBounds]
theorem xR.swp {V:Rec->Prop} {d:Array Rec} (h:xR V d) {i j:Nat} (hi:i<d.size) (hj:j<d.size):xR V (swp d i j):=by
 intro k hk;rw [yY] at hk;unfold Go.Sort.swp;rw [xCK _ _ _ _ (by simpa using hk),xCK _ _ _ _ hk];split
 ·exact h i hi
 ·split
  ·exact h j hj
  ·exact h k hk
theorem zEG {Z Z':St} {f:FuncId} {args:List Value} {v:Value} (h:zD Pg f args Z v Z'):Z'.low<=Z.low:=by
 obtain ⟨N0,hN0⟩:=h;have hc:=hN0 N0 (Nat.le_refl _);unfold vW at hc;split at hc
 ·cases hc
 ·rename_i v1 s1 h1;unfold vX at hc;rcases Bool.eq_false_or_eq_true (Nat.ble Z.y s1.low && zW RD v1) with e | e
  ·rw [e,cond_true] at hc;simp at hc;rw [<- hc.2];exact Nat.le_refl _
  ·rw [e,cond_false] at hc;rcases Bool.eq_false_or_eq_true (Nat.ble Z.y s1.y) with e2 | e2
   ·rw [e2,cond_true,wE,uU] at hc;simp at hc;rw [<- hc.2];show min _ _<=_;omega
   ·rw [e2,cond_false] at hc;cases hc
theorem xWR {Z s:St} {f:FuncId} {args:List Value} {v:Value} (h:∃ N0,∀ N,N0<=N->zV Pg N (.func f) args Z.re=some (v,s)) (h1:Z.y<=s.y) (h2:s.low<Z.y):zD Pg f args Z v ⟨s.heap,s.y,min Z.low s.low⟩:=by
 obtain ⟨N0,hN⟩:=h;refine ⟨N0,fun N hl=>?_⟩
 unfold vW;rw [show (⟨Z.heap,Z.y,Z.y⟩:St)=Z.re from rfl,hN N hl];show vX Z v s=_;unfold vX;have e1:(Nat.ble Z.y s.low && zW RD v)=false:=by
  rw [Bool.and_eq_false_iff];left;rw [Bool.eq_false_iff];intro e;have:=(zX _ _).1 e;omega
 have e2:Nat.ble Z.y s.y=true:=(zX _ _).2 h1;rw [e1,cond_false,e2,cond_true,wE,uU]
structure W (Z τ:St) (b:Nat) (s:Option Nat) (d dk:Array Rec):Prop where
 only:Only (·=b) Z.re τ
 dt:Dt τ b s dk
 low:τ.low<=b\/dk=d
theorem W.start {Z:St} {b:Nat} {s:Option Nat} {d:Array Rec} (h:Dt Z b s d):W Z Z.re b s d d:=⟨Only.refl _ _,h,.inr rfl⟩
theorem W.swap {Z τ:St} {b:Nat} {s:Option Nat} {d dk:Array Rec} (w:W Z τ b s d dk) {i j:Int} (h0:0<=i) (hi:i<(dk.size:Int)) (k0:0<=j) (hj:j<(dk.size:Int)) :
  ∃ τ1 τ2,zQ Pg (evL [.pointer (some (zL ⟨b,0,s⟩ (Int.toNat i*3))),zEO dk[j.toNat]!]) τ (.store 45 (.tmp 0) (.tmp 1))=some (undef,τ1) /\
   zQ Pg (evL [.pointer (some (zL ⟨b,0,s⟩ (Int.toNat j*3))),zEO dk[i.toNat]!]) τ1 (.store 45 (.tmp 0) (.tmp 1))=some (undef,τ2)/\W Z τ2 b s d (swp dk i.toNat j.toNat):=by
 obtain ⟨τ1,e1,d1,o1,l1⟩:=w.dt.st dk[j.toNat]! h0 hi;obtain ⟨τ2,e2,d2,o2,l2⟩:=d1.st (i:=j) dk[i.toNat]! k0 (by simpa using hj);exact ⟨τ1,τ2,e1,e2,⟨(w.only.trans' o1 (fun b _ h=>.inl h)).trans' o2 (fun b _ h=>.inl h),d2,.inl l2⟩⟩
def uI (f:FuncId) (args:List Value) (v:Value) (Z:St) (b:Nat) (s:Option Nat) (d d':Array Rec):Prop:=∃ Z',zD Pg f args Z v Z'/\Only (·=b) Z Z'/\Dt Z' b s d'/\(Z'.low<=b\/d'=d)
theorem uI.of {f:FuncId} {args:List Value} {v:Value} {Z:St} {b:Nat} {s:Option Nat} {d d':Array Rec} (h0:Dt Z b s d) (h:zO Pg f args Z.re fun v' τ=>v'=v/\W Z τ b s d d') (hv:zW RD v=true:=by rfl):uI f args v Z b s d d':=by
  obtain ⟨_,τ,hN,rfl,w⟩:=h;by_cases hlow:τ.low<Z.y
  · have ho:Only (·=b) Z ⟨τ.heap,τ.y,min Z.low τ.low⟩:=by
      have:=w.only.lower (m:=0);exact this
    refine ⟨_,xWR hN w.only.y hlow,ho,w.dt, ?_⟩
    rcases w.low with h | h
    · exact .inl (by show min _ _<=_;omega)
    · exact .inr h
  · have hd:d'=d:=by
      rcases w.low with h | h
      · have:=h0.1;omega
      · exact h
    exact ⟨Z,zO.pure ⟨_,τ,hN,rfl,by omega⟩ hv,Only.refl _ _,by rw [hd];exact h0,.inr hd⟩
theorem W.call {Z τ:St} {b:Nat} {s:Option Nat} {d dk d':Array Rec} {f:FuncId} {args:List Value} {v:Value} (w:W Z τ b s d dk) (h:uI f args v τ b s dk d'):∃ τ',zD Pg f args τ v τ'/\W Z τ' b s d d':=by
 obtain ⟨τ',c,o,dt,hl⟩:=h;refine ⟨τ',c,w.only.trans' o (fun b _ h=>.inl h),dt, ?_⟩
 have:=zEG c;rcases hl with hl | hl
 ·exact .inl hl
 ·rcases w.low with h | h
  ·exact .inl (by omega)
  ·exact .inr (hl.trans h)
section
variable {Z:St} {b c:Nat} {s:Option Nat} {d:Array Rec} {g:FuncId} {gc:List Value} {lt:Rec->Rec->Bool} {V:Rec->Prop}
theorem zMT (lt:Rec->Rec->Bool) (a:Nat):∀ (j:Nat) (d:Array Rec),(Go.Sort.insInner lt a j d).size=d.size
 | 0,d=>rfl
 | j+1,d=>by
  unfold Go.Sort.insInner;split
  ·rw [zMT,yY]
  ·rfl
theorem zQC (lt:Rec->Rec->Bool) (a:Nat) {V:Rec->Prop}:∀ (j:Nat) (d:Array Rec),j<d.size->xR V d->xR V (Go.Sort.insInner lt a j d)
 | 0,d,_,h=>h
 | j+1,d,hj,h=>by
  unfold Go.Sort.insInner;split
  ·exact zQC lt a j _ (by rw [yY];omega) (h.swp hj (by omega))
  ·exact h
theorem xYN {a B:Nat} (h:Dt Z b s d) (hc:Cmp g gc lt V) (hv:xR V d) (hB:B<=d.size) (hn:d.size<=1000000) (ha:a<=1000000) :
  uI 106 [.slice (some ⟨b,0,s⟩) d.size c,iV (a:Int),iV (B:Int),.func (.func g) ⟨[]⟩ ⟨gc⟩] (.tuple ⟨[]⟩) Z b s d (Go.Sort.insertionSort lt d a B):=by
 refine uI.of h (xBW (P0:=fun τ=>W Z τ b s d (Go.Sort.insertionSort lt d a B)) (zZX (Inv:=fun k i τ=>∃ (j:Nat) (dk:Array Rec),i=j/\k=B-j/\W Z τ b s d dk/\dk.size=d.size/\xR V dk/\Go.Sort.insOuter lt a B j dk=Go.Sort.insertionSort lt d a B) ?_ (B-(a+1)) _ Z.re ⟨a+1,d,by omega,rfl,W.start h,rfl,hv,rfl⟩) (fun τ hw=>zZW ⟨rfl,hw⟩) (by omega));rintro k i τ ⟨j,dk,rfl,hk,w,hsz,hall,ht⟩;by_cases hj:j<B;rotate_left
 ·rw [Go.Sort.insOuter,if_neg hj] at ht;exact yPJ (by rw [<- ht];exact w) (by omega)
 rw [Go.Sort.insOuter,if_pos hj] at ht;refine xNR (P2:=fun τ'=>W Z τ' b s d (Go.Sort.insInner lt a j dk)) (yWZ (Inv:=fun k' q' τ'=>∃ (q:Nat) (dq:Array Rec),q'=q/\q=k'/\q<=j/\W Z τ' b s d dq/\dq.size=d.size/\xR V dq/\Go.Sort.insInner lt a q dq=Go.Sort.insInner lt a j dk) ?_ j _ τ ⟨j,dk,rfl,rfl,Nat.le_refl _,w,hsz,hall,rfl⟩)
  (fun τ' hw=>yWY ⟨k-1,by omega,j+1,_,by omega,by omega,hw,by rw [zMT,hsz],zQC _ _ _ _ (by omega) hall,ht⟩ (by omega)) (by omega)
 rintro k' q' τ' ⟨q,dq,rfl,rfl,hq,w',hsz',hall',ht'⟩;by_cases haq:a<q;rotate_left
 ·refine xNO ?_ (by omega);have e:Go.Sort.insInner lt a q dq=dq:=by
   cases q with
   | zero=>rfl
   | succ q=>unfold Go.Sort.insInner;rw [if_neg (by simp;omega)]
  rw [<- ht',e];exact w'
 obtain ⟨p,rfl⟩:∃ p,q=p+1:=⟨q-1,by omega⟩;have l1:=w'.dt.ld (i:=((p+1:Nat):Int)) (by omega) (by omega);have l2:=w'.dt.ld (i:=((p+1:Nat):Int)-1) (by omega) (by omega);have e2:(((p+1:Nat):Int)-1).toNat=p:=by omega
 obtain ⟨n,hn1,hn2⟩:=hc τ' dq[(((p+1:Nat):Int)).toNat]! dq[(((p+1:Nat):Int)-1).toNat]! (hall' _ (by omega)) (hall' _ (by omega));by_cases hlt:n<0
 ·have hl:=hn2.1 hlt;rw [e2,Int.toNat_natCast] at hl;obtain ⟨τ1,τ2,s1,s2,w2⟩:=w'.swap (i:=((p+1:Nat):Int)) (j:=((p+1:Nat):Int)-1) (by omega) (by omega) (by omega) (by omega);rw [e2,Int.toNat_natCast] at w2;refine xNQ l1 l2 hn1 s1 s2 ⟨p,by omega,p,_,by omega,rfl,by omega,w2,by rw [yY,hsz'],hall'.swp (by omega) (by omega), ?_⟩ (by omega) (by omega) (by omega) (by omega) (by omega);rw [<- ht'];conv=>rhs;unfold Go.Sort.insInner
  rw [if_pos (by simp [hl];omega)]
 ·have hl:lt dq[p+1]! dq[p]! = false:=by
   rw [Bool.eq_false_iff];intro e;have:=hn2.2 (by rw [e2,Int.toNat_natCast];exact e);exact hlt this
  refine xNP l1 l2 hn1 ?_ (by omega) (by omega) (by omega) (by omega) (by omega);have e:Go.Sort.insInner lt a (p+1) dq=dq:=by unfold Go.Sort.insInner;rw [if_neg (by simp [hl])]
  rw [<- ht',e];exact w'
end
end
section
open Go.Sort (swp)
section
variable {Z:St} {b c:Nat} {s:Option Nat} {d:Array Rec} {g:FuncId} {gc:List Value} {lt:Rec->Rec->Bool} {V:Rec->Prop}
theorem Cmp.at_ (hc:Cmp g gc lt V) {τ:St} {dk:Array Rec} (hv:xR V dk) {i j:Nat} (hi:i<dk.size) (hj:j<dk.size):∃ n:Int,zD Tryz.prog g (zEO dk[i]! :: zEO dk[j]! :: gc) τ (iV n) τ/\((n<0/\lt dk[i]! dk[j]! = true)\/(¬ n<0/\lt dk[i]! dk[j]! = false)):=by
 obtain ⟨n,h1,h2⟩:=hc τ dk[i]! dk[j]! (hv i hi) (hv j hj);refine ⟨n,h1, ?_⟩
 by_cases h:n<0
 ·exact .inl ⟨h,h2.1 h⟩
 ·exact .inr ⟨h,by rw [Bool.eq_false_iff];exact fun e=>h (h2.2 e)⟩
theorem Dt.ldN {τ:St} {dk:Array Rec} (h:Dt τ b s dk) {i:Int} {k:Nat} (e:i=(k:Int)) (hk:k<dk.size):zB Tryz.prog τ 45 (zL ⟨b,0,s⟩ (Int.toNat i*3))=some (zEO dk[k]!):=by
 subst e;exact h.ld (by omega) (by omega)
theorem W.swapN {τ:St} {dk:Array Rec} (w:W Z τ b s d dk) {i j:Int} {p q:Nat} (ei:i=(p:Int)) (ej:j=(q:Int)) (hp:p<dk.size) (hq:q<dk.size) :
  ∃ τ1 τ2,zQ Tryz.prog (evL [.pointer (some (zL ⟨b,0,s⟩ (Int.toNat i*3))),zEO dk[q]!]) τ (.store 45 (.tmp 0) (.tmp 1))=some (undef,τ1) /\
   zQ Tryz.prog (evL [.pointer (some (zL ⟨b,0,s⟩ (Int.toNat j*3))),zEO dk[p]!]) τ1 (.store 45 (.tmp 0) (.tmp 1))=some (undef,τ2)/\W Z τ2 b s d (swp dk p q):=by
 subst ei ej;have:=w.swap (i:=(p:Int)) (j:=(q:Int)) (by omega) (by omega) (by omega) (by omega);simpa only [Int.toNat_natCast] using this
theorem yMF (lt:Rec->Rec->Bool) (hi first root:Nat) (d:Array Rec):Go.Sort.siftDown lt hi first root d=(if 2*root+1 ≥ hi then d else
  if 2*root+1+1<hi && lt d[first+(2*root+1)]! d[first+(2*root+1)+1]! then
   if !lt d[first+root]! d[first+(2*root+2)]! then d else
    if 2*root+2<hi then Go.Sort.siftDown lt hi first (2*root+2) (swp d (first+root) (first+(2*root+2))) else d
  else
   if !lt d[first+root]! d[first+(2*root+1)]! then d else Go.Sort.siftDown lt hi first (2*root+1) (swp d (first+root) (first+(2*root+1)))):=by
 conv=>lhs;unfold Go.Sort.siftDown
 simp only [dite_eq_ite]
theorem zBY (lt:Rec->Rec->Bool) (hi first:Nat):∀ (k root:Nat) (d:Array Rec),hi-root<=k->(Go.Sort.siftDown lt hi first root d).size=d.size
 | 0,root,d,hk=>by unfold Go.Sort.siftDown;rw [dif_pos (by omega)]
 | k+1,root,d,hk=>by
  unfold Go.Sort.siftDown;split
  ·rfl
  ·split
   ·split
    ·rfl
    ·split
     ·rw [zBY lt hi first k _ _ (by omega),yY]
     ·rfl
   ·split
    ·rfl
    ·rw [zBY lt hi first k _ _ (by omega),yY]
theorem zCV (lt:Rec->Rec->Bool) (hi first:Nat) {V:Rec->Prop}:∀ (k root:Nat) (d:Array Rec),hi-root<=k->first+hi<=d.size->xR V d->xR V (Go.Sort.siftDown lt hi first root d)
 | 0,root,d,hk,hs,h=>by unfold Go.Sort.siftDown;rw [dif_pos (by omega)];exact h
 | k+1,root,d,hk,hs,h=>by
  unfold Go.Sort.siftDown;split
  ·exact h
  ·rename_i h1;split
   ·split
    ·exact h
    ·split
     ·rename_i h2;exact zCV lt hi first k _ _ (by omega) (by rw [yY];exact hs) (h.swp (by omega) (by omega))
     ·exact h
   ·split
    ·exact h
    ·exact zCV lt hi first k _ _ (by omega) (by rw [yY];exact hs) (h.swp (by omega) (by omega))
theorem xAQ {lo hi first:Nat} (h:Dt Z b s d) (hc:Cmp g gc lt V) (hv:xR V d) (hB:first+hi<=d.size) (hn:d.size<=1000000) (hlo:lo<=1000000) :
  uI 121 [.slice (some ⟨b,0,s⟩) d.size c,iV (lo:Int),iV (hi:Int),iV (first:Int),.func (.func g) ⟨[]⟩ ⟨gc⟩] (.tuple ⟨[]⟩) Z b s d (Go.Sort.siftDown lt hi first lo d):=by
 refine uI.of h (xJY (P0:=fun τ=>W Z τ b s d (Go.Sort.siftDown lt hi first lo d)) (Pr:=fun τ=>W Z τ b s d (Go.Sort.siftDown lt hi first lo d)) (yMI (Inv:=fun k i τ=>∃ (r:Nat) (dk:Array Rec),i=r/\k=hi-r/\r<=1000000+2*hi+2/\W Z τ b s d dk/\dk.size=d.size/\xR V dk/\Go.Sort.siftDown lt hi first r dk=Go.Sort.siftDown lt hi first lo d) ?_ (hi-lo) _ Z.re ⟨lo,d,rfl,rfl,by omega,W.start h,rfl,hv,rfl⟩) (fun τ hw=>yMH ⟨rfl,hw⟩) (fun τ hw=>yMG ⟨rfl,hw⟩));rintro k i τ ⟨r,dk,rfl,hk,hr,w,hsz,hall,ht⟩;by_cases h1:2*r+1 ≥ hi
 ·have e:Go.Sort.siftDown lt hi first r dk=dk:=by unfold Go.Sort.siftDown;rw [dif_pos h1]
  exact xDQ (by rw [<- ht,e];exact w) (by omega) (by omega) (by omega)
 have e0:=yMF lt hi first r dk
 rw [if_neg h1] at e0;have bR:first+r<dk.size:=by omega
 have bC:first+(2*r+1)<dk.size:=by omega
 have lR:=w.dt.ldN (i:=(first:Int)+(r:Int)) (k:=first+r) (by omega) bR;have lC:=w.dt.ldN (i:=(first:Int)+(2*(r:Int)+1)) (k:=first+(2*r+1)) (by omega) bC;obtain ⟨nC,cC,hC⟩:=hc.at_ (τ:=τ) hall bR bC;by_cases h2:2*r+1+1<hi
 ·have bD:first+(2*r+2)<dk.size:=by omega
  have lD1:=w.dt.ldN (i:=(first:Int)+(2*(r:Int)+1)+1) (k:=first+(2*r+2)) (by omega) bD;have lD2:=w.dt.ldN (i:=(first:Int)+(2*(r:Int)+1+1)) (k:=first+(2*r+2)) (by omega) bD;obtain ⟨n1,c1,hc1⟩:=hc.at_ (τ:=τ) hall bC bD;obtain ⟨n2,c2,hc2⟩:=hc.at_ (τ:=τ) hall bR bD;have eD:first+(2*r+1)+1=first+(2*r+2):=by omega
  rcases hc1 with ⟨m1,l1⟩ | ⟨m1,l1⟩
  ·rw [if_pos (by simp [h2,eD,l1])] at e0;rcases hc2 with ⟨m2,l2⟩ | ⟨m2,l2⟩
   ·rw [if_neg (by simp [l2]),if_pos (by omega)] at e0;obtain ⟨τ1,τ2,s1,s2,w2⟩:=w.swapN (i:=(first:Int)+(r:Int)) (j:=(first:Int)+(2*(r:Int)+1+1)) (p:=first+r) (q:=first+(2*r+2)) (by omega) (by omega) bR bD;exact xDP lC lD1 c1 lR lD2 c2 s1 s2 ⟨hi-(2*r+2),by omega,2*r+2,_,by omega,rfl,by omega,w2,by rw [yY,hsz],hall.swp bR bD,by rw [<- e0,ht]⟩ (by omega) (by omega) (by omega) (by omega) (by omega) (by omega) (by omega) (by omega) (by omega) (by omega) (by omega) (by omega) (by omega) (by omega) (by omega)
   ·rw [if_pos (by simp [l2])] at e0;exact xDO lC lD1 c1 lR lD2 c2 (by rw [<- ht,e0];exact w)
  ·rw [if_neg (by simp [eD,l1])] at e0;rcases hC with ⟨m2,l2⟩ | ⟨m2,l2⟩
   ·rw [if_neg (by simp [l2])] at e0;obtain ⟨τ1,τ2,s1,s2,w2⟩:=w.swapN (i:=(first:Int)+(r:Int)) (j:=(first:Int)+(2*(r:Int)+1)) (p:=first+r) (q:=first+(2*r+1)) (by omega) (by omega) bR bC;exact xDN lC lD1 c1 lR cC s1 s2 ⟨hi-(2*r+1),by omega,2*r+1,_,by omega,rfl,by omega,w2,by rw [yY,hsz],hall.swp bR bC,by rw [<- e0,ht]⟩
   ·rw [if_pos (by simp [l2])] at e0;exact xDM lC lD1 c1 lR cC (by rw [<- ht,e0];exact w)
 ·rw [if_neg (by simp [show ¬ 2*r+1+1<hi from h2])] at e0;rcases hC with ⟨m2,l2⟩ | ⟨m2,l2⟩
  ·rw [if_neg (by simp [l2])] at e0;obtain ⟨τ1,τ2,s1,s2,w2⟩:=w.swapN (i:=(first:Int)+(r:Int)) (j:=(first:Int)+(2*(r:Int)+1)) (p:=first+r) (q:=first+(2*r+1)) (by omega) (by omega) bR bC;exact xDL lR lC cC s1 s2 ⟨hi-(2*r+1),by omega,2*r+1,_,by omega,rfl,by omega,w2,by rw [yY,hsz],hall.swp bR bC,by rw [<- e0,ht]⟩
  ·rw [if_pos (by simp [l2])] at e0;exact xDK lR lC cC (by rw [<- ht,e0];exact w)
end
end
section
open Go.Sort (swp)
section
variable {Z:St} {b c:Nat} {s:Option Nat} {d:Array Rec} {g:FuncId} {gc:List Value} {lt:Rec->Rec->Bool} {V:Rec->Prop}
theorem xUM {a B:Nat} (h:Dt Z b s d) (hc:Cmp g gc lt V) (hv:xR V d) (ha:a<=B) (hB:B<=d.size) (hn:d.size<=1000000) :
  uI 107 [.slice (some ⟨b,0,s⟩) d.size c,iV (a:Int),iV (B:Int),.func (.func g) ⟨[]⟩ ⟨gc⟩] (.tuple ⟨[]⟩) Z b s d (Go.Sort.heapSort lt d a B):=by
 have e1:Int.tdiv (((B:Int)-(a:Int))-1) 2=(((B-a-1) / 2:Nat):Int):=by
  by_cases h0:B=a
  ·subst h0;have:((B:Int)-(B:Int))-1=-1:=by omega
   rw [this];have:B-B-1=0:=by omega
   rw [this];rfl
  ·rw [Int.tdiv_eq_ediv_of_nonneg (by omega)];omega
 have e2:(B:Int)-(a:Int)=((B-a:Nat):Int):=by omega
 refine uI.of h (xOL (by rw [<- vU,e1,zXE (by omega) (by omega)]) (P0:=fun τ=>∃ dk,W Z τ b s d dk/\dk.size=d.size/\xR V dk/\Go.Sort.heapPop lt a (B-a) dk=Go.Sort.heapSort lt d a B)
  (yPU (Inv:=fun k i τ=>∃ dk,i=(k:Int)-1/\k<=(B-a-1) / 2+1/\W Z τ b s d dk/\dk.size=d.size/\xR V dk/\Go.Sort.heapPop lt a (B-a) (Go.Sort.heapBuild lt (B-a) a k dk)=Go.Sort.heapSort lt d a B) ?_ ((B-a-1) / 2+1) _ Z.re ⟨d,by rw [e1];omega,by omega,W.start h,rfl,hv,rfl⟩) ?_)
 ·rintro k i τ ⟨dk,rfl,hk,w,hsz,hall,ht⟩;cases k with
  | zero=>exact xGV ⟨dk,w,hsz,hall,ht⟩ (by omega)
  | succ k =>
   have hs:=xAQ (c:=c) (lo:=k) (hi:=B-a) (first:=a) w.dt hc hall (by omega) (by omega) (by omega);obtain ⟨τ',k1,w'⟩:=w.call hs;rw [hsz] at k1;rw [<- e2] at k1;rw [show ((k+1:Nat):Int)-1=(k:Int) by omega];exact xGW k1 ⟨k,by omega,_,by omega,by omega,w',by rw [zBY lt _ _ _ _ _ (Nat.le_refl _),hsz],zCV lt _ _ _ _ _ (Nat.le_refl _) (by omega) hall,ht⟩ (by omega)
 ·rintro τ ⟨dk0,w0,hsz0,hall0,ht0⟩;refine yPS (P2:=fun τ=>W Z τ b s d (Go.Sort.heapSort lt d a B)) (yPT (Inv:=fun k i τ=>∃ dk,i=(k:Int)-1/\k<=B-a/\W Z τ b s d dk/\dk.size=d.size/\xR V dk/\Go.Sort.heapPop lt a k dk=Go.Sort.heapSort lt d a B) ?_ (B-a) _ τ ⟨dk0,by omega,Nat.le_refl _,w0,hsz0,hall0,ht0⟩) (fun τ hw=>yPR ⟨rfl,hw⟩) (by omega);rintro k i τ ⟨dk,rfl,hk,w,hsz,hall,ht⟩;cases k with
  | zero=>exact xGT (by rw [<- ht];exact w) (by omega)
  | succ k =>
   have b1:a+k<dk.size:=by omega
   have b2:a<dk.size:=by omega
   rw [show ((k+1:Nat):Int)-1=(k:Int) by omega];have l1:=w.dt.ldN (i:=(a:Int)+(k:Int)) (k:=a+k) (by omega) b1;have l2:=w.dt.ldN (i:=(a:Int)) (k:=a) rfl b2;obtain ⟨τ1,τ2,s1,s2,w2⟩:=w.swapN (i:=(a:Int)) (j:=(a:Int)+(k:Int)) (p:=a) (q:=a+k) rfl (by omega) b2 b1;have hall2:=hall.swp b2 b1;have hs:=xAQ (c:=c) (lo:=0) (hi:=k) (first:=a) w2.dt hc hall2 (by rw [yY];omega) (by rw [yY];omega) (by omega);obtain ⟨τ',k1,w'⟩:=w2.call hs;rw [yY,hsz] at k1;exact xGU l1 l2 s1 s2 k1 ⟨k,by omega,_,by omega,by omega,w',by rw [zBY lt _ _ _ _ _ (Nat.le_refl _),yY,hsz],zCV lt _ _ _ _ _ (Nat.le_refl _) (by rw [yY];omega) hall2,ht⟩ (by omega) (by omega) (by omega) (by omega)
theorem xYB {a B dA:Nat} (h:Dt Z b s d) (hc:Cmp g gc lt V) (hv:xR V d) (ha:a<=dA) (hp:dA<B) (hB:B<=d.size) (hn:d.size<=1000000) :
  uI 113 [.slice (some ⟨b,0,s⟩) d.size c,iV (a:Int),iV (B:Int),iV (dA:Int),.func (.func g) ⟨[]⟩ ⟨gc⟩] (.tuple ⟨[iV ((Go.Sort.partition lt d a B dA).1:Int),.bool (Go.Sort.partition lt d a B dA).2.1]⟩) Z b s d (Go.Sort.partition lt d a B dA).2.2:=by
 have w0:=W.start h;obtain ⟨τ1,τ2,s1,s2,w1⟩:=w0.swapN (i:=(a:Int)) (j:=(dA:Int)) (p:=a) (q:=dA) rfl rfl (by omega) (by omega);obtain ⟨d1,hd1⟩:∃ d1,d1=swp d a dA:=⟨_,rfl⟩;have hall1:xR V d1:=by rw [hd1];exact hv.swp (by omega) (by omega)
 have hsz1:d1.size=d.size:=by rw [hd1,yY]
 rw [<- hd1] at w1;have l0:=w0.dt.ldN (i:=(dA:Int)) (k:=dA) rfl (by omega);have l0':=w0.dt.ldN (i:=(a:Int)) (k:=a) rfl (by omega);obtain ⟨i1,hi1⟩:∃ i1,i1=Go.Sort.scanUp (fun x=>lt x d1[a]!) d1 (B-1) (a+1):=⟨_,rfl⟩;obtain ⟨j1,hj1⟩:∃ j1,j1=Go.Sort.scanDown (fun x=>!lt x d1[a]!) d1 i1 (B-1):=⟨_,rfl⟩;have hres:Go.Sort.partition lt d a B dA=if i1 > j1 then (j1,true,swp d1 j1 a) else ((Go.Sort.partLoop lt a (i1+1) (j1-1) (swp d1 i1 j1)).1,false,swp (Go.Sort.partLoop lt a (i1+1) (j1-1) (swp d1 i1 j1)).2 (Go.Sort.partLoop lt a (i1+1) (j1-1) (swp d1 i1 j1)).1 a):=by
  unfold Go.Sort.partition;simp only [<- hd1,<- hi1,<- hj1]
 refine uI.of h (xTK l0 l0' s1 s2 (P0:=fun i τ=>i=(i1:Int)/\a+1<=i1/\i1<=B/\W Z τ b s d d1)
  (yVV (Inv:=fun k i τ=>∃ p:Nat,i=p/\p+k=B/\a+1<=p/\W Z τ b s d d1/\Go.Sort.scanUp (fun x=>lt x d1[a]!) d1 (B-1) p=i1) ?_ (B-(a+1)) _ τ2 ⟨a+1,by omega,by omega,by omega,w1,hi1.symm⟩) ?_)
 ·rintro k i τ ⟨p,rfl,hk,hap,w,ht⟩;by_cases hpj:p<=B-1;rotate_left
  ·rw [Go.Sort.scanUp,if_neg (by simp;omega)] at ht;exact xLU ⟨by rw [ht],by omega,by omega,w⟩ (by omega)
  have lp:=w.dt.ldN (i:=(p:Int)) (k:=p) rfl (by omega);have la:=w.dt.ldN (i:=(a:Int)) (k:=a) rfl (by omega);obtain ⟨n,cn,⟨m1,hl⟩ | ⟨m1,hl⟩⟩:=hc.at_ (τ:=τ) hall1 (i:=p) (j:=a) (by omega) (by omega)
  ·rw [Go.Sort.scanUp,if_pos (by simp [hl];omega)] at ht;exact xLW lp la cn ⟨k-1,by omega,p+1,by omega,by omega,by omega,w,ht⟩
  ·rw [Go.Sort.scanUp,if_neg (by simp [hl])] at ht;exact xLV lp la cn ⟨by rw [ht],by omega,by omega,w⟩
 rintro i τ ⟨rfl,hai,hiB,w⟩;refine yVQ (P2:=fun j τ=>j=(j1:Int)/\j1<B/\i1<=j1+1/\W Z τ b s d d1)
  (yVU (Inv:=fun k j τ=>∃ q:Nat,j=q/\q=k/\q<B/\i1<=q+1/\W Z τ b s d d1/\Go.Sort.scanDown (fun x=>!lt x d1[a]!) d1 i1 q=j1) ?_ (B-1) _ τ ⟨B-1,by omega,rfl,by omega,by omega,w,hj1.symm⟩) ?_
 ·rintro k j τ ⟨q,rfl,rfl,hqB,hiq,w,ht⟩;by_cases hij:i1<=q;rotate_left
  ·have e:j1=q:=by
    cases q with
    | zero=>rw [<- ht];rfl
    | succ q=>rw [<- ht,Go.Sort.scanDown,if_neg (by simp;omega)]
   exact xLR ⟨by rw [e],by omega,by omega,w⟩ (by omega)
  obtain ⟨q',rfl⟩:∃ q',q=q'+1:=⟨q-1,by omega⟩;have lp:=w.dt.ldN (i:=((q'+1:Nat):Int)) (k:=q'+1) rfl (by omega);have la:=w.dt.ldN (i:=(a:Int)) (k:=a) rfl (by omega);obtain ⟨n,cn,⟨m1,hl⟩ | ⟨m1,hl⟩⟩:=hc.at_ (τ:=τ) hall1 (i:=q'+1) (j:=a) (by omega) (by omega)
  ·rw [Go.Sort.scanDown,if_neg (by simp [hl])] at ht;exact xLT lp la cn ⟨by rw [ht],by omega,by omega,w⟩
  ·rw [Go.Sort.scanDown,if_pos (by simp [hl];omega)] at ht;exact xLS lp la cn ⟨q',by omega,q',by omega,rfl,by omega,by omega,w,ht⟩
 rintro j τ ⟨rfl,hjB,hij1,w⟩;by_cases hgt:i1 > j1
 ·rw [if_pos hgt] at hres;have lj:=w.dt.ldN (i:=(j1:Int)) (k:=j1) rfl (by omega);have la:=w.dt.ldN (i:=(a:Int)) (k:=a) rfl (by omega);obtain ⟨τ3,τ4,t1,t2,w4⟩:=w.swapN (i:=(j1:Int)) (j:=(a:Int)) (p:=j1) (q:=a) rfl rfl (by omega) (by omega);exact yVP la lj t1 t2 ⟨by rw [hres],by rw [hres];exact w4⟩
 rw [if_neg hgt] at hres;have lj:=w.dt.ldN (i:=(j1:Int)) (k:=j1) rfl (by omega);have li:=w.dt.ldN (i:=(i1:Int)) (k:=i1) rfl (by omega);obtain ⟨τ3,τ4,t1,t2,w4⟩:=w.swapN (i:=(i1:Int)) (j:=(j1:Int)) (p:=i1) (q:=j1) rfl rfl (by omega) (by omega);obtain ⟨R,hR⟩:∃ R,R=Go.Sort.partLoop lt a (i1+1) (j1-1) (swp d1 i1 j1):=⟨_,rfl⟩;rw [<- hR] at hres;have hall4:=hall1.swp (i:=i1) (j:=j1) (by omega) (by omega);refine yVO lj li t1 t2 (P4:=fun j τ=>j=(R.1:Int)/\R.1<B/\a<=R.1/\R.2.size=d.size/\W Z τ b s d R.2)
  (yVT (Inv:=fun k i j τ=>∃ (p q:Nat) (dk:Array Rec),i=p/\j=q/\k=q+1-p/\a+1<=p/\q<B/\a<=q/\p<=q+2/\dk.size=d.size/\xR V dk/\W Z τ b s d dk/\Go.Sort.partLoop lt a p q dk=R) ?_ (j1-1+1-(i1+1)) _ _ τ4 ⟨i1+1,j1-1,_,by omega,by omega,rfl,by omega,by omega,by omega,by omega,by rw [yY,hsz1],hall4,w4,hR.symm⟩) ?_
 rotate_left
 ·rintro j τ ⟨rfl,hRB,hRa,hRs,w⟩;have lj:=w.dt.ldN (i:=(R.1:Int)) (k:=R.1) rfl (by omega);have la:=w.dt.ldN (i:=(a:Int)) (k:=a) rfl (by omega);obtain ⟨τ5,τ6,t1,t2,w6⟩:=w.swapN (i:=(R.1:Int)) (j:=(a:Int)) (p:=R.1) (q:=a) rfl rfl (by omega) (by omega);exact yVN la lj t1 t2 ⟨by rw [hres],by rw [hres];exact w6⟩
 rintro k i j τ ⟨p,q,dk,rfl,rfl,hk,hap,hqB,haq,hpq,hsz,hall,w,ht⟩;obtain ⟨i2,hi2⟩:∃ i2,i2=Go.Sort.scanUp (fun x=>lt x dk[a]!) dk q p:=⟨_,rfl⟩;obtain ⟨j2,hj2⟩:∃ j2,j2=Go.Sort.scanDown (fun x=>!lt x dk[a]!) dk i2 q:=⟨_,rfl⟩;have hstep:Go.Sort.partLoop lt a p q dk=if i2 > j2 then (j2,dk) else if (j2-1)+1-(i2+1)<q+1-p then Go.Sort.partLoop lt a (i2+1) (j2-1) (swp dk i2 j2) else (j2,dk):=by
  conv=>lhs;unfold Go.Sort.partLoop
  simp only [dite_eq_ite,<- hi2,<- hj2]
 refine xLQ (P6:=fun i τ=>i=(i2:Int)/\p<=i2/\i2<=q+2/\(i2<=q+1\/i2=p)/\W Z τ b s d dk)
  (yVS (Inv:=fun k i τ=>∃ u:Nat,i=u/\u+k=q+2/\p<=u/\(u<=q+1\/u=p)/\W Z τ b s d dk/\Go.Sort.scanUp (fun x=>lt x dk[a]!) dk q u=i2) ?_ (q+2-p) _ τ ⟨p,rfl,by omega,Nat.le_refl _,.inr rfl,w,hi2.symm⟩) ?_
 ·rintro k i τ ⟨u,rfl,hk,hpu,huq,w,ht⟩;by_cases hpj:u<=q;rotate_left
  ·rw [Go.Sort.scanUp,if_neg (by simp;omega)] at ht;exact xLN ⟨by rw [ht],by omega,by omega,by omega,w⟩ (by omega)
  have lp:=w.dt.ldN (i:=(u:Int)) (k:=u) rfl (by omega);have la:=w.dt.ldN (i:=(a:Int)) (k:=a) rfl (by omega);obtain ⟨n,cn,⟨m1,hl⟩ | ⟨m1,hl⟩⟩:=hc.at_ (τ:=τ) hall (i:=u) (j:=a) (by omega) (by omega)
  ·rw [Go.Sort.scanUp,if_pos (by simp [hl];omega)] at ht;exact xLP lp la cn ⟨k-1,by omega,u+1,by omega,by omega,by omega,by omega,w,ht⟩
  ·rw [Go.Sort.scanUp,if_neg (by simp [hl])] at ht;exact xLO lp la cn ⟨by rw [ht],by omega,by omega,by omega,w⟩
 rintro i τ ⟨rfl,hpi,hiq,hiq2,w⟩;refine yVM (P8:=fun j τ=>j=(j2:Int)/\j2<=q/\(i2<=j2+1\/j2=q)/\W Z τ b s d dk)
  (yVR (Inv:=fun k j τ=>∃ v:Nat,j=v/\v=k/\v<=q/\(i2<=v+1\/v=q)/\W Z τ b s d dk/\Go.Sort.scanDown (fun x=>!lt x dk[a]!) dk i2 v=j2) ?_ q _ τ ⟨q,rfl,rfl,Nat.le_refl _,.inr rfl,w,hj2.symm⟩) ?_
 ·rintro k j τ ⟨v,rfl,rfl,hvq,hiv,w,ht⟩;by_cases hij:i2<=v;rotate_left
  ·have e:j2=v:=by
    cases v with
    | zero=>rw [<- ht];rfl
    | succ v=>rw [<- ht,Go.Sort.scanDown,if_neg (by simp;omega)]
   exact xLK ⟨by rw [e],by omega,by omega,w⟩ (by omega)
  obtain ⟨v',rfl⟩:∃ v',v=v'+1:=⟨v-1,by omega⟩;have lp:=w.dt.ldN (i:=((v'+1:Nat):Int)) (k:=v'+1) rfl (by omega);have la:=w.dt.ldN (i:=(a:Int)) (k:=a) rfl (by omega);obtain ⟨n,cn,⟨m1,hl⟩ | ⟨m1,hl⟩⟩:=hc.at_ (τ:=τ) hall (i:=v'+1) (j:=a) (by omega) (by omega)
  ·rw [Go.Sort.scanDown,if_neg (by simp [hl])] at ht;exact xLM lp la cn ⟨by rw [ht],by omega,by omega,w⟩
  ·rw [Go.Sort.scanDown,if_pos (by simp [hl];omega)] at ht;exact xLL lp la cn ⟨v',by omega,v',by omega,rfl,by omega,by omega,w,ht⟩
 rintro j τ ⟨rfl,hjq,hij2,w⟩;by_cases hgt:i2 > j2
 ·rw [if_pos hgt] at hstep;have e:R=(j2,dk):=by rw [<- ht,hstep]
  exact yVL ⟨by rw [e],by rw [e];show j2<B;omega,by rw [e];show a<=j2;omega,by rw [e];exact hsz,by rw [e];exact w⟩ (by omega)
 rw [if_neg hgt,if_pos (by omega)] at hstep;have lj:=w.dt.ldN (i:=(j2:Int)) (k:=j2) rfl (by omega);have li:=w.dt.ldN (i:=(i2:Int)) (k:=i2) rfl (by omega);obtain ⟨τ5,τ6,t1,t2,w6⟩:=w.swapN (i:=(i2:Int)) (j:=(j2:Int)) (p:=i2) (q:=j2) rfl rfl (by omega) (by omega);exact yVK lj li t1 t2 ⟨j2-1+1-(i2+1),by omega,i2+1,j2-1,_,by omega,by omega,rfl,by omega,by omega,by omega,by omega,by rw [yY,hsz],hall.swp (by omega) (by omega),w6,by rw [<- hstep,ht]⟩
end
end
section
open Go.Sort (swp)
section
variable {Z:St} {b c:Nat} {s:Option Nat} {d:Array Rec} {g:FuncId} {gc:List Value} {lt:Rec->Rec->Bool} {V:Rec->Prop}
theorem xMC {a B dA:Nat} (h:Dt Z b s d) (hc:Cmp g gc lt V) (hv:xR V d) (ha:a<=dA) (hp:dA<B) (hB:B<=d.size) (hn:d.size<=1000000) :
  uI 112 [.slice (some ⟨b,0,s⟩) d.size c,iV (a:Int),iV (B:Int),iV (dA:Int),.func (.func g) ⟨[]⟩ ⟨gc⟩] (iV ((Go.Sort.partitionEqual lt d a B dA).1:Int)) Z b s d (Go.Sort.partitionEqual lt d a B dA).2:=by
 have w0:=W.start h;obtain ⟨τ1,τ2,s1,s2,w1⟩:=w0.swapN (i:=(a:Int)) (j:=(dA:Int)) (p:=a) (q:=dA) rfl rfl (by omega) (by omega);have l0:=w0.dt.ldN (i:=(dA:Int)) (k:=dA) rfl (by omega);have l0':=w0.dt.ldN (i:=(a:Int)) (k:=a) rfl (by omega);obtain ⟨R,hR⟩:∃ R,R=Go.Sort.partitionEqual lt d a B dA:=⟨_,rfl⟩;rw [<- hR];refine uI.of h (xGG l0 l0' s1 s2 (P0:=fun i τ=>i=(R.1:Int)/\W Z τ b s d R.2)
  (yJL (Inv:=fun k i j τ=>∃ (p q:Nat) (dk:Array Rec),i=p/\j=q/\k=q+1-p/\a+1<=p/\q<B/\a<=q/\p<=q+2/\dk.size=d.size/\xR V dk/\W Z τ b s d dk/\Go.Sort.partEqLoop lt a p q dk=R) ?_ (B-1+1-(a+1)) _ _ τ2 ⟨a+1,B-1,_,by omega,by omega,rfl,by omega,by omega,by omega,by omega,yY _ _ _,hv.swp (by omega) (by omega),w1,by rw [hR];rfl⟩)
  (fun i τ h=>yJI ⟨by rw [h.1],h.2⟩))
 rintro k i j τ ⟨p,q,dk,rfl,rfl,hk,hap,hqB,haq,hpq,hsz,hall,w,ht⟩;obtain ⟨i2,hi2⟩:∃ i2,i2=Go.Sort.scanUp (fun x=>!lt dk[a]! x) dk q p:=⟨_,rfl⟩;obtain ⟨j2,hj2⟩:∃ j2,j2=Go.Sort.scanDown (fun x=>lt dk[a]! x) dk i2 q:=⟨_,rfl⟩;have hstep:Go.Sort.partEqLoop lt a p q dk=if i2 > j2 then (i2,dk) else if (j2-1)+1-(i2+1)<q+1-p then Go.Sort.partEqLoop lt a (i2+1) (j2-1) (swp dk i2 j2) else (i2,dk):=by
  conv=>lhs;unfold Go.Sort.partEqLoop
  simp only [dite_eq_ite,<- hi2,<- hj2]
 refine yWD (P2:=fun i τ=>i=(i2:Int)/\p<=i2/\i2<=q+2/\(i2<=q+1\/i2=p)/\W Z τ b s d dk)
  (yJK (Inv:=fun k i τ=>∃ u:Nat,i=u/\u+k=q+2/\p<=u/\(u<=q+1\/u=p)/\W Z τ b s d dk/\Go.Sort.scanUp (fun x=>!lt dk[a]! x) dk q u=i2) ?_ (q+2-p) _ τ ⟨p,rfl,by omega,Nat.le_refl _,.inr rfl,w,hi2.symm⟩) ?_
 ·rintro k i τ ⟨u,rfl,hk,hpu,huq,w,ht⟩;by_cases hpj:u<=q;rotate_left
  ·rw [Go.Sort.scanUp,if_neg (by simp;omega)] at ht;exact yWA ⟨by rw [ht],by omega,by omega,by omega,w⟩ (by omega)
  have lp:=w.dt.ldN (i:=(u:Int)) (k:=u) rfl (by omega);have la:=w.dt.ldN (i:=(a:Int)) (k:=a) rfl (by omega);obtain ⟨n,cn,⟨m1,hl⟩ | ⟨m1,hl⟩⟩:=hc.at_ (τ:=τ) hall (i:=a) (j:=u) (by omega) (by omega)
  ·rw [Go.Sort.scanUp,if_neg (by simp [hl])] at ht;exact yWC la lp cn ⟨by rw [ht],by omega,by omega,by omega,w⟩
  ·rw [Go.Sort.scanUp,if_pos (by simp [hl];omega)] at ht;exact yWB la lp cn ⟨k-1,by omega,u+1,by omega,by omega,by omega,by omega,w,ht⟩
 rintro i τ ⟨rfl,hpi,hiq,hiq2,w⟩;refine yJH (P4:=fun j τ=>j=(j2:Int)/\j2<=q/\(i2<=j2+1\/j2=q)/\W Z τ b s d dk)
  (yJJ (Inv:=fun k j τ=>∃ v:Nat,j=v/\v=k/\v<=q/\(i2<=v+1\/v=q)/\W Z τ b s d dk/\Go.Sort.scanDown (fun x=>lt dk[a]! x) dk i2 v=j2) ?_ q _ τ ⟨q,rfl,rfl,Nat.le_refl _,.inr rfl,w,hj2.symm⟩) ?_
 ·rintro k j τ ⟨v,rfl,rfl,hvq,hiv,w,ht⟩;by_cases hij:i2<=v;rotate_left
  ·have e:j2=v:=by
    cases v with
    | zero=>rw [<- ht];rfl
    | succ v=>rw [<- ht,Go.Sort.scanDown,if_neg (by simp;omega)]
   exact yVX ⟨by rw [e],by omega,by omega,w⟩ (by omega)
  obtain ⟨v',rfl⟩:∃ v',v=v'+1:=⟨v-1,by omega⟩;have lp:=w.dt.ldN (i:=((v'+1:Nat):Int)) (k:=v'+1) rfl (by omega);have la:=w.dt.ldN (i:=(a:Int)) (k:=a) rfl (by omega);obtain ⟨n,cn,⟨m1,hl⟩ | ⟨m1,hl⟩⟩:=hc.at_ (τ:=τ) hall (i:=a) (j:=v'+1) (by omega) (by omega)
  ·rw [Go.Sort.scanDown,if_pos (by simp [hl];omega)] at ht;exact yVZ la lp cn ⟨v',by omega,v',by omega,rfl,by omega,by omega,w,ht⟩
  ·rw [Go.Sort.scanDown,if_neg (by simp [hl])] at ht;exact yVY la lp cn ⟨by rw [ht],by omega,by omega,w⟩
 rintro j τ ⟨rfl,hjq,hij2,w⟩;by_cases hgt:i2 > j2
 ·rw [if_pos hgt] at hstep;have e:R=(i2,dk):=by rw [<- ht,hstep]
  exact yJG ⟨by rw [e],by rw [e];exact w⟩ (by omega)
 rw [if_neg hgt,if_pos (by omega)] at hstep;have lj:=w.dt.ldN (i:=(j2:Int)) (k:=j2) rfl (by omega);have li:=w.dt.ldN (i:=(i2:Int)) (k:=i2) rfl (by omega);obtain ⟨τ5,τ6,t1,t2,w6⟩:=w.swapN (i:=(i2:Int)) (j:=(j2:Int)) (p:=i2) (q:=j2) rfl rfl (by omega) (by omega);exact yJF lj li t1 t2 ⟨j2-1+1-(i2+1),by omega,i2+1,j2-1,_,by omega,by omega,rfl,by omega,by omega,by omega,by omega,by rw [yY,hsz],hall.swp (by omega) (by omega),w6,by rw [<- hstep,ht]⟩
theorem zIX (lt:Rec->Rec->Bool):∀ (j:Nat) (d:Array Rec),(Go.Sort.shiftDown lt j d).size=d.size
 | 0,d=>rfl
 | j+1,d=>by
  unfold Go.Sort.shiftDown;split
  ·rfl
  ·rw [zIX,yY]
theorem zMN (lt:Rec->Rec->Bool) {V:Rec->Prop}:∀ (j:Nat) (d:Array Rec),j<d.size->xR V d->xR V (Go.Sort.shiftDown lt j d)
 | 0,d,_,h=>h
 | j+1,d,hj,h=>by
  unfold Go.Sort.shiftDown;split
  ·exact h
  ·exact zMN lt j _ (by rw [yY];omega) (h.swp hj (by omega))
theorem zCN (lt:Rec->Rec->Bool) {V:Rec->Prop} {B:Nat}:∀ (k j:Nat) (d:Array Rec),B-j<=k->1<=j->B<=d.size->xR V d->(Go.Sort.shiftUp lt B j d).size=d.size/\xR V (Go.Sort.shiftUp lt B j d)
 | 0,j,d,hk,hj,hB,h=>by rw [Go.Sort.shiftUp,if_neg (by omega)];exact ⟨rfl,h⟩
 | k+1,j,d,hk,hj,hB,h=>by
  rw [Go.Sort.shiftUp];split
  ·split
   ·exact ⟨rfl,h⟩
   ·have:=zCN lt (V:=V) (B:=B) k (j+1) (swp d j (j-1)) (by omega) (by omega) (by rw [yY];exact hB) (h.swp (by omega) (by omega));rw [yY] at this;exact this
  ·exact ⟨rfl,h⟩
theorem zMO (lt:Rec->Rec->Bool) (d:Array Rec) (B:Nat):∀ (k i:Nat),B-i<=k->i<=B->i<=Go.Sort.scanSorted lt d B i/\Go.Sort.scanSorted lt d B i<=B
 | 0,i,hk,hi=>by rw [Go.Sort.scanSorted,if_neg (by simp;omega)];omega
 | k+1,i,hk,hi=>by
  rw [Go.Sort.scanSorted];split
  ·rename_i h;have:i<B:=by simp at h;exact h.1
   have:=zMO lt d B k (i+1) (by omega) (by omega);omega
  ·omega
theorem yVW {a B i10:Int} {x i:Nat} {τ:St} {dk:Array Rec} (hc:Cmp g gc lt V) (w:W Z τ b s d dk) (hsz:dk.size=d.size) (hall:xR V dk) (hx:x<d.size) (hn:d.size<=1000000) :
  zZE ⟨b,0,s⟩ d.size c a B g gc (i:Int) i10 (x:Int) τ (fun τ'=>W Z τ' b s d (Go.Sort.shiftDown lt x dk)):=by
 refine yON (Inv:=fun k j τ'=>∃ (q:Nat) (dq:Array Rec),j=q/\q=k/\q<=x/\dq.size=d.size/\xR V dq/\W Z τ' b s d dq/\Go.Sort.shiftDown lt q dq=Go.Sort.shiftDown lt x dk) ?_ x _ τ ⟨x,dk,rfl,rfl,Nat.le_refl _,hsz,hall,w,rfl⟩;rintro k j τ' ⟨q,dq,rfl,rfl,hq,hsz',hall',w',ht⟩;cases q with
 | zero=>exact xFV (by rw [<- ht];exact w') (by omega)
 | succ q =>
  have l1:=w'.dt.ldN (i:=((q+1:Nat):Int)) (k:=q+1) rfl (by omega);have l2:=w'.dt.ldN (i:=((q+1:Nat):Int)-1) (k:=q) (by omega) (by omega);obtain ⟨n,cn,⟨m1,hl⟩ | ⟨m1,hl⟩⟩:=hc.at_ (τ:=τ') hall' (i:=q+1) (j:=q) (by omega) (by omega)
  ·obtain ⟨τ5,τ6,t1,t2,w6⟩:=w'.swapN (i:=((q+1:Nat):Int)) (j:=((q+1:Nat):Int)-1) (p:=q+1) (q:=q) rfl (by omega) (by omega) (by omega);rw [Go.Sort.shiftDown,if_neg (by simp [hl])] at ht;exact xFX l1 l2 cn t1 t2 ⟨q,by omega,q,_,by omega,rfl,by omega,by rw [yY,hsz'],hall'.swp (by omega) (by omega),w6,ht⟩
  ·rw [Go.Sort.shiftDown,if_pos (by simp [hl])] at ht;exact xFW l1 l2 cn (by rw [<- ht];exact w')
theorem yOL {a i10:Int} {B x i:Nat} {τ:St} {dk:Array Rec} (hc:Cmp g gc lt V) (w:W Z τ b s d dk) (hsz:dk.size=d.size) (hall:xR V dk) (hx:1<=x) (hxB:x<=B+2) (hB:B<=d.size) (hn:d.size<=1000000) :
  zJW ⟨b,0,s⟩ d.size c a (B:Int) g gc (i:Int) i10 (x:Int) τ (fun τ'=>W Z τ' b s d (Go.Sort.shiftUp lt B x dk)):=by
 refine yOM (Inv:=fun k j τ'=>∃ (q:Nat) (dq:Array Rec),j=q/\q+k=B+2/\1<=q/\dq.size=d.size/\xR V dq/\W Z τ' b s d dq/\Go.Sort.shiftUp lt B q dq=Go.Sort.shiftUp lt B x dk) ?_ (B+2-x) _ τ ⟨x,dk,rfl,by omega,hx,hsz,hall,w,rfl⟩;rintro k j τ' ⟨q,dq,rfl,hk,hq,hsz',hall',w',ht⟩;by_cases hqB:q<B;rotate_left
 ·rw [Go.Sort.shiftUp,if_neg hqB] at ht;exact xFS (by rw [<- ht];exact w') (by omega)
 have l1:=w'.dt.ldN (i:=(q:Int)) (k:=q) rfl (by omega);have l2:=w'.dt.ldN (i:=(q:Int)-1) (k:=q-1) (by omega) (by omega);obtain ⟨n,cn,⟨m1,hl⟩ | ⟨m1,hl⟩⟩:=hc.at_ (τ:=τ') hall' (i:=q) (j:=q-1) (by omega) (by omega)
 ·obtain ⟨τ5,τ6,t1,t2,w6⟩:=w'.swapN (i:=(q:Int)) (j:=(q:Int)-1) (p:=q) (q:=q-1) rfl (by omega) (by omega) (by omega);rw [Go.Sort.shiftUp,if_pos hqB,if_neg (by simp [hl])] at ht;exact xFU l1 l2 cn t1 t2 ⟨k-1,by omega,q+1,_,by omega,by omega,by omega,by rw [yY,hsz'],hall'.swp (by omega) (by omega),w6,ht⟩
 ·rw [Go.Sort.shiftUp,if_pos hqB,if_pos (by simp [hl])] at ht;exact xFT l1 l2 cn (by rw [<- ht];exact w')
theorem xBM {a B:Nat} (h:Dt Z b s d) (hc:Cmp g gc lt V) (hv:xR V d) (ha:a<B) (hB:B<=d.size) (hn:d.size<=1000000) :
  uI 111 [.slice (some ⟨b,0,s⟩) d.size c,iV (a:Int),iV (B:Int),.func (.func g) ⟨[]⟩ ⟨gc⟩] (.bool (Go.Sort.partialInsertionSort lt d a B).2) Z b s d (Go.Sort.partialInsertionSort lt d a B).1:=by
 obtain ⟨R,hR⟩:∃ R,R=Go.Sort.partialInsertionSort lt d a B:=⟨_,rfl⟩;rw [<- hR];refine uI.of h (xMB (P0:=fun τ=>R.2=false/\W Z τ b s d R.1) (Pr:=fun t τ=>R.2=t/\W Z τ b s d R.1)
  (yOP (Inv:=fun k i j τ=>∃ (p:Nat) (dk:Array Rec),i=p/\j=5-(k:Int)/\k<=5/\a+1<=p/\p<=B/\dk.size=d.size/\xR V dk/\W Z τ b s d dk/\Go.Sort.partialIns lt a B k p dk=R) ?_ 5 _ _ Z.re ⟨a+1,d,by omega,by omega,Nat.le_refl _,Nat.le_refl _,by omega,rfl,hv,W.start h,hR.symm⟩)
  (fun τ h=>yOK ⟨by rw [h.1],h.2⟩) (fun t τ h=>yOJ ⟨by rw [h.1],h.2⟩))
 rintro k i j τ ⟨p,dk,rfl,rfl,hk5,hap,hpB,hsz,hall,w,ht⟩;cases k with
 | zero =>
  rw [Go.Sort.partialIns] at ht;exact xGB (by rw [<- ht];exact ⟨rfl,w⟩) (by omega)
 | succ k =>
 obtain ⟨i2,hi2⟩:∃ i2,i2=Go.Sort.scanSorted lt dk B p:=⟨_,rfl⟩;have hrange:=zMO lt dk B _ p (Nat.le_refl _) hpB;rw [<- hi2] at hrange;rw [Go.Sort.partialIns,<- hi2] at ht;refine xGC (P2:=fun i τ=>i=(i2:Int)/\W Z τ b s d dk) (yOO (Inv:=fun k i τ=>∃ u:Nat,i=u/\u+k=B/\p<=u/\W Z τ b s d dk/\Go.Sort.scanSorted lt dk B u=i2) ?_ (B-p) _ τ ⟨p,rfl,by omega,Nat.le_refl _,w,hi2.symm⟩) ?_ (by omega)
 ·rintro k i τ ⟨u,rfl,hk,hpu,w,ht⟩;by_cases huB:u<B;rotate_left
  ·rw [Go.Sort.scanSorted,if_neg (by simp;omega)] at ht;exact xFY ⟨by rw [ht],w⟩ (by omega)
  have l1:=w.dt.ldN (i:=(u:Int)) (k:=u) rfl (by omega);have l2:=w.dt.ldN (i:=(u:Int)-1) (k:=u-1) (by omega) (by omega);obtain ⟨n,cn,⟨m1,hl⟩ | ⟨m1,hl⟩⟩:=hc.at_ (τ:=τ) hall (i:=u) (j:=u-1) (by omega) (by omega)
  ·rw [Go.Sort.scanSorted,if_neg (by simp [hl])] at ht;exact xGA l1 l2 cn ⟨by rw [ht],w⟩
  ·rw [Go.Sort.scanSorted,if_pos (by simp [hl];omega)] at ht;exact xFZ l1 l2 cn ⟨k-1,by omega,u+1,by omega,by omega,by omega,w,ht⟩
 rintro i τ ⟨rfl,w⟩;by_cases hiB:i2=B
 ·simp only [hiB,if_true] at ht;exact yOI (by rw [<- ht];exact ⟨rfl,w⟩) (by omega)
 simp only [hiB,if_false] at ht;by_cases h50:B-a<50
 ·rw [if_pos h50] at ht;exact yOH (by rw [<- ht];exact ⟨rfl,w⟩) (by omega) (by omega) (by omega)
 rw [if_neg h50] at ht;have l1:=w.dt.ldN (i:=(i2:Int)-1) (k:=i2-1) (by omega) (by omega);have l2:=w.dt.ldN (i:=(i2:Int)) (k:=i2) rfl (by omega);obtain ⟨τ5,τ6,t1,t2,w6⟩:=w.swapN (i:=(i2:Int)) (j:=(i2:Int)-1) (p:=i2) (q:=i2-1) rfl (by omega) (by omega) (by omega);have hall6:=hall.swp (i:=i2) (j:=i2-1) (by omega) (by omega);have hsz6:(swp dk i2 (i2-1)).size=d.size:=by rw [yY,hsz]
 have right:∀ (dx:Array Rec) (τx:St),W Z τx b s d dx->dx.size=d.size->xR V dx->2<=B-i2->zJW ⟨b,0,s⟩ d.size c (a:Int) (B:Int) g gc (i2:Int) (5-((k+1:Nat):Int)) ((i2:Int)+1) τx (fun τ'=>W Z τ' b s d (Go.Sort.shiftUp lt B (i2+1) dx)):=fun dx τx wx hx1 hx2 h2=>by
  have:=yOL (c:=c) (a:=(a:Int)) (i10:=5-((k+1:Nat):Int)) (B:=B) (x:=i2+1) (i:=i2) hc wx hx1 hx2 (by omega) (by omega) hB hn;rw [show ((i2+1:Nat):Int)=(i2:Int)+1 by omega] at this;exact this
 by_cases hl2:i2-a ≥ 2
 ·simp only [hl2,if_true] at ht;have left:=yVW (c:=c) (a:=(a:Int)) (B:=(B:Int)) (i10:=5-((k+1:Nat):Int)) (x:=i2-1) (i:=i2) hc w6 hsz6 hall6 (by omega) hn;rw [show ((i2-1:Nat):Int)=(i2:Int)-1 by omega] at left;have hszL:(Go.Sort.shiftDown lt (i2-1) (swp dk i2 (i2-1))).size=d.size:=by rw [zIX,hsz6]
  have hallL:=zMN lt (V:=V) (i2-1) (swp dk i2 (i2-1)) (by omega) hall6;refine yOG l1 l2 t1 t2 left (fun τ' w7=>?_) (by omega) (by omega) (by omega) (by omega) (by omega) (by omega) (by omega) (by omega);by_cases hr2:B-i2 ≥ 2
  ·simp only [hr2,if_true] at ht;have hU:=zCN lt (V:=V) (B:=B) _ (i2+1) _ (Nat.le_refl _) (by omega) (by omega) hallL;exact yOD (right _ _ w7 hszL hallL (by omega)) (fun τ'' w8=>zUM ⟨k,by omega,i2,_,rfl,by omega,by omega,by omega,by omega,by rw [hU.1,hszL],hU.2,w8,ht⟩)
  ·simp only [hr2,if_false] at ht;exact yOC ⟨k,by omega,i2,_,rfl,by omega,by omega,by omega,by omega,hszL,hallL,w7,ht⟩
 ·simp only [hl2,if_false] at ht;by_cases hr2:B-i2 ≥ 2
  ·simp only [hr2,if_true] at ht;have hU:=zCN lt (V:=V) (B:=B) _ (i2+1) _ (Nat.le_refl _) (by omega) (by omega) hall6;exact yOF l1 l2 t1 t2 (right _ _ w6 hsz6 hall6 (by omega)) (fun τ'' w8=>zUM ⟨k,by omega,i2,_,rfl,by omega,by omega,by omega,by omega,by rw [hU.1,hsz6],hU.2,w8,ht⟩)
  ·simp only [hr2,if_false] at ht;exact yOE l1 l2 t1 t2 ⟨k,by omega,i2,_,rfl,by omega,by omega,by omega,by omega,hsz6,hall6,w6,ht⟩
end
end
section
noncomputable section
variable (data:oAa) (ag ah:Nat) (a_1 aG kB bH:Int) (q0:Int->Int->St->Prop) (BB:Nat) (n2 aE:Int) (Q:St->Prop) (q2:Int->St->Prop) (Z:St) (Nx:Int->Int->St->Prop) (q3:Int->St->Prop) (q1:vPa) (Q0:St->Prop)
def xAS:Code:=(Code.part [1,1,0,0] (qh 110))
def zWF:lNa:=[(0,.slice data ag ah),(8,iV aG),(9,iV bH)]
def xKI:Alt:=⟨Int × Int,.normal,fun t=>zWF data ag ah t.1 t.2,fun t=>[],fun t Z=>q0 t.1 t.2 Z⟩
def yDV (data:oAa) (ag ah:Nat):lNa:=[]
def zRI:Alt:=⟨Unit,(.exit 0),fun t=>yDV data ag ah,fun t=>[],fun t Z=>Q Z⟩
def yII:Prop:=qi qj none xAS 34 (zWF data ag ah aG bH) [] [xKI data ag ah Nx,zRI data ag ah Q0] Z
def xAT:Prop:=qk qj none xAS 34 (zWF data ag ah aG bH) [] [zRI data ag ah Q0] Z
def yDW:Prop:=kZ qj (qh 110) [1,1,0] (ql 110 q1) (.exit 0) 34 (yDV data ag ah) Z
def yHI:Code:=(Code.part [1,1,0,1,1,1,0,0] (qh 108))
def zMD:lNa:=[(0,.slice data ag ah),(1,iV a_1),(8,iV kB),(9,pt BB 0),(10,.int .u64 n2),(11,iV aE)]
def yZK:Alt:=⟨Int,.normal,fun t=>zMD data ag ah a_1 kB BB n2 t,fun t=>[],fun t Z=>q2 t Z⟩
def zVI (data:oAa) (ag ah:Nat) (a_1 kB:Int) (BB:Nat) (n2:Int):lNa:=[]
def zKW:Alt:=⟨Unit,(.exit 0),fun t=>zVI data ag ah a_1 kB BB n2,fun t=>[],fun t Z=>Q Z⟩
def zME:Prop:=qi qj none yHI 67 (zMD data ag ah a_1 kB BB n2 aE) [] [yZK data ag ah a_1 kB BB n2 q3,zKW data ag ah a_1 kB BB n2 Q0] Z
def yHJ:Prop:=qk qj none yHI 67 (zMD data ag ah a_1 kB BB n2 aE) [] [zKW data ag ah a_1 kB BB n2 Q0] Z
def zVJ:Prop:=kZ qj (qh 108) [1,1,0,1,1,1,0] (ql 108 q1) (.exit 0) 67 (zVI data ag ah a_1 kB BB n2) Z
end
variable {ag ah BB:Nat} {a_1 b n1 n2 n3 n4 n5 n6 n7 n8 c n9 aG bH nF nG nD nB nA nE kB aE zA nK nO nP nQ z1 length n10 n11 n13 x z2:Int} {swaps ar r:Addr} {aB:FuncId} {ao:lVa} {Z9 Z Z3 Z6 Z2 Z4 Z8 ZS ZC ZF ZX ZL Z12:St} {Q:vPa} {data:oAa} {Inv:Nat->Int->Int->St->Prop} {Q0 P0:St->Prop} {Nx:Int->St->Prop}
theorem xTN (h1:lz Z 45 (zL ar (Int.toNat b*3)) (qf (rcd n1 n2 n3))) (h2:lz Z 45 (zL ar (Int.toNat a_1*3)) (qf (rcd n4 n5 n6))) (h3:qm aB (qf (rcd n1 n2 n3)::(qf (rcd n4 n5 n6))::ao) Z (iV n7) Z) (h4:lz Z 3 swaps (iV n8)) (h5:qn (evL [pz swaps,iV (n8+1)]) Z (.store 3 (.tmp 0) (.tmp 1))=some (undef,Z9)) (nx:Q (.tuple ⟨[iV b,iV a_1]⟩) Z9) (u1:Ix b ag:=by omega) (u2:Ix a_1 ag:=by omega) (u3:n7<0:=by omega) (u4:I6 (n8+1):=by omega):qg 130 [.slice (some ar) ag ah,iV a_1,iV b,pz swaps,.func (.func aB) ⟨[]⟩ ⟨ao⟩] Z Q :=
 zH [.g,.g,.g,.g,.g,.i,.l (qf (rcd n1 n2 n3)),.g,.g,.i,.l (qf (rcd n4 n5 n6)),.c (iV n7) Z,.b true,.g,.g,.l (iV n8),.n (n8+1),.g,.e undef Z9,.g,.g,.g,.g] (kd (an3 u1 h1 u2 (an6 h2 h3 (zR u3) h4 (w64 u4) h5 nx)))
theorem xTM (h1:lz Z 45 (zL ar (Int.toNat b*3)) (qf (rcd n1 n2 n3))) (h2:lz Z 45 (zL ar (Int.toNat a_1*3)) (qf (rcd n4 n5 n6))) (h3:qm aB (qf (rcd n1 n2 n3)::(qf (rcd n4 n5 n6))::ao) Z (iV n7) Z) (nx:Q (.tuple ⟨[iV a_1,iV b]⟩) Z) (u1:Ix b ag:=by omega) (u2:Ix a_1 ag:=by omega) (u3:¬ n7<0:=by omega):qg 130 [.slice (some ar) ag ah,iV a_1,iV b,pz swaps,.func (.func aB) ⟨[]⟩ ⟨ao⟩] Z Q :=
 zH [.g,.g,.g,.g,.g,.i,.l (qf (rcd n1 n2 n3)),.g,.g,.i,.l (qf (rcd n4 n5 n6)),.c (iV n7) Z,.b false,.g,.g,.g,.g] (kd (an6 u1 h1 u2 h2 h3 (zT u3) nx))
theorem xMQ (h1:qm 130 [.slice data ag ah,iV a_1,iV b,pz swaps,.func (.func aB) ⟨[]⟩ ⟨ao⟩] Z (.tuple ⟨[iV n1,iV n2]⟩) Z3) (h2:qm 130 [.slice data ag ah,iV n2,iV c,pz swaps,.func (.func aB) ⟨[]⟩ ⟨ao⟩] Z3 (.tuple ⟨[iV n4,iV n5]⟩) Z6) (h3:qm 130 [.slice data ag ah,iV n1,iV n4,pz swaps,.func (.func aB) ⟨[]⟩ ⟨ao⟩] Z6 (.tuple ⟨[iV n7,iV n8]⟩) Z9) (nx:Q (iV n8) Z9):qg 125 [.slice data ag ah,iV a_1,iV b,iV c,pz swaps,.func (.func aB) ⟨[]⟩ ⟨ao⟩] Z Q :=
 zH [.g,.g,.g,.g,.g,.g,.c (.tuple ⟨[iV n1,iV n2]⟩) Z3,.g,.g,.g,.g,.g,.g,.g,.g,.g,.g,.c (.tuple ⟨[iV n4,iV n5]⟩) Z6,.g,.g,.g,.g,.g,.g,.g,.g,.g,.g,.c (.tuple ⟨[iV n7,iV n8]⟩) Z9,.g,.g,.g,.g,.g,.g,.g] (kd (an3 h1 h2 h3 nx))
theorem xBQ (h1:qm 125 [.slice data ag ah,iV (a_1-1),iV a_1,iV (a_1+1),pz swaps,.func (.func aB) ⟨[]⟩ ⟨ao⟩] Z (iV n1) Z2) (nx:Q (iV n1) Z2) (u1:I6 (a_1-1):=by omega) (u2:I6 (a_1+1):=by omega):qg 124 [.slice data ag ah,iV a_1,pz swaps,.func (.func aB) ⟨[]⟩ ⟨ao⟩] Z Q :=
 zH [.g,.g,.g,.n (a_1-1),.g,.g,.n (a_1+1),.g,.g,.c (iV n1) Z2,.g] (kd (an3 (w64 u1) (w64 u2) h1 nx))
theorem yYM:let s1:=Int.tdiv (b-a_1) 4;∀ (h1:IntKind.wrap .i64 s1=Int.tdiv (b-a_1) 4) (h2:qm 124 [.slice data ag ah,iV (a_1+(s1*1)),pt Z.y 0,.func (.func aB) ⟨[]⟩ ⟨ao⟩] (Z.row [iV 0] 1) (iV n1) Z2) (h3:qm 124 [.slice data ag ah,iV (a_1+(s1*2)),pt Z.y 0,.func (.func aB) ⟨[]⟩ ⟨ao⟩] Z2 (iV n3) Z4) (h4:qm 124 [.slice data ag ah,iV (a_1+(s1*3)),pt Z.y 0,.func (.func aB) ⟨[]⟩ ⟨ao⟩] Z4 (iV n5) Z6) (h5:qm 125 [.slice data ag ah,iV n1,iV n3,iV n5,pt Z.y 0,.func (.func aB) ⟨[]⟩ ⟨ao⟩] Z6 (iV n7) Z8) (h6:lz Z8 3 (qe Z.y 0) (iV n9)) (nx:Q (.tuple ⟨[iV n7,iV 1]⟩) Z8) (u1:I6 (b-a_1):=by omega) (u2:I6 (s1*1):=by omega) (u3:I6 (a_1+(s1*1)):=by omega) (u4:I6 (s1*2):=by omega) (u5:I6 (a_1+(s1*2)):=by omega) (u6:I6 (s1*3):=by omega) (u7:I6 (a_1+(s1*3)):=by omega) (u8:8<=(b-a_1):=by omega) (u9:50<=(b-a_1):=by omega) (u10:n9=0:=by omega),qg 109 [.slice data ag ah,iV a_1,iV b,.func (.func aB) ⟨[]⟩ ⟨ao⟩] Z Q:=
 let s1:=Int.tdiv (b-a_1) 4;fun h1 h2 h3 h4 h5 h6 nx u1 u2 u3 u4 u5 u6 u7 u8 u9 u10=>zH [.g,.g,.g,.g,.n (b-a_1),.g,.g,.g,.g,.n s1,.n (s1*1),.n (a_1+(s1*1)),.g,.g,.g,.n s1,.n (s1*2),.n (a_1+(s1*2)),.g,.g,.g,.n s1,.n (s1*3),.n (a_1+(s1*3)),.g,.g,.b true,.g,.b true,.g,.g,.g,.c (iV n1) Z2,.g,.g,.g,.g,.c (iV n3) Z4,.g,.g,.g,.g,.c (iV n5) Z6,.g,.g,.g,.g,.g,.g,.c (iV n7) Z8,.g,.l (iV n9),.b true,.g,.g,.g,.g] (kd (an6 (w64 u1) h1 (w64 u2) (w64 u3) h1 (w64 u4) (an6 (w64 u5) h1 (w64 u6) (w64 u7) (yE u8) (yE u9) (an6 h2 h3 h4 h5 h6 (xL u10) nx))))
theorem yYL:let s1:=Int.tdiv (b-a_1) 4;∀ (h1:IntKind.wrap .i64 s1=Int.tdiv (b-a_1) 4) (h2:qm 124 [.slice data ag ah,iV (a_1+(s1*1)),pt Z.y 0,.func (.func aB) ⟨[]⟩ ⟨ao⟩] (Z.row [iV 0] 1) (iV n1) Z2) (h3:qm 124 [.slice data ag ah,iV (a_1+(s1*2)),pt Z.y 0,.func (.func aB) ⟨[]⟩ ⟨ao⟩] Z2 (iV n3) Z4) (h4:qm 124 [.slice data ag ah,iV (a_1+(s1*3)),pt Z.y 0,.func (.func aB) ⟨[]⟩ ⟨ao⟩] Z4 (iV n5) Z6) (h5:qm 125 [.slice data ag ah,iV n1,iV n3,iV n5,pt Z.y 0,.func (.func aB) ⟨[]⟩ ⟨ao⟩] Z6 (iV n7) Z8) (h6:lz Z8 3 (qe Z.y 0) (iV n9)) (nx:Q (.tuple ⟨[iV n7,iV 2]⟩) Z8) (u1:I6 (b-a_1):=by omega) (u2:I6 (s1*1):=by omega) (u3:I6 (a_1+(s1*1)):=by omega) (u4:I6 (s1*2):=by omega) (u5:I6 (a_1+(s1*2)):=by omega) (u6:I6 (s1*3):=by omega) (u7:I6 (a_1+(s1*3)):=by omega) (u8:8<=(b-a_1):=by omega) (u9:50<=(b-a_1):=by omega) (u10:¬ n9=0:=by omega) (u11:n9=12:=by omega),qg 109 [.slice data ag ah,iV a_1,iV b,.func (.func aB) ⟨[]⟩ ⟨ao⟩] Z Q:=
 let s1:=Int.tdiv (b-a_1) 4;fun h1 h2 h3 h4 h5 h6 nx u1 u2 u3 u4 u5 u6 u7 u8 u9 u10 u11=>zH [.g,.g,.g,.g,.n (b-a_1),.g,.g,.g,.g,.n s1,.n (s1*1),.n (a_1+(s1*1)),.g,.g,.g,.n s1,.n (s1*2),.n (a_1+(s1*2)),.g,.g,.g,.n s1,.n (s1*3),.n (a_1+(s1*3)),.g,.g,.b true,.g,.b true,.g,.g,.g,.c (iV n1) Z2,.g,.g,.g,.g,.c (iV n3) Z4,.g,.g,.g,.g,.c (iV n5) Z6,.g,.g,.g,.g,.g,.g,.c (iV n7) Z8,.g,.l (iV n9),.b false,.g,.b true,.g,.g,.g,.g] (kd (ai (w64 u1) (an6 h1 (w64 u2) (w64 u3) h1 (w64 u4) (w64 u5) (an6 h1 (w64 u6) (w64 u7) (yE u8) (yE u9) h2 (an6 h3 h4 h5 h6 (xK u10) (xL u11) nx)))))
theorem yYK:let s1:=Int.tdiv (b-a_1) 4;∀ (h1:IntKind.wrap .i64 s1=Int.tdiv (b-a_1) 4) (h2:qm 124 [.slice data ag ah,iV (a_1+(s1*1)),pt Z.y 0,.func (.func aB) ⟨[]⟩ ⟨ao⟩] (Z.row [iV 0] 1) (iV n1) Z2) (h3:qm 124 [.slice data ag ah,iV (a_1+(s1*2)),pt Z.y 0,.func (.func aB) ⟨[]⟩ ⟨ao⟩] Z2 (iV n3) Z4) (h4:qm 124 [.slice data ag ah,iV (a_1+(s1*3)),pt Z.y 0,.func (.func aB) ⟨[]⟩ ⟨ao⟩] Z4 (iV n5) Z6) (h5:qm 125 [.slice data ag ah,iV n1,iV n3,iV n5,pt Z.y 0,.func (.func aB) ⟨[]⟩ ⟨ao⟩] Z6 (iV n7) Z8) (h6:lz Z8 3 (qe Z.y 0) (iV n9)) (nx:Q (.tuple ⟨[iV n7,iV 0]⟩) Z8) (u1:I6 (b-a_1):=by omega) (u2:I6 (s1*1):=by omega) (u3:I6 (a_1+(s1*1)):=by omega) (u4:I6 (s1*2):=by omega) (u5:I6 (a_1+(s1*2)):=by omega) (u6:I6 (s1*3):=by omega) (u7:I6 (a_1+(s1*3)):=by omega) (u8:8<=(b-a_1):=by omega) (u9:50<=(b-a_1):=by omega) (u10:¬ n9=0:=by omega) (u11:¬ n9=12:=by omega),qg 109 [.slice data ag ah,iV a_1,iV b,.func (.func aB) ⟨[]⟩ ⟨ao⟩] Z Q:=
 let s1:=Int.tdiv (b-a_1) 4;fun h1 h2 h3 h4 h5 h6 nx u1 u2 u3 u4 u5 u6 u7 u8 u9 u10 u11=>zH [.g,.g,.g,.g,.n (b-a_1),.g,.g,.g,.g,.n s1,.n (s1*1),.n (a_1+(s1*1)),.g,.g,.g,.n s1,.n (s1*2),.n (a_1+(s1*2)),.g,.g,.g,.n s1,.n (s1*3),.n (a_1+(s1*3)),.g,.g,.b true,.g,.b true,.g,.g,.g,.c (iV n1) Z2,.g,.g,.g,.g,.c (iV n3) Z4,.g,.g,.g,.g,.c (iV n5) Z6,.g,.g,.g,.g,.g,.g,.c (iV n7) Z8,.g,.l (iV n9),.b false,.g,.b false,.g,.g,.g,.g] (kd (ai (w64 u1) (an6 h1 (w64 u2) (w64 u3) h1 (w64 u4) (w64 u5) (an6 h1 (w64 u6) (w64 u7) (yE u8) (yE u9) h2 (an6 h3 h4 h5 h6 (xK u10) (xK u11) nx)))))
theorem yYJ:let s1:=Int.tdiv (b-a_1) 4;∀ (h1:IntKind.wrap .i64 s1=Int.tdiv (b-a_1) 4) (h2:qm 125 [.slice data ag ah,iV (a_1+(s1*1)),iV (a_1+(s1*2)),iV (a_1+(s1*3)),pt Z.y 0,.func (.func aB) ⟨[]⟩ ⟨ao⟩] (Z.row [iV 0] 1) (iV n1) Z2) (h3:lz Z2 3 (qe Z.y 0) (iV n3)) (nx:Q (.tuple ⟨[iV n1,iV 1]⟩) Z2) (u1:I6 (b-a_1):=by omega) (u2:I6 (s1*1):=by omega) (u3:I6 (a_1+(s1*1)):=by omega) (u4:I6 (s1*2):=by omega) (u5:I6 (a_1+(s1*2)):=by omega) (u6:I6 (s1*3):=by omega) (u7:I6 (a_1+(s1*3)):=by omega) (u8:8<=(b-a_1):=by omega) (u9:¬ 50<=(b-a_1):=by omega) (u10:n3=0:=by omega),qg 109 [.slice data ag ah,iV a_1,iV b,.func (.func aB) ⟨[]⟩ ⟨ao⟩] Z Q:=
 let s1:=Int.tdiv (b-a_1) 4;fun h1 h2 h3 nx u1 u2 u3 u4 u5 u6 u7 u8 u9 u10=>zH [.g,.g,.g,.g,.n (b-a_1),.g,.g,.g,.g,.n s1,.n (s1*1),.n (a_1+(s1*1)),.g,.g,.g,.n s1,.n (s1*2),.n (a_1+(s1*2)),.g,.g,.g,.n s1,.n (s1*3),.n (a_1+(s1*3)),.g,.g,.b true,.g,.b false,.g,.g,.g,.g,.g,.c (iV n1) Z2,.g,.l (iV n3),.b true,.g,.g,.g,.g] (kd (an3 (w64 u1) h1 (w64 u2) (an6 (w64 u3) h1 (w64 u4) (w64 u5) h1 (w64 u6) (an6 (w64 u7) (yE u8) (yG u9) h2 h3 (xL u10) nx))))
theorem yYI:let s1:=Int.tdiv (b-a_1) 4;∀ (h1:IntKind.wrap .i64 s1=Int.tdiv (b-a_1) 4) (h2:qm 125 [.slice data ag ah,iV (a_1+(s1*1)),iV (a_1+(s1*2)),iV (a_1+(s1*3)),pt Z.y 0,.func (.func aB) ⟨[]⟩ ⟨ao⟩] (Z.row [iV 0] 1) (iV n1) Z2) (h3:lz Z2 3 (qe Z.y 0) (iV n3)) (nx:Q (.tuple ⟨[iV n1,iV 2]⟩) Z2) (u1:I6 (b-a_1):=by omega) (u2:I6 (s1*1):=by omega) (u3:I6 (a_1+(s1*1)):=by omega) (u4:I6 (s1*2):=by omega) (u5:I6 (a_1+(s1*2)):=by omega) (u6:I6 (s1*3):=by omega) (u7:I6 (a_1+(s1*3)):=by omega) (u8:8<=(b-a_1):=by omega) (u9:¬ 50<=(b-a_1):=by omega) (u10:¬ n3=0:=by omega) (u11:n3=12:=by omega),qg 109 [.slice data ag ah,iV a_1,iV b,.func (.func aB) ⟨[]⟩ ⟨ao⟩] Z Q:=
 let s1:=Int.tdiv (b-a_1) 4;fun h1 h2 h3 nx u1 u2 u3 u4 u5 u6 u7 u8 u9 u10 u11=>zH [.g,.g,.g,.g,.n (b-a_1),.g,.g,.g,.g,.n s1,.n (s1*1),.n (a_1+(s1*1)),.g,.g,.g,.n s1,.n (s1*2),.n (a_1+(s1*2)),.g,.g,.g,.n s1,.n (s1*3),.n (a_1+(s1*3)),.g,.g,.b true,.g,.b false,.g,.g,.g,.g,.g,.c (iV n1) Z2,.g,.l (iV n3),.b false,.g,.b true,.g,.g,.g,.g] (kd (an4 (w64 u1) h1 (w64 u2) (w64 u3) (an6 h1 (w64 u4) (w64 u5) h1 (w64 u6) (w64 u7) (an6 (yE u8) (yG u9) h2 h3 (xK u10) (xL u11) nx))))
theorem yYH:let s1:=Int.tdiv (b-a_1) 4;∀ (h1:IntKind.wrap .i64 s1=Int.tdiv (b-a_1) 4) (h2:qm 125 [.slice data ag ah,iV (a_1+(s1*1)),iV (a_1+(s1*2)),iV (a_1+(s1*3)),pt Z.y 0,.func (.func aB) ⟨[]⟩ ⟨ao⟩] (Z.row [iV 0] 1) (iV n1) Z2) (h3:lz Z2 3 (qe Z.y 0) (iV n3)) (nx:Q (.tuple ⟨[iV n1,iV 0]⟩) Z2) (u1:I6 (b-a_1):=by omega) (u2:I6 (s1*1):=by omega) (u3:I6 (a_1+(s1*1)):=by omega) (u4:I6 (s1*2):=by omega) (u5:I6 (a_1+(s1*2)):=by omega) (u6:I6 (s1*3):=by omega) (u7:I6 (a_1+(s1*3)):=by omega) (u8:8<=(b-a_1):=by omega) (u9:¬ 50<=(b-a_1):=by omega) (u10:¬ n3=0:=by omega) (u11:¬ n3=12:=by omega),qg 109 [.slice data ag ah,iV a_1,iV b,.func (.func aB) ⟨[]⟩ ⟨ao⟩] Z Q:=
 let s1:=Int.tdiv (b-a_1) 4;fun h1 h2 h3 nx u1 u2 u3 u4 u5 u6 u7 u8 u9 u10 u11=>zH [.g,.g,.g,.g,.n (b-a_1),.g,.g,.g,.g,.n s1,.n (s1*1),.n (a_1+(s1*1)),.g,.g,.g,.n s1,.n (s1*2),.n (a_1+(s1*2)),.g,.g,.g,.n s1,.n (s1*3),.n (a_1+(s1*3)),.g,.g,.b true,.g,.b false,.g,.g,.g,.g,.g,.c (iV n1) Z2,.g,.l (iV n3),.b false,.g,.b false,.g,.g,.g,.g] (kd (an4 (w64 u1) h1 (w64 u2) (w64 u3) (an6 h1 (w64 u4) (w64 u5) h1 (w64 u6) (w64 u7) (an6 (yE u8) (yG u9) h2 h3 (xK u10) (xK u11) nx))))
theorem yYG:let s1:=Int.tdiv (b-a_1) 4;∀ (h1:IntKind.wrap .i64 s1=Int.tdiv (b-a_1) 4) (nx:Q (.tuple ⟨[iV (a_1+(s1*2)),iV 1]⟩) (Z.row [iV 0] 1)) (u1:I6 (b-a_1):=by omega) (u2:I6 (s1*1):=by omega) (u3:I6 (a_1+(s1*1)):=by omega) (u4:I6 (s1*2):=by omega) (u5:I6 (a_1+(s1*2)):=by omega) (u6:I6 (s1*3):=by omega) (u7:I6 (a_1+(s1*3)):=by omega) (u8:¬ 8<=(b-a_1):=by omega),qg 109 [.slice data ag ah,iV a_1,iV b,.func (.func aB) ⟨[]⟩ ⟨ao⟩] Z Q:=
 let s1:=Int.tdiv (b-a_1) 4;fun h1 nx u1 u2 u3 u4 u5 u6 u7 u8=>zH [.g,.g,.g,.g,.n (b-a_1),.g,.g,.g,.g,.n s1,.n (s1*1),.n (a_1+(s1*1)),.g,.g,.g,.n s1,.n (s1*2),.n (a_1+(s1*2)),.g,.g,.g,.n s1,.n (s1*3),.n (a_1+(s1*3)),.g,.g,.b false,.l (iV 0),.g,.g,.g,.g,.g] (kd (an6 (w64 u1) h1 (w64 u2) (w64 u3) h1 (w64 u4) (an6 (w64 u5) h1 (w64 u6) (w64 u7) (yG u8) ((zC _ _ _).rw.ld zU (k:=0) rfl:lz (Z.row [iV 0] 1) 3 (qe Z.y 0) (iV 0)) nx)))
theorem yTO (hb:∀ k aG bH Z,Inv k aG bH Z->yII data ag ah aG bH Z (NX2 Inv k) Q0):∀ k aG bH Z,Inv k aG bH Z->xAT data ag ah aG bH Z Q0 :=
 zCP (ai (xY 0) trivial) hb
theorem xKH {Nx:Int->Int->St->Prop} (h1:lz Z 45 (zL ar (Int.toNat bH*3)) (qf (rcd nF nG nD))) (h2:lz Z 45 (zL ar (Int.toNat aG*3)) (qf (rcd nB nA nE))) (h3:qn (evL [pz (zL ar (Int.toNat aG*3)),qf (rcd nF nG nD)]) Z (.store 45 (.tmp 0) (.tmp 1))=some (undef,ZS)) (h4:qn (evL [pz (zL ar (Int.toNat bH*3)),qf (rcd nB nA nE)]) ZS (.store 45 (.tmp 0) (.tmp 1))=some (undef,ZC)) (nx:Nx (aG+1) (bH-1) ZC) (u1:aG<bH:=by omega) (u2:Ix bH ag:=by omega) (u3:Ix aG ag:=by omega) (u4:I6 (aG+1):=by omega) (u5:I6 (bH-1):=by omega):yII (some ar) ag ah aG bH Z Nx Q0 :=
 kO 0 (aG+1,bH-1) [.g,.g,.b true,.g,.g,.g,.g,.g,.g,.i,.l (qf (rcd nF nG nD)),.g,.g,.i,.l (qf (rcd nB nA nE)),.i,.e undef ZS,.i,.e undef ZC,.g,.n (aG+1),.g,.g,.n (bH-1),.g] (fun _ f=>an5 (zR u1) u2 h1 u3 h2 (an6 u3 h3 u2 h4 (w64 u4) (w64 u5) f)) nx
theorem xKG {Nx:Int->Int->St->Prop} (nx:Q0 Z) (u1:¬ aG<bH:=by omega):yII data ag ah aG bH Z Nx Q0 :=
 kO 1 () [.g,.g,.b false] (fun _ f=>ai (zT u1) f) nx
theorem xSN (hL:xAT data ag ah a_1 (b-1) Z P0) (k0:∀ Z',P0 Z'->yDW data ag ah Z' Q) (u1:I6 (b-1):=by omega):qg 110 [.slice data ag ah,iV a_1,iV b,.func (.func aB) ⟨[]⟩ ⟨ao⟩] Z Q :=
 let s1:=zWF data ag ah a_1 (b-1);zH [.g,.g,.g,.n (b-1),.g,.lf 34 s1 [zRI data ag ah P0]] (kd (ai (w64 u1) (ai (ai tt (ai (arf s1) hL)) (ai (kz0 k0) trivial))))
theorem yTN (nx:Q (.tuple ⟨[]⟩) Z):yDW data ag ah Z Q :=
 sK [] nx
theorem yKW {Inv:Nat->Int->St->Prop} (hb:∀ k aE Z,Inv k aE Z->zME data ag ah a_1 kB BB n2 aE Z (NX1 Inv k) Q0):∀ k aE Z,Inv k aE Z->yHJ data ag ah a_1 kB BB n2 aE Z Q0 :=
 xC (ai (xY 0) trivial) hb
theorem yZJ:let y0:=(Int.tdiv kB 4)*2;let y1:=zL ar (Int.toNat (a_1+(nB-kB))*3);let y2:=zL ar (Int.toNat aE*3);∀ (h1:IntKind.wrap .i64 (Int.tdiv kB 4)=Int.tdiv kB 4) (h2:qm 123 [pt BB 0] Z (.int .u64 nF) ZF) (h3:zAD .u64 (Int.sub n2 1)=zA) (h4:zBU Pg .and 141 (.tmp 38) (.tmp 40) (.int .u64 nF) (.int .u64 zA)=some (.int .u64 nB)) (h5:lz ZF 45 y1 (qf (rcd nA nE nK))) (h6:lz ZF 45 y2 (qf (rcd nO nP nQ))) (h7:qn (evL [pz y2,qf (rcd nA nE nK)]) ZF (.store 45 (.tmp 0) (.tmp 1))=some (undef,ZX)) (h8:qn (evL [pz y1,qf (rcd nO nP nQ)]) ZX (.store 45 (.tmp 0) (.tmp 1))=some (undef,ZL)) (nx:Nx (aE+1) ZL) (u1:I6 y0:=by omega) (u2:I6 (a_1+y0):=by omega) (u3:I6 ((a_1+y0)+1):=by omega) (u4:aE<=((a_1+y0)+1):=by omega) (u5:I6 nB:=by omega) (u6:kB<=nB:=by omega) (u7:I6 (nB-kB):=by omega) (u8:I6 (a_1+(nB-kB)):=by omega) (u9:Ix (a_1+(nB-kB)) ag:=by omega) (u10:Ix aE ag:=by omega) (u11:I6 (aE+1):=by omega),zME (some ar) ag ah a_1 kB BB n2 aE Z Nx Q0 :=
 let s1:=(Int.tdiv kB 4)*2;let s2:=nB-kB;fun h1 h2 h3 h4 h5 h6 h7 h8 nx u1 u2 u3 u4 u5 u6 u7 u8 u9 u10 u11=>kO 0 (aE+1) [.g,.g,.g,.n (Int.tdiv kB 4),.n s1,.n (a_1+s1),.n ((a_1+s1)+1),.b true,.c (.int .u64 nF) ZF,.g,.n zA,.v (.int .u64 nB),.n nB,.g,.g,.g,.b true,.g,.g,.n s2,.g,.g,.g,.g,.g,.g,.n (a_1+s2),.g,.g,.g,.n (a_1+s2),.i,.l (qf (rcd nA nE nK)),.g,.g,.i,.l (qf (rcd nO nP nQ)),.i,.e undef ZX,.i,.e undef ZL,.g,.n (aE+1),.g] (fun _ f=>an4 h1 (w64 u1) (w64 u2) (w64 u3) (an6 (yE u4) h2 h3 h4 (w64 u5) (yE u6) (an6 (w64 u7) (w64 u8) (w64 u8) u9 h5 u10 (an6 h6 u10 h7 u9 h8 (w64 u11) f)))) nx
theorem yZI:let y0:=(Int.tdiv kB 4)*2;let y1:=zL ar (Int.toNat (a_1+nB)*3);let y2:=zL ar (Int.toNat aE*3);∀ (h1:IntKind.wrap .i64 (Int.tdiv kB 4)=Int.tdiv kB 4) (h2:qm 123 [pt BB 0] Z (.int .u64 nF) ZF) (h3:zAD .u64 (Int.sub n2 1)=zA) (h4:zBU Pg .and 141 (.tmp 38) (.tmp 40) (.int .u64 nF) (.int .u64 zA)=some (.int .u64 nB)) (h5:lz ZF 45 y1 (qf (rcd nA nE nK))) (h6:lz ZF 45 y2 (qf (rcd nO nP nQ))) (h7:qn (evL [pz y2,qf (rcd nA nE nK)]) ZF (.store 45 (.tmp 0) (.tmp 1))=some (undef,ZX)) (h8:qn (evL [pz y1,qf (rcd nO nP nQ)]) ZX (.store 45 (.tmp 0) (.tmp 1))=some (undef,ZL)) (nx:Nx (aE+1) ZL) (u1:I6 y0:=by omega) (u2:I6 (a_1+y0):=by omega) (u3:I6 ((a_1+y0)+1):=by omega) (u4:aE<=((a_1+y0)+1):=by omega) (u5:I6 nB:=by omega) (u6:¬ kB<=nB:=by omega) (u7:I6 (a_1+nB):=by omega) (u8:Ix (a_1+nB) ag:=by omega) (u9:Ix aE ag:=by omega) (u10:I6 (aE+1):=by omega),zME (some ar) ag ah a_1 kB BB n2 aE Z Nx Q0 :=
 let s1:=(Int.tdiv kB 4)*2;fun h1 h2 h3 h4 h5 h6 h7 h8 nx u1 u2 u3 u4 u5 u6 u7 u8 u9 u10=>kO 0 (aE+1) [.g,.g,.g,.n (Int.tdiv kB 4),.n s1,.n (a_1+s1),.n ((a_1+s1)+1),.b true,.c (.int .u64 nF) ZF,.g,.n zA,.v (.int .u64 nB),.n nB,.g,.g,.g,.b false,.g,.g,.g,.g,.g,.n (a_1+nB),.g,.g,.g,.n (a_1+nB),.i,.l (qf (rcd nA nE nK)),.g,.g,.i,.l (qf (rcd nO nP nQ)),.i,.e undef ZX,.i,.e undef ZL,.g,.n (aE+1),.g] (fun _ f=>an3 h1 (w64 u1) (w64 u2) (an6 (w64 u3) (yE u4) h2 h3 h4 (w64 u5) (an6 (yG u6) (w64 u7) (w64 u7) u8 h5 u9 (an6 h6 u9 h7 u8 h8 (w64 u10) f)))) nx
theorem yZH:let s1:=(Int.tdiv kB 4)*2;∀ (h1:IntKind.wrap .i64 (Int.tdiv kB 4)=Int.tdiv kB 4) (nx:Q0 Z) (u1:I6 s1:=by omega) (u2:I6 (a_1+s1):=by omega) (u3:I6 ((a_1+s1)+1):=by omega) (u4:¬ aE<=((a_1+s1)+1):=by omega),zME data ag ah a_1 kB BB n2 aE Z Nx Q0:=
 let s1:=(Int.tdiv kB 4)*2;fun h1 nx u1 u2 u3 u4=>kO 1 () [.g,.g,.g,.n (Int.tdiv kB 4),.n s1,.n (a_1+s1),.n ((a_1+s1)+1),.b false] (fun _ f=>an5 h1 (w64 u1) (w64 u2) (w64 u3) (yG u4) f) nx
theorem xID:let s1:=Z.row [.int .u64 0] 1;let s2:=s1.own Z.y [.int .u64 z1] 1;let s3:=(Int.tdiv (b-a_1) 4)*2;∀ (h1:zAD .u64 ((b-a_1))=z1) (h2:qm 122 [iV (b-a_1)] s2 (.int .u64 n2) s2) (h3:IntKind.wrap .i64 (Int.tdiv (b-a_1) 4)=Int.tdiv (b-a_1) 4) (hL:yHJ data ag ah a_1 (b-a_1) Z.y n2 ((a_1+s3)-1) s2 P0) (k0:∀ Z',P0 Z'->zVJ data ag ah a_1 (b-a_1) Z.y n2 Z' Q) (u1:I6 (b-a_1):=by omega) (u2:8<=(b-a_1):=by omega) (u3:I6 s3:=by omega) (u4:I6 (a_1+s3):=by omega) (u5:I6 ((a_1+s3)-1):=by omega),qg 108 [.slice data ag ah,iV a_1,iV b,.func (.func aB) ⟨[]⟩ ⟨ao⟩] Z Q:=
 let s1:=Z.row [.int .u64 0] 1;let s2:=s1.own Z.y [.int .u64 z1] 1;let s3:=(Int.tdiv (b-a_1) 4)*2;let s4:=zMD data ag ah a_1 (b-a_1) Z.y n2 ((a_1+s3)-1);fun h1 h2 h3 hL k0 u1 u2 u3 u4 u5=>zH [.g,.g,.n (b-a_1),.g,.g,.b true,.g,.n z1,.g,.e undef s2,.g,.c (.int .u64 n2) s2,.g,.g,.g,.n (Int.tdiv (b-a_1) 4),.n s3,.n (a_1+s3),.n ((a_1+s3)-1),.g,.lf 67 s4 [zKW data ag ah a_1 (b-a_1) Z.y n2 P0]] (kd (an3 (w64 u1) (yE u2) h1 (an6 ((zC _ _ _).store (vs:=[.int .u64 z1]) rfl zWD rfl (nle rfl) rfl:qn (evL [pt Z.y 0,.int .u64 z1]) s1 (.store 166 (.tmp 0) (.tmp 1))=some (undef,s2)) h2 h3 (w64 u3) (w64 u4) (w64 u5) (ai (ai tt (ai (arf s4) hL)) (ai (kz0 k0) trivial)))))
theorem xIC (nx:Q (.tuple ⟨[]⟩) Z) (u1:I6 (b-a_1):=by omega) (u2:¬ 8<=(b-a_1):=by omega):qg 108 [.slice data ag ah,iV a_1,iV b,.func (.func aB) ⟨[]⟩ ⟨ao⟩] Z Q :=
 zH [.g,.g,.n (b-a_1),.g,.g,.b false] (kd (an2 (w64 u1) (yG u2) nx))
theorem yKV (nx:Q (.tuple ⟨[]⟩) Z):zVJ data ag ah a_1 kB BB n2 Z Q :=
 sK [] nx
theorem xMP (h1:zAD .u64 (length)=z1) (h2:qm 98 [.int .u64 z1] Z (iV n2) Z) (h3:zBU Pg .shl 141 (.const (.int .u64 1)) (.tmp 5) (.int .u64 1) (iV n2)=some (.int .u64 n3)) (nx:Q (.int .u64 n3) Z):qg 122 [iV length] Z Q :=
 zH [.g,.g,.n z1,.c (iV n2) Z,.v (.int .u64 n3),.g] (kd (an3 h1 h2 h3 nx))
theorem xRQ (h1:lz Z 166 r (.int .u64 n1)) (h2:zBU Pg .shl 166 (.tmp 8) (.const (.int .u64 13)) (.int .u64 n1) (.int .u64 13)=some (.int .u64 n2)) (h3:zBU Pg .xor 166 (.tmp 5) (.tmp 9) (.int .u64 n1) (.int .u64 n2)=some (.int .u64 n3)) (h4:qn (evL [pz r,.int .u64 n3]) Z (.store 166 (.tmp 0) (.tmp 1))=some (undef,Z4)) (h5:lz Z4 166 r (.int .u64 n5)) (h6:zBU Pg .shr 166 (.tmp 17) (.const (.int .u64 7)) (.int .u64 n5) (.int .u64 7)=some (.int .u64 n6)) (h7:zBU Pg .xor 166 (.tmp 14) (.tmp 18) (.int .u64 n5) (.int .u64 n6)=some (.int .u64 n7)) (h8:qn (evL [pz r,.int .u64 n7]) Z4 (.store 166 (.tmp 0) (.tmp 1))=some (undef,Z8)) (h9:lz Z8 166 r (.int .u64 n9)) (h10:zBU Pg .shl 166 (.tmp 26) (.const (.int .u64 17)) (.int .u64 n9) (.int .u64 17)=some (.int .u64 n10)) (h11:zBU Pg .xor 166 (.tmp 23) (.tmp 27) (.int .u64 n9) (.int .u64 n10)=some (.int .u64 n11)) (h12:qn (evL [pz r,.int .u64 n11]) Z8 (.store 166 (.tmp 0) (.tmp 1))=some (undef,Z12)) (h13:lz Z12 166 r (.int .u64 n13)) (nx:Q (.int .u64 n13) Z12):qg 123 [pz r] Z Q :=
 zH [.g,.g,.g,.l (.int .u64 n1),.g,.g,.l (.int .u64 n1),.v (.int .u64 n2),.v (.int .u64 n3),.g,.e undef Z4,.g,.g,.l (.int .u64 n5),.g,.g,.l (.int .u64 n5),.v (.int .u64 n6),.v (.int .u64 n7),.g,.e undef Z8,.g,.g,.l (.int .u64 n9),.g,.g,.l (.int .u64 n9),.v (.int .u64 n10),.v (.int .u64 n11),.g,.e undef Z12,.g,.g,.l (.int .u64 n13),.g] (kd (an4 h1 h1 h2 h3 (an6 h4 h5 h5 h6 h7 h8 (an6 h9 h9 h10 h11 h12 h13 nx))))
theorem xCT (h1:qm 115 [.int .u64 x] Z (iV n1) Z) (nx:Q (iV n1) Z):qg 98 [.int .u64 x] Z Q :=
 zH [.g,.g,.c (iV n1) Z,.g] (kd (ai h1 nx))
theorem xIN (h1:zBU Pg .shr 162 (.tmp 15) (.const (.int .u64 8)) (.int .u64 x) (.int .u64 8)=some (.int .u64 n1)) (h2:zAD .u8 (n1)=z2) (h3:zAB Pg 9 (.string ⟨#[0,1,2,2,3,3,3,3,4,4,4,4,4,4,4,4,5,5,5,5,5,5,5,5,5,5,5,5,5,5,5,5,6,6,6,6,6,6,6,6,6,6,6,6,6,6,6,6,6,6,6,6,6,6,6,6,6,6,6,6,6,6,6,6,7,7,7,7,7,7,7,7,7,7,7,7,7,7,7,7,7,7,7,7,7,7,7,7,7,7,7,7,7,7,7,7,7,7,7,7,7,7,7,7,7,7,7,7,7,7,7,7,7,7,7,7,7,7,7,7,7,7,7,7,7,7,7,7,8,8,8,8,8,8,8,8,8,8,8,8,8,8,8,8,8,8,8,8,8,8,8,8,8,8,8,8,8,8,8,8,8,8,8,8,8,8,8,8,8,8,8,8,8,8,8,8,8,8,8,8,8,8,8,8,8,8,8,8,8,8,8,8,8,8,8,8,8,8,8,8,8,8,8,8,8,8,8,8,8,8,8,8,8,8,8,8,8,8,8,8,8,8,8,8,8,8,8,8,8,8,8,8,8,8,8,8,8,8,8,8,8,8,8,8,8,8,8,8,8,8,8,8,8,8,8,8]⟩) (.int .u8 z2)=some (.int .u8 n3)) (nx:Q (iV (8+n3)) Z) (u1:¬ 4294967296<=x:=by omega) (u2:¬ 65536<=x:=by omega) (u3:256<=x:=by omega) (u4:I6 n3:=by omega) (u5:I6 (8+n3):=by omega):qg 115 [.int .u64 x] Z Q :=
 zH [.g,.g,.b false,.g,.b false,.g,.b true,.g,.v (.int .u64 n1),.g,.g,.g,.g,.g,.g,.n z2,.v (.int .u8 n3),.n n3,.n (8+n3),.g] (kd (an2 (yG u1) (yG u2) (an6 (yE u3) h1 h2 h3 (w64 u4) (w64 u5) nx)))
theorem xIM (h1:zAD .u8 (x)=z1) (h2:zAB Pg 9 (.string ⟨#[0,1,2,2,3,3,3,3,4,4,4,4,4,4,4,4,5,5,5,5,5,5,5,5,5,5,5,5,5,5,5,5,6,6,6,6,6,6,6,6,6,6,6,6,6,6,6,6,6,6,6,6,6,6,6,6,6,6,6,6,6,6,6,6,7,7,7,7,7,7,7,7,7,7,7,7,7,7,7,7,7,7,7,7,7,7,7,7,7,7,7,7,7,7,7,7,7,7,7,7,7,7,7,7,7,7,7,7,7,7,7,7,7,7,7,7,7,7,7,7,7,7,7,7,7,7,7,7,8,8,8,8,8,8,8,8,8,8,8,8,8,8,8,8,8,8,8,8,8,8,8,8,8,8,8,8,8,8,8,8,8,8,8,8,8,8,8,8,8,8,8,8,8,8,8,8,8,8,8,8,8,8,8,8,8,8,8,8,8,8,8,8,8,8,8,8,8,8,8,8,8,8,8,8,8,8,8,8,8,8,8,8,8,8,8,8,8,8,8,8,8,8,8,8,8,8,8,8,8,8,8,8,8,8,8,8,8,8,8,8,8,8,8,8,8,8,8,8,8,8,8,8,8,8,8,8]⟩) (.int .u8 z1)=some (.int .u8 n2)) (nx:Q (iV (0+n2)) Z) (u1:¬ 4294967296<=x:=by omega) (u2:¬ 65536<=x:=by omega) (u3:¬ 256<=x:=by omega) (u4:I6 n2:=by omega) (u5:I6 (0+n2):=by omega):qg 115 [.int .u64 x] Z Q :=
 zH [.g,.g,.b false,.g,.b false,.g,.b false,.g,.g,.n z1,.v (.int .u8 n2),.n n2,.n (0+n2),.g] (kd (ai (yG u1) (an6 (yG u2) (yG u3) h1 h2 (w64 u4) (w64 u5) nx)))
end
section
open Go.Sort (swp PermIn)
section
variable {Z:St} {b c:Nat} {s:Option Nat} {d:Array Rec} {g:FuncId} {gc:List Value} {lt:Rec->Rec->Bool} {V:Rec->Prop}
theorem xXO {a B:Nat} (h:Dt Z b s d) (hv:xR V d) (ha:a<B) (hB:B<=d.size) (hn:d.size<=1000000) :
  uI 110 [.slice (some ⟨b,0,s⟩) d.size c,iV (a:Int),iV (B:Int),.func (.func g) ⟨[]⟩ ⟨gc⟩] (.tuple ⟨[]⟩) Z b s d (Go.Sort.reverseRange d a B):=by
 refine uI.of h (xSN (P0:=fun τ=>W Z τ b s d (Go.Sort.reverseRange d a B)) (yTO (Inv:=fun k i j τ=>∃ (p q:Nat) (dk:Array Rec),i=p/\j=q/\k=q-p/\p<=B/\q<B/\W Z τ b s d dk/\dk.size=d.size/\Go.Sort.reverseLoop p q dk=Go.Sort.reverseRange d a B) ?_ (B-1-a) _ _ Z.re ⟨a,B-1,d,rfl,by omega,rfl,by omega,by omega,W.start h,rfl,rfl⟩) (fun τ hw=>yTN ⟨rfl,hw⟩) (by omega));rintro k i j τ ⟨p,q,dk,rfl,rfl,hk,hp,hq,w,hsz,ht⟩;by_cases hpq:p<q;rotate_left
 ·rw [Go.Sort.reverseLoop,if_neg hpq] at ht;exact xKG (by rw [<- ht];exact w) (by omega)
 rw [Go.Sort.reverseLoop,if_pos hpq] at ht;have l1:=w.dt.ldN (i:=(q:Int)) (k:=q) rfl (by omega);have l2:=w.dt.ldN (i:=(p:Int)) (k:=p) rfl (by omega);obtain ⟨τ5,τ6,t1,t2,w6⟩:=w.swapN (i:=(p:Int)) (j:=(q:Int)) (p:=p) (q:=q) rfl rfl (by omega) (by omega);exact xKH l1 l2 t1 t2 ⟨q-1-(p+1),by omega,p+1,q-1,_,by omega,by omega,rfl,by omega,by omega,w6,by rw [yY,hsz],ht⟩
def zFF:List UInt8:=[0,1,2,2,3,3,3,3,4,4,4,4,4,4,4,4,5,5,5,5,5,5,5,5,5,5,5,5,5,5,5,5]++List.replicate 32 6++List.replicate 64 7++List.replicate 128 8
theorem xNC:zFF.length=256:=by decide
theorem yPG:∀ n:Fin 256,(zFF.getD n.val 0).toNat<=8/\(0<n.val->2 ^ (zFF.getD n.val 0).toNat<=2*n.val):=by decide +kernel
theorem xYO {n:Nat} (hn:n<256):zAB Tryz.prog 9 (.string ⟨⟨zFF⟩⟩) (iV (n:Int))=some (.int .u8 ((zFF.getD n 0).toNat:Int)):=by
 have hl:n<zFF.length:=by rw [xNC];exact hn
 have e:zAB Tryz.prog 9 (.string ⟨⟨zFF⟩⟩) (iV (n:Int))=if 0<=(n:Int) then (((⟨⟨zFF⟩⟩:ByteArray)[(n:Int).toNat]?).map fun b=>Value.int .u8 b.toNat) else none:=by
  unfold zAB;have hu:Tryz.prog.underlying 9=some .string:=by kernel_rfl
  simp only [hu]
 rw [e,if_pos (by omega),Int.toNat_natCast];have hb:(⟨⟨zFF⟩⟩:ByteArray)[n]?=some (zFF.getD n 0):=by
  rw [getElem?_pos _ n (by show n<zFF.length;exact hl)];congr 1;rw [List.getD_eq_getElem?_getD,List.getElem?_eq_getElem hl];rfl
 rw [hb];rfl
end
end
section
open Go.Sort (swp PermIn)
theorem xYE {Z:St} {f:FuncId} {args:List Value} {S:Nat->Prop} {Q:Value->St->Prop} (h:zO Pg f args Z.re fun v s=>Only S Z.re s/\(s.low<Z.y\/zW RD v=false\/Q v Z)/\Q v s) (hQ:∀ v s m,Q v s->Q v ⟨s.heap,s.y,m⟩):∃ v Z',zD Pg f args Z v Z'/\Only S Z Z'/\Q v Z':=by
 obtain ⟨v,s,hN,h1,h2,h3⟩:=h;by_cases hlow:s.low<Z.y
 ·exact zO.mut ⟨v,s,hN,h1,.inl hlow,h3⟩ hQ
 ·cases hr:zW RD v with
  | false=>exact zO.mut ⟨v,s,hN,h1,.inr hr,h3⟩ hQ
  | true =>
   refine ⟨v,Z,zO.pure ⟨v,s,hN,rfl,by omega⟩ hr,Only.refl _ _, ?_⟩
   rcases h2 with h2 | h2 | h2
   ·exact absurd h2 hlow
   ·rw [hr] at h2;cases h2
   ·exact h2
theorem xIY (n:Int):zAD .u8 n=n % 256:=by
 have e1:(2:Int) ^ 8=256:=by decide
 rw [vU];simp only [IntKind.wrap,IntKind.bits,IntKind.signed,e1,Bool.false_and,Bool.false_eq_true,if_false]
theorem zXD (n:Int):zAD .u64 n=n % 18446744073709551616:=by
 have e1:(2:Int) ^ 64=18446744073709551616:=by decide
 rw [vU];simp only [IntKind.wrap,IntKind.bits,IntKind.signed,e1,Bool.false_and,Bool.false_eq_true,if_false]
theorem xZY {x z:Int} {o1 o2:Operand} (hz:0<=z):∃ y,zBU Pg .shl 166 o1 o2 (.int .u64 x) (.int .u64 z)=some (.int .u64 y):=by
 refine ⟨IntKind.u64.wrap (x*2 ^ (min z.toNat IntKind.u64.bits)), ?_⟩
 have e:Op.shift .shl .u64 x .u64 z=pure (.int .u64 (IntKind.u64.wrap (x*2 ^ (min z.toNat IntKind.u64.bits)))):=by unfold Op.shift;rw [if_neg (by omega)]
 show ((zZ Pg (do eqGuard .shl 166 o1 o2 (.int .u64 x) (.int .u64 z);Op.shift .shl .u64 x .u64 z)).filter (zW RD))=_;rw [e];rfl
theorem wBG {x z:Int} {o1 o2:Operand} (hz:0<=z):∃ y,zBU Pg .shr 166 o1 o2 (.int .u64 x) (.int .u64 z)=some (.int .u64 y):=by
 refine ⟨x.fdiv (2 ^ (min z.toNat IntKind.u64.bits)), ?_⟩
 have e:Op.shift .shr .u64 x .u64 z=pure (.int .u64 (x.fdiv (2 ^ (min z.toNat IntKind.u64.bits)))):=by unfold Op.shift;rw [if_neg (by omega)]
 show ((zZ Pg (do eqGuard .shr 166 o1 o2 (.int .u64 x) (.int .u64 z);Op.shift .shr .u64 x .u64 z)).filter (zW RD))=_;rw [e];rfl
theorem xXC {x z:Int} {o1 o2:Operand}:∃ y,zBU Pg .xor 166 o1 o2 (.int .u64 x) (.int .u64 z)=some (.int .u64 y):=by
 refine ⟨IntKind.u64.wrap ((BitVec.ofInt IntKind.u64.bits x ^^^ BitVec.ofInt IntKind.u64.bits z).toNat:Int), ?_⟩
 have e:Op.intBits .xor .u64 x z=pure (.int .u64 (IntKind.u64.wrap ((BitVec.ofInt IntKind.u64.bits x ^^^ BitVec.ofInt IntKind.u64.bits z).toNat:Int))):=rfl;show ((zZ Pg (do eqGuard .xor 166 o1 o2 (.int .u64 x) (.int .u64 z);Op.intBits .xor .u64 x z)).filter (zW RD))=_;rw [e];rfl
theorem wBW {x:Int} {m:Nat} {o1 o2:Operand} (hm:m<18446744073709551616):∃ y:Nat,zBU Pg .and 141 o1 o2 (.int .u64 x) (.int .u64 (m:Int))=some (.int .u64 (y:Int))/\y<=m:=by
 have e64:(2:Nat) ^ IntKind.u64.bits=18446744073709551616:=by decide
 have hb:(BitVec.ofInt IntKind.u64.bits (m:Int)).toNat=m:=by
  rw [BitVec.toNat_ofInt,e64];omega
 have hle:(BitVec.ofInt IntKind.u64.bits x &&& BitVec.ofInt IntKind.u64.bits (m:Int)).toNat<=m:=by
  rw [BitVec.toNat_and,hb];exact Nat.and_le_right
 refine ⟨(BitVec.ofInt IntKind.u64.bits x &&& BitVec.ofInt IntKind.u64.bits (m:Int)).toNat, ?_,hle⟩
 have e:Op.intBits .and .u64 x (m:Int)=pure (.int .u64 (IntKind.u64.wrap ((BitVec.ofInt IntKind.u64.bits x &&& BitVec.ofInt IntKind.u64.bits (m:Int)).toNat:Int))):=rfl;show ((zZ Pg (do eqGuard .and 141 o1 o2 (.int .u64 x) (.int .u64 (m:Int));Op.intBits .and .u64 x (m:Int))).filter (zW RD))=_;rw [e,<- vU,zXD,Int.emod_eq_of_lt (by omega) (by omega)];rfl
theorem wBH {n:Nat} {o1 o2:Operand}:zBU Pg .shr 162 o1 o2 (.int .u64 (n:Int)) (.int .u64 8)=some (.int .u64 ((n / 256:Nat):Int)):=by
 have e:Op.shift .shr .u64 (n:Int) .u64 8=pure (.int .u64 ((n / 256:Nat):Int)):=by
  unfold Op.shift;rw [if_neg (by omega)];show pure (Value.int .u64 (Int.fdiv (n:Int) (2 ^ (min (8:Int).toNat IntKind.u64.bits))))=_;rw [show (2:Int) ^ (min (8:Int).toNat IntKind.u64.bits)=((256:Nat):Int) by decide,<- Int.ofNat_fdiv]
 show ((zZ Pg (do eqGuard .shr 162 o1 o2 (.int .u64 (n:Int)) (.int .u64 8);Op.shift .shr .u64 (n:Int) .u64 8)).filter (zW RD))=_;rw [e];rfl
theorem wBI {n:Nat} {o1 o2:Operand} (h:n<=16):zBU Pg .shl 141 o1 o2 (.int .u64 1) (iV (n:Int))=some (.int .u64 ((2 ^ n:Nat):Int)):=by
 have e:Op.shift .shl .u64 1 .i64 (n:Int)=pure (.int .u64 (IntKind.u64.wrap (1*2 ^ (min (n:Int).toNat IntKind.u64.bits)))):=by unfold Op.shift;rw [if_neg (by omega)]
 have e2:IntKind.u64.wrap (1*2 ^ (min (n:Int).toNat IntKind.u64.bits))=((2 ^ n:Nat):Int):=by
  have hp:2 ^ n<=2 ^ 16:=Nat.pow_le_pow_right (by omega) h;have h16:(2:Nat) ^ 16=65536:=by decide
  rw [Int.toNat_natCast,show min n IntKind.u64.bits=n from Nat.min_eq_left (by show n<=64;omega),<- vU,zXD,Int.one_mul];have e3:(2:Int) ^ n=((2 ^ n:Nat):Int):=by simp
  rw [e3];obtain ⟨k,hk⟩:∃ k:Nat,k=2 ^ n:=⟨_,rfl⟩;rw [<- hk] at hp ⊢;omega
 show ((zZ Pg (do eqGuard .shl 141 o1 o2 (.int .u64 1) (iV (n:Int));Op.shift .shl .u64 1 .i64 (n:Int))).filter (zW RD))=_;rw [e,e2];rfl
theorem xCA {n:Nat} (hn:n<256):zAB Pg 9 (.string ⟨⟨zFF⟩⟩) (.int .u8 (n:Int))=some (.int .u8 ((zFF.getD n 0).toNat:Int)):=by
 have h:=xYO hn;have e:zAB Pg 9 (.string ⟨⟨zFF⟩⟩) (.int .u8 (n:Int))=zAB Pg 9 (.string ⟨⟨zFF⟩⟩) (iV (n:Int)):=by
  unfold zAB;have hu:Pg.underlying 9=some .string:=by kernel_rfl
  simp only [hu]
 rw [e,h]
section
variable {Z:St} {b c:Nat} {s:Option Nat} {d:Array Rec} {g:FuncId} {gc:List Value} {lt:Rec->Rec->Bool} {V:Rec->Prop}
theorem yZQ {x:Nat} (hx:x<65536):∃ n:Nat,n<=16/\(0<x->2 ^ n<=2*x)/\zD Pg 98 [.int .u64 (x:Int)] Z (iV (n:Int)) Z:=by
 by_cases h:x<256
 ·obtain ⟨p1,p2⟩:=yPG ⟨x,h⟩;refine ⟨(zFF.getD x 0).toNat,by simp only at p1;omega,fun h0=>p2 h0, ?_⟩
  refine (xCT (n1:=((zFF.getD x 0).toNat:Int)) (xIM (z1:=(x:Int)) (n2:=((zFF.getD x 0).toNat:Int)) (by rw [xIY];omega) (xCA h) ⟨by rw [Int.zero_add],Nat.le_refl _⟩ (by omega) (by omega) (by omega) (by simp only at p1;omega) (by simp only at p1;omega)).pure ⟨rfl,Nat.le_refl _⟩).pure
 ·have h2:x / 256<256:=by omega
  obtain ⟨p1,p2⟩:=yPG ⟨x / 256,h2⟩;simp only at p1 p2;refine ⟨8+(zFF.getD (x / 256) 0).toNat,by omega,fun _=>?_, ?_⟩
  ·have:=p2 (by omega);rw [Nat.pow_add,show (2:Nat) ^ 8=256 from rfl];omega
  ·refine (xCT (n1:=((8+(zFF.getD (x / 256) 0).toNat:Nat):Int)) (xIN (n1:=((x / 256:Nat):Int)) (z2:=((x / 256:Nat):Int)) (n3:=((zFF.getD (x / 256) 0).toNat:Int)) wBH (by rw [xIY];omega) (xCA h2) ⟨by congr 1,Nat.le_refl _⟩ (by omega) (by omega) (by omega) (by omega) (by omega)).pure ⟨rfl,Nat.le_refl _⟩).pure
theorem xTW {l:Nat} (h0:0<l) (hl:l<65536):∃ m:Nat,1<=m/\m<=2*l/\zD Pg 122 [iV (l:Int)] Z (.int .u64 (m:Int)) Z:=by
 obtain ⟨n,h1,h2,h3⟩:=yZQ (Z:=Z.re) (x:=l) hl;exact ⟨2 ^ n,Nat.pow_pos (by omega),h2 h0,(xMP (z1:=(l:Int)) (by rw [zXD];omega) h3 (wBI h1) ⟨rfl,Nat.le_refl _⟩).pure⟩
theorem xXD {r:Nat} {n:Int} (o:Own Z r [.int .u64 n] 1):∃ n' Z',zD Pg 123 [.pointer (some ⟨r,0,none⟩)] Z (.int .u64 n') Z'/\Only (·=r) Z Z'/\Own Z' r [.int .u64 n'] 1:=by
 obtain ⟨n2,b2⟩:=xZY (x:=n) (z:=13) (o1:=.tmp 8) (o2:=.const (.int .u64 13)) (by omega);obtain ⟨n3,b3⟩:=xXC (x:=n) (z:=n2) (o1:=.tmp 5) (o2:=.tmp 9);obtain ⟨n6,b6⟩:=wBG (x:=n3) (z:=7) (o1:=.tmp 17) (o2:=.const (.int .u64 7)) (by omega);obtain ⟨n7,b7⟩:=xXC (x:=n3) (z:=n6) (o1:=.tmp 14) (o2:=.tmp 18);obtain ⟨n10,b10⟩:=xZY (x:=n7) (z:=17) (o1:=.tmp 26) (o2:=.const (.int .u64 17)) (by omega);obtain ⟨n11,b11⟩:=xXC (x:=n7) (z:=n10) (o1:=.tmp 23) (o2:=.tmp 27);have o0:Own Z.re r [.int .u64 n] 1:=o.re;have s1:=o0.store (P:=Pg) (k:=0) (t:=166) (v:=.int .u64 n3) (vs:=[.int .u64 n3]) (ds:=[.int .u64 n3]) rfl zWD rfl (by simp) rfl;have o1:Own (Z.re.own r [.int .u64 n3] 1) r [.int .u64 n3] 1:=o0.put;have s2:=o1.store (P:=Pg) (k:=0) (t:=166) (v:=.int .u64 n7) (vs:=[.int .u64 n7]) (ds:=[.int .u64 n7]) rfl zWD rfl (by simp) rfl;have o2:Own ((Z.re.own r [.int .u64 n3] 1).own r [.int .u64 n7] 1) r [.int .u64 n7] 1:=o1.put;have s3:=o2.store (P:=Pg) (k:=0) (t:=166) (v:=.int .u64 n11) (vs:=[.int .u64 n11]) (ds:=[.int .u64 n11]) rfl zWD rfl (by simp) rfl;have o3:Own (((Z.re.own r [.int .u64 n3] 1).own r [.int .u64 n7] 1).own r [.int .u64 n11] 1) r [.int .u64 n11] 1:=o2.put;have hr:=o.lt;obtain ⟨v,Z',k1,k2,n',rfl,k3⟩:=zO.mut (P:=Pg) (f:=123) (args:=[.pointer (some ⟨r,0,none⟩)]) (Z:=Z) (S:=(·=r)) (Q:=fun v s=>∃ n',v=.int .u64 n'/\Own s r [.int .u64 n'] 1)
  (xRQ (o0.ld rfl yLB rfl) b2 b3 s1 (o1.ld rfl yLB rfl) b6 b7 s2 (o2.ld rfl yLB rfl) b10 b11 s3 (o3.ld rfl yLB rfl)
   ⟨(((Only.own (S:=(·=r)) (.inr rfl)).trans' (Only.own (S:=(·=r)) (.inr rfl)) (fun b _ h=>.inl h)).trans' (Only.own (S:=(·=r)) (.inr rfl)) (fun b _ h=>.inl h)),.inl (by simp [St.own];omega),n11,rfl,o3⟩)
  (by rintro v s m ⟨n',rfl,h⟩;exact ⟨n',rfl,h.low⟩)
 exact ⟨n',Z',k1,k2,k3⟩
theorem W.other {τ τ':St} {dk:Array Rec} {S:Nat->Prop} (w:W Z τ b s d dk) (hb:b<Z.y) (o:Only S τ τ') (hS:∀ x,S x->Z.y<=x) (hl:τ'.low<=τ.low):W Z τ' b s d dk:=by
 refine ⟨w.only.trans' o (fun x _ h=>.inr (hS x h)),w.dt.only o (fun h=>by have:=hS b h;omega), ?_⟩
 rcases w.low with h | h
 ·exact .inl (by omega)
 ·exact .inr h
theorem xPY {a B:Nat} (h:Dt Z b s d) (ha:a<=B) (hB:B<=d.size) (hn:d.size<=60000) (hv:xR V d) :
  ∃ d',PermIn a B d d'/\xR V d'/\uI 108 [.slice (some ⟨b,0,s⟩) d.size c,iV (a:Int),iV (B:Int),.func (.func g) ⟨[]⟩ ⟨gc⟩] (.tuple ⟨[]⟩) Z b s d d':=by
 suffices hmain:zO Pg 108 [.slice (some ⟨b,0,s⟩) d.size c,iV (a:Int),iV (B:Int),.func (.func g) ⟨[]⟩ ⟨gc⟩] Z.re fun v τ=>v=.tuple ⟨[]⟩/\∃ d',W Z τ b s d d'/\PermIn a B d d'/\xR V d' by
  obtain ⟨v,τ,hN,e,d',w,r1,r2⟩:=hmain
  exact ⟨d',r1,r2,uI.of h ⟨v,τ,hN,e,w⟩⟩
 by_cases h8:B-a<8
 ·exact xIC ⟨rfl,d,W.start h,Go.Sort.permIn_refl _ _ _,hv⟩ (by omega) (by omega)
 obtain ⟨l,hl⟩:∃ l,l=B-a:=⟨_,rfl⟩;have el:(B:Int)-(a:Int)=(l:Int):=by omega
 have e4:Int.tdiv (l:Int) 4=((l / 4:Nat):Int):=by rw [Int.tdiv_eq_ediv_of_nonneg (by omega)];omega
 have w4:IntKind.wrap .i64 (Int.tdiv (l:Int) 4)=Int.tdiv (l:Int) 4:=by rw [<- vU,e4,zXE (by omega) (by omega)]
 have ez:zAD .u64 ((B:Int)-(a:Int))=(l:Int):=by rw [el,zXD];omega
 have hbn:=h.1;obtain ⟨m,hm1,hm2,km⟩:=xTW (Z:=(Z.re.row [.int .u64 0] 1).own Z.re.y [.int .u64 (l:Int)] 1) (l:=l) (by omega) (by omega);have o1:Own ((Z.re.row [.int .u64 0] 1).own Z.re.y [.int .u64 (l:Int)] 1) Z.y [.int .u64 (l:Int)] 1:=(zC _ _ _).put;have O1:Only (·=Z.y) Z.re ((Z.re.row [.int .u64 0] 1).own Z.re.y [.int .u64 (l:Int)] 1):=(Only.row (S:=(·=Z.y)) _ _ _).trans' (Only.own (S:=(·=Z.y)) (.inr rfl)) (fun b _ h=>.inl h);have w1:W Z ((Z.re.row [.int .u64 0] 1).own Z.re.y [.int .u64 (l:Int)] 1) b s d d:=(W.start h).other hbn O1 (fun x hx=>by omega) (by simp [St.own]);refine xID ez (by rw [el];exact km) (by rw [el];exact w4) (P0:=fun τ=>∃ d',W Z τ b s d d'/\PermIn a B d d'/\xR V d')
  (by
   rw [el];refine yKW (Inv:=fun k i τ=>∃ (p:Nat) (dk:Array Rec) (n:Int),i=p/\p+k=a+l / 4*2+2/\a<=p/\W Z τ b s d dk/\PermIn a B d dk/\xR V dk/\Own τ Z.y [.int .u64 n] 1) ?_ 3 _ _ ⟨a+l / 4*2-1,d,_,by rw [e4];omega,by omega,by omega,w1,Go.Sort.permIn_refl _ _ _,hv,o1⟩;rintro k i τ ⟨p,dk,n,rfl,hk,hap,w,hperm,hall,o⟩;have hsz:dk.size=d.size:=hperm.1;by_cases hp:p<=a+l / 4*2+1;rotate_left
   ·exact yZH w4 ⟨dk,w,hperm,hall⟩ (by rw [e4];omega) (by rw [e4];omega) (by rw [e4];omega) (by rw [e4];omega)
   obtain ⟨n',τ',kx,ox,oo⟩:=xXD o;have w2:=w.other hbn ox (fun x hx=>by omega) (zEG kx);obtain ⟨y,by1,by2⟩:=wBW (x:=n') (m:=m-1) (o1:=.tmp 38) (o2:=.tmp 40) (by omega);have em:zAD .u64 (Int.sub (m:Int) 1)=((m-1:Nat):Int):=by
    rw [show Int.sub (m:Int) 1=(m:Int)-1 from rfl,zXD];omega
   have key:∀ (q:Nat) (j:Int),j=(q:Int)->a<=q->q<B->∃ τ1 τ2,zQ Pg (evL [.pointer (some (zL ⟨b,0,s⟩ (Int.toNat (p:Int)*3))),zEO dk[q]!]) τ' (.store 45 (.tmp 0) (.tmp 1))=some (undef,τ1) /\
     zQ Pg (evL [.pointer (some (zL ⟨b,0,s⟩ (Int.toNat j*3))),zEO dk[p]!]) τ1 (.store 45 (.tmp 0) (.tmp 1))=some (undef,τ2) /\
     ∃ k',k' < k/\∃ (p':Nat) (dk':Array Rec) (n:Int),(p:Int)+1=p'/\p'+k'=a+l / 4*2+2/\a<=p'/\W Z τ2 b s d dk'/\PermIn a B d dk'/\xR V dk'/\Own τ2 Z.y [.int .u64 n] 1:=by
    intro q j hj h1 h2
    obtain ⟨τ1,e1,d1,q1,l1⟩:=w2.dt.st (i:=(p:Int)) dk[q]! (by omega) (by omega)
    obtain ⟨τ2,e2,d2,q2,l2⟩:=d1.st (i:=j) dk[p]! (by omega) (by rw [Array.size_setIfInBounds];omega)
    have es:(dk.setIfInBounds (p:Int).toNat dk[q]!).setIfInBounds j.toNat dk[p]! = swp dk p q:=by rw [hj,Int.toNat_natCast,Int.toNat_natCast];rfl
    rw [es] at d2
    exact ⟨τ1,τ2,e1,e2,k-1,by omega,p+1,swp dk p q,n',by omega,by omega,by omega,⟨(w2.only.trans' q1 (fun b _ h=>.inl h)).trans' q2 (fun b _ h=>.inl h),d2,.inl l2⟩,
     Go.Sort.permIn_trans _ _ _ a B hperm (Go.Sort.swp_permIn dk a B p q (by omega) (by omega) h1 h2 (by omega)),hall.swp (by omega) (by omega),q2.own' (q1.own' oo (fun e=>by omega)) (fun e=>by omega)⟩
   have lp:=w2.dt.ldN (i:=(p:Int)) (k:=p) rfl (by omega);by_cases hy:l<=y
   ·obtain ⟨τ1,τ2,e1,e2,hk'⟩:=key (a+(y-l)) ((a:Int)+((y:Int)-(l:Int))) (by omega) (by omega) (by omega);have lq:=w2.dt.ldN (i:=(a:Int)+((y:Int)-(l:Int))) (k:=a+(y-l)) (by omega) (by omega);exact yZJ w4 kx em by1 lq lp e1 e2 hk' (by rw [e4];omega) (by rw [e4];omega) (by rw [e4];omega) (by rw [e4];omega) (by omega) (by omega) (by omega) (by omega) (by omega) (by omega)
   ·obtain ⟨τ1,τ2,e1,e2,hk'⟩:=key (a+y) ((a:Int)+(y:Int)) (by omega) (by omega) (by omega);have lq:=w2.dt.ldN (i:=(a:Int)+(y:Int)) (k:=a+y) (by omega) (by omega);exact yZI w4 kx em by1 lq lp e1 e2 hk' (by rw [e4];omega) (by rw [e4];omega) (by rw [e4];omega) (by rw [e4];omega) (by omega) (by omega) (by omega) (by omega) (by omega))
  (fun τ hw=>yKV ⟨rfl,hw⟩) (by omega) (by omega) (by rw [el,e4];omega) (by rw [el,e4];omega) (by rw [el,e4];omega)
end
end
section
variable {Z:St} {b c:Nat} {s:Option Nat} {d:Array Rec} {g:FuncId} {gc:List Value} {lt:Rec->Rec->Bool} {V:Rec->Prop}
theorem yWG {bs i j:Nat} {n:Int} (h:Dt Z b s d) (hc:Cmp g gc lt V) (hv:xR V d) (o:Own Z bs [iV n] 1) (hi:i<d.size) (hj:j<d.size) (hn:0<=n/\n<=1000) :
  ∃ (x y:Nat) (n':Int) (Z':St),zD Tryz.prog 130 [.slice (some ⟨b,0,s⟩) d.size c,iV (i:Int),iV (j:Int),.pointer (some ⟨bs,0,none⟩),.func (.func g) ⟨[]⟩ ⟨gc⟩] Z (.tuple ⟨[iV (x:Int),iV (y:Int)]⟩) Z'/\Only (·=bs) Z Z' /\
   ((x=i/\y=j)\/(x=j/\y=i))/\n<=n'/\n'<=n+1/\Own Z' bs [iV n'] 1:=by
 have h0:Dt Z.re b s d:=h;have l1:=h0.ldN (i:=(j:Int)) (k:=j) rfl hj;have l2:=h0.ldN (i:=(i:Int)) (k:=i) rfl hi;have hbs:=o.lt;obtain ⟨m,cm,hm⟩:=hc.at_ (τ:=Z.re) hv hj hi;suffices hmain:zO Tryz.prog 130 [.slice (some ⟨b,0,s⟩) d.size c,iV (i:Int),iV (j:Int),.pointer (some ⟨bs,0,none⟩),.func (.func g) ⟨[]⟩ ⟨gc⟩] Z.re fun v τ=>Only (·=bs) Z.re τ/\(τ.low<Z.y\/zW RD v=false\/∃ (x y:Nat) (n':Int),v=.tuple ⟨[iV (x:Int),iV (y:Int)]⟩/\((x=i/\y=j)\/(x=j/\y=i))/\n<=n'/\n'<=n+1/\Own Z bs [iV n'] 1) /\
   ∃ (x y:Nat) (n':Int),v=.tuple ⟨[iV (x:Int),iV (y:Int)]⟩/\((x=i/\y=j)\/(x=j/\y=i))/\n<=n'/\n'<=n+1/\Own τ bs [iV n'] 1 by
  obtain ⟨v,Z',k1,k2,x,y,n',rfl,k3,k4,k5,k6⟩:=xYE (Q:=fun v τ=>∃ (x y:Nat) (n':Int),v=.tuple ⟨[iV (x:Int),iV (y:Int)]⟩/\((x=i/\y=j)\/(x=j/\y=i))/\n<=n'/\n'<=n+1/\Own τ bs [iV n'] 1) hmain
   (by rintro v s m ⟨x,y,n',rfl,a1,a2,a3,a4⟩;exact ⟨x,y,n',rfl,a1,a2,a3,a4.low⟩)
  exact ⟨x,y,n',Z',k1,k2,k3,k4,k5,k6⟩
 rcases hm with ⟨m1,_⟩ | ⟨m1,_⟩
 ·have o0:Own Z.re bs [iV n] 1:=o.re;have st:=o0.store (P:=Tryz.prog) (k:=0) (t:=3) (v:=iV (n+1)) (vs:=[iV (n+1)]) (ds:=[iV (n+1)]) rfl vF rfl (by simp) rfl;exact xTN l1 l2 cm (o0.ld rfl zU rfl) st ⟨Only.own (.inr rfl),.inl (by simp [St.own];omega),j,i,n+1,rfl,.inr ⟨rfl,rfl⟩,by omega,by omega,o0.put⟩
 ·exact xTM l1 l2 cm ⟨Only.refl _ _,.inr (.inr ⟨i,j,n,rfl,.inl ⟨rfl,rfl⟩,by omega,by omega,o⟩),i,j,n,rfl,.inl ⟨rfl,rfl⟩,by omega,by omega,o.re⟩
theorem xMR {bs i j k:Nat} {n:Int} (h:Dt Z b s d) (hc:Cmp g gc lt V) (hv:xR V d) (o:Own Z bs [iV n] 1) (hb:b≠bs) (hi:i<d.size) (hj:j<d.size) (hk:k<d.size) (hn:0<=n/\n<=900) :
    ∃ (x:Nat) (n':Int) (Z':St),zD Tryz.prog 125 [.slice (some ⟨b,0,s⟩) d.size c,iV (i:Int),iV (j:Int),iV (k:Int),.pointer (some ⟨bs,0,none⟩),.func (.func g) ⟨[]⟩ ⟨gc⟩] Z (iV (x:Int)) Z'/\Only (·=bs) Z Z' /\
      (x=i\/x=j\/x=k)/\n<=n'/\n'<=n+3/\Own Z' bs [iV n'] 1:=by
  have hbs:=o.lt;obtain ⟨x1,y1,n1,Z1,k1,q1,z1,e1,f1,o1⟩:=yWG (c:=c) (Z:=Z.re) h hc hv o.re hi hj (by omega);have h1:Dt Z1 b s d:=(show Dt Z.re b s d from h).only q1 (by omega);obtain ⟨x2,y2,n2,Z2,k2,q2,z2,e2,f2,o2⟩:=yWG (c:=c) h1 hc hv o1 (i:=y1) (j:=k) (by omega) hk (by omega);have h2:=h1.only q2 (by omega);obtain ⟨x3,y3,n3,Z3,k3,q3,z3,e3,f3,o3⟩:=yWG (c:=c) h2 hc hv o2 (i:=x1) (j:=x2) (by omega) (by omega) (by omega);have Q3:=(q1.trans' q2 (fun b _ h=>.inl h)).trans' q3 (fun b _ h=>.inl h);have hz:y3=i\/y3=j\/y3=k:=by omega
  by_cases hlow:Z3.low<Z.y
  · obtain ⟨v,Z',r1,r2,x,n',rfl,r3,r4,r5,r6⟩:=xYE (Z:=Z) (f:=125) (args:=[.slice (some ⟨b,0,s⟩) d.size c,iV (i:Int),iV (j:Int),iV (k:Int),.pointer (some ⟨bs,0,none⟩),.func (.func g) ⟨[]⟩ ⟨gc⟩]) (S:=(·=bs)) (Q:=fun v τ=>∃ (x:Nat) (n':Int),v=iV (x:Int)/\(x=i\/x=j\/x=k)/\n<=n'/\n'<=n+3/\Own τ bs [iV n'] 1)
      (xMQ k1 k2 k3 ⟨Q3,.inl hlow,y3,n3,rfl,hz,by omega,by omega,o3⟩) (by rintro v s m ⟨x,n',rfl,a1,a2,a3,a4⟩;exact ⟨x,n',rfl,a1,a2,a3,a4.low⟩)
    exact ⟨x,n',Z',r1,r2,r3,r4,r5,r6⟩
  · exact ⟨y3,n,Z,zO.pure (xMQ k1 k2 k3 ⟨rfl,by omega⟩),Only.refl _ _,hz,by omega,by omega,o⟩
theorem yWK {bs i:Nat} {n:Int} (h:Dt Z b s d) (hc:Cmp g gc lt V) (hv:xR V d) (o:Own Z bs [iV n] 1) (hb:b≠bs) (hi:1<=i) (hj:i+1<d.size) (hsz:d.size<=1000000) (hn:0<=n/\n<=800) :
    ∃ (x:Nat) (n':Int) (Z':St),zD Tryz.prog 124 [.slice (some ⟨b,0,s⟩) d.size c,iV (i:Int),.pointer (some ⟨bs,0,none⟩),.func (.func g) ⟨[]⟩ ⟨gc⟩] Z (iV (x:Int)) Z'/\Only (·=bs) Z Z' /\
      (i<=x+1/\x<=i+1)/\n<=n'/\n'<=n+3/\Own Z' bs [iV n'] 1:=by
  have hbs:=o.lt;obtain ⟨x1,n1,Z1,k1,q1,z1,e1,f1,o1⟩:=xMR (c:=c) (Z:=Z.re) h hc hv o.re hb (i:=i-1) (j:=i) (k:=i+1) (by omega) (by omega) hj (by omega);rw [show ((i-1:Nat):Int)=(i:Int)-1 by omega,show ((i+1:Nat):Int)=(i:Int)+1 by omega] at k1;have hz:i<=x1+1/\x1<=i+1:=by omega
  by_cases hlow:Z1.low<Z.y
  · obtain ⟨v,Z',r1,r2,x,n',rfl,r3,r4,r5,r6⟩:=xYE (Z:=Z) (f:=124) (args:=[.slice (some ⟨b,0,s⟩) d.size c,iV (i:Int),.pointer (some ⟨bs,0,none⟩),.func (.func g) ⟨[]⟩ ⟨gc⟩]) (S:=(·=bs)) (Q:=fun v τ=>∃ (x:Nat) (n':Int),v=iV (x:Int)/\(i<=x+1/\x<=i+1)/\n<=n'/\n'<=n+3/\Own τ bs [iV n'] 1)
      (xBQ k1 ⟨q1,.inl hlow,x1,n1,rfl,hz,by omega,by omega,o1⟩) (by rintro v s m ⟨x,n',rfl,a1,a2,a3,a4⟩;exact ⟨x,n',rfl,a1,a2,a3,a4.low⟩)
    exact ⟨x,n',Z',r1,r2,r3,r4,r5,r6⟩
  · exact ⟨x1,n,Z,zO.pure (xBQ k1 ⟨rfl,by omega⟩),Only.refl _ _,hz,by omega,by omega,o⟩
theorem xHY {a B:Nat} (h:Dt Z b s d) (hc:Cmp g gc lt V) (hv:xR V d) (ha:a<B) (hB:B<=d.size) (hsz:d.size<=1000000) :
  ∃ (x:Nat) (k:Int),a<=x/\x<B/\zD Tryz.prog 109 [.slice (some ⟨b,0,s⟩) d.size c,iV (a:Int),iV (B:Int),.func (.func g) ⟨[]⟩ ⟨gc⟩] Z (.tuple ⟨[iV (x:Int),iV k]⟩) Z:=by
 obtain ⟨l,hl⟩:∃ l,l=B-a:=⟨_,rfl⟩;have el:(B:Int)-(a:Int)=(l:Int):=by omega
 have e4:Int.tdiv ((B:Int)-(a:Int)) 4=((l / 4:Nat):Int):=by rw [el,Int.tdiv_eq_ediv_of_nonneg (by omega)];omega
 have w4:IntKind.wrap .i64 (Int.tdiv ((B:Int)-(a:Int)) 4)=Int.tdiv ((B:Int)-(a:Int)) 4:=by rw [<- vU,e4,zXE (by omega) (by omega)]
 have hbn:=h.1;have o1:Own (Z.re.row [iV 0] 1) Z.y [iV 0] 1:=zC _ _ _;have N1:New Z.re (Z.re.row [iV 0] 1):=New.row _ _ _;have h1:Dt (Z.re.row [iV 0] 1) b s d:=(show Dt Z.re b s d from h).le N1.le;have hS:∀ x,x=Z.y->Z.y<=x:=fun x e=>by omega
 by_cases h8:8<=l;rotate_left
 ·exact ⟨a+l / 4*2,1,by omega,by omega,zO.pure (yYG w4 ⟨by rw [e4];congr 3,N1.lw⟩ (by omega) (by rw [e4];omega) (by rw [e4];omega) (by rw [e4];omega) (by rw [e4];omega) (by rw [e4];omega) (by rw [e4];omega) (by omega))⟩
 have i1:(a:Int)+Int.tdiv ((B:Int)-(a:Int)) 4*1=((a+l / 4*1:Nat):Int):=by rw [e4];omega
 have i2:(a:Int)+Int.tdiv ((B:Int)-(a:Int)) 4*2=((a+l / 4*2:Nat):Int):=by rw [e4];omega
 have i3:(a:Int)+Int.tdiv ((B:Int)-(a:Int)) 4*3=((a+l / 4*3:Nat):Int):=by rw [e4];omega
 by_cases h50:50<=l;rotate_left
 ·obtain ⟨x,n',Z2,k2,q2,z2,m1,m2,o2⟩:=xMR (c:=c) h1 hc hv o1 (by omega) (i:=a+l / 4*1) (j:=a+l / 4*2) (k:=a+l / 4*3) (by omega) (by omega) (by omega) (by omega);rw [<- i1,<- i2,<- i3] at k2;have N2:=N1.of_only q2 hS;by_cases g0:n'=0
  ·exact ⟨x,1,by omega,by omega,zO.pure (yYJ w4 k2 (o2.ld rfl zU rfl) ⟨rfl,N2.lw⟩ (by omega) (by rw [e4];omega) (by rw [e4];omega) (by rw [e4];omega) (by rw [e4];omega) (by rw [e4];omega) (by rw [e4];omega) (by omega) (by omega) (by omega))⟩
  by_cases g12:n'=12
  ·exact ⟨x,2,by omega,by omega,zO.pure (yYI w4 k2 (o2.ld rfl zU rfl) ⟨rfl,N2.lw⟩ (by omega) (by rw [e4];omega) (by rw [e4];omega) (by rw [e4];omega) (by rw [e4];omega) (by rw [e4];omega) (by rw [e4];omega) (by omega) (by omega) (by omega) (by omega))⟩
  ·exact ⟨x,0,by omega,by omega,zO.pure (yYH w4 k2 (o2.ld rfl zU rfl) ⟨rfl,N2.lw⟩ (by omega) (by rw [e4];omega) (by rw [e4];omega) (by rw [e4];omega) (by rw [e4];omega) (by rw [e4];omega) (by rw [e4];omega) (by omega) (by omega) (by omega) (by omega))⟩
 obtain ⟨x1,n1,Z2,k2,q2,z2,m1,m2,o2⟩:=yWK (c:=c) h1 hc hv o1 (by omega) (i:=a+l / 4*1) (by omega) (by omega) hsz (by omega);have N2:=N1.of_only q2 hS;have h2:=h1.only q2 (by omega);obtain ⟨x2,n2,Z3,k3,q3,z3,m3,m4,o3⟩:=yWK (c:=c) h2 hc hv o2 (by omega) (i:=a+l / 4*2) (by omega) (by omega) hsz (by omega);have N3:=N2.of_only q3 hS;have h3:=h2.only q3 (by omega);obtain ⟨x3,n3,Z4,k4,q4,z4,m5,m6,o4⟩:=yWK (c:=c) h3 hc hv o3 (by omega) (i:=a+l / 4*3) (by omega) (by omega) hsz (by omega);have N4:=N3.of_only q4 hS;have h4:=h3.only q4 (by omega);obtain ⟨x,n',Z5,k5,q5,z5,m7,m8,o5⟩:=xMR (c:=c) h4 hc hv o4 (by omega) (i:=x1) (j:=x2) (k:=x3) (by omega) (by omega) (by omega) (by omega);have N5:=N4.of_only q5 hS;rw [<- i1] at k2;rw [<- i2] at k3;rw [<- i3] at k4;by_cases g0:n'=0
 ·exact ⟨x,1,by omega,by omega,zO.pure (yYM w4 k2 k3 k4 k5 (o5.ld rfl zU rfl) ⟨rfl,N5.lw⟩ (by omega) (by rw [e4];omega) (by rw [e4];omega) (by rw [e4];omega) (by rw [e4];omega) (by rw [e4];omega) (by rw [e4];omega) (by omega) (by omega) (by omega))⟩
 by_cases g12:n'=12
 ·exact ⟨x,2,by omega,by omega,zO.pure (yYL w4 k2 k3 k4 k5 (o5.ld rfl zU rfl) ⟨rfl,N5.lw⟩ (by omega) (by rw [e4];omega) (by rw [e4];omega) (by rw [e4];omega) (by rw [e4];omega) (by rw [e4];omega) (by rw [e4];omega) (by omega) (by omega) (by omega) (by omega))⟩
 ·exact ⟨x,0,by omega,by omega,zO.pure (yYK w4 k2 k3 k4 k5 (o5.ld rfl zU rfl) ⟨rfl,N5.lw⟩ (by omega) (by rw [e4];omega) (by rw [e4];omega) (by rw [e4];omega) (by rw [e4];omega) (by rw [e4];omega) (by rw [e4];omega) (by omega) (by omega) (by omega) (by omega))⟩
end
section
noncomputable section
variable (data:oAa) (ag ah:Nat) (aU:Int) (aB:FuncId) (ao:lVa) (aX aI aW:Int) (q0:Int->Int->Int->Bool->Bool->St->Prop) (bA fp bu:Bool) (q1:St->Prop) (nL kD kE kC:Int) (fi:Bool) (fu ft:Int) (q4:Int->Int->Bool->St->Prop) (t10_5:Bool) (Z:St) (Nx:Int->Int->Int->Bool->Bool->St->Prop) (q6:vPa) (q5:Int->Int->Bool->St->Prop) (Qr:St->Prop)
def zNT:Code:=(Code.part [1,1,0,0] (qh 97))
def zYT:lNa:=[(0,.slice data ag ah),(1,iV aX),(2,iV aI),(3,iV aW),(4,.func (.func aB) ⟨[]⟩ ⟨ao⟩),(10,.bool fp),(11,.bool bu)]
def zLL:Alt:=⟨Int × Int × Int × Bool × Bool,.normal,fun t=>zYT data ag ah aB ao t.1 t.2.1 t.2.2.1 t.2.2.2.1 t.2.2.2.2,fun t=>[],fun t Z=>q0 t.1 t.2.1 t.2.2.1 t.2.2.2.1 t.2.2.2.2 Z⟩
def yNY (data:oAa) (ag ah:Nat) (aB:FuncId) (ao:lVa):lNa:=[]
def zCF:Alt:=⟨Unit,.ret,fun t=>yNY data ag ah aB ao,fun t=>[],fun t Z=>q1 Z⟩
def zRQ:Prop:=qi qj none zNT 148 (zYT data ag ah aB ao aX aI aW fp bu) [] [zLL data ag ah aB ao Nx,zCF data ag ah aB ao Qr] Z
def xLE:Prop:=qk qj none zNT 148 (zYT data ag ah aB ao aX aI aW fp bu) [] [zCF data ag ah aB ao Qr] Z
def xXZ:Code:=(Code.part [1,1,0,0,0,1,1,1,0,1] (qh 97))
def yVH (data:oAa) (ag ah:Nat) (aX aI:Int) (aB:FuncId) (ao:lVa) (da bu:Bool) (kA:Int) (fK:Bool) (aU:Int):lNa:=[(0,.slice data ag ah),(1,iV aX),(2,iV aI),(3,iV aU),(4,.func (.func aB) ⟨[]⟩ ⟨ao⟩),(10,.bool da),(11,.bool bu),(12,iV kA),(39,.bool fK)]
def yNX (data:oAa) (ag ah:Nat) (aX aI:Int) (aB:FuncId) (ao:lVa) (da bu:Bool) (kA:Int) (fK:Bool) (aU:Int):lNa:=[(0,.slice data ag ah),(1,iV aX),(2,iV aI),(3,iV aU),(4,.func (.func aB) ⟨[]⟩ ⟨ao⟩),(10,.bool da),(11,.bool bu),(12,iV kA)]
def zYW (data:oAa) (ag ah:Nat) (aX aI:Int) (aB:FuncId) (ao:lVa) (da bu:Bool) (kA:Int) (fK:Bool) (Q:Int->St->Prop):Alt:=⟨Int,.normal,fun t=>yNX data ag ah aX aI aB ao da bu kA fK t,fun t=>[],fun t Z=>Q t Z⟩
def yJE (data:oAa) (ag ah:Nat) (aX aI:Int) (aB:FuncId) (ao:lVa) (da bu:Bool) (kA:Int) (fK:Bool) (aU:Int) (Z:St) (Qn:Int->St->Prop):Prop:=qi qj none xXZ 148 (yVH data ag ah aX aI aB ao da bu kA fK aU) [] [zYW data ag ah aX aI aB ao da bu kA fK Qn] Z
def zJS (data:oAa) (ag ah:Nat) (aX aI:Int) (aB:FuncId) (ao:lVa) (da bu:Bool) (kA:Int) (fK:Bool) (aU:Int) (Z:St) (Nx:Int->Int->Int->Bool->Bool->St->Prop) (Qr:St->Prop):Prop:=kZ qj zNT [0,1,1,1,0,1] (zFK 148 [zLL data ag ah aB ao Nx,zCF data ag ah aB ao Qr]) .normal 148 (yNX data ag ah aX aI aB ao da bu kA fK aU) Z
def xXY:Code:=(Code.part [1,1,0,0,0,1,1,1,1,1,0,1] (qh 97))
def zYS (data:oAa) (ag ah:Nat) (aX aI aU:Int) (aB:FuncId) (ao:lVa) (da bu:Bool) (kA:Int) (eG:Bool) (aH dB:Int):lNa:=[(0,.slice data ag ah),(1,iV aX),(2,iV aI),(3,iV aU),(4,.func (.func aB) ⟨[]⟩ ⟨ao⟩),(10,.bool da),(11,.bool bu),(12,iV kA),(13,iV aH),(14,iV dB),(56,.bool eG)]
def yNW (data:oAa) (ag ah:Nat) (aX aI aU:Int) (aB:FuncId) (ao:lVa) (da bu:Bool) (kA:Int) (eG:Bool) (aH dB:Int):lNa:=[(0,.slice data ag ah),(1,iV aX),(2,iV aI),(3,iV aU),(4,.func (.func aB) ⟨[]⟩ ⟨ao⟩),(10,.bool da),(11,.bool bu),(12,iV kA),(13,iV aH),(14,iV dB)]
def zYV (data:oAa) (ag ah:Nat) (aX aI aU:Int) (aB:FuncId) (ao:lVa) (da bu:Bool) (kA:Int) (eG:Bool) (Q:Int->Int->St->Prop):Alt:=⟨Int × Int,.normal,fun t=>yNW data ag ah aX aI aU aB ao da bu kA eG t.1 t.2,fun t=>[],fun t Z=>Q t.1 t.2 Z⟩
def yJD (data:oAa) (ag ah:Nat) (aX aI aU:Int) (aB:FuncId) (ao:lVa) (da bu:Bool) (kA:Int) (eG:Bool) (aH dB:Int) (Z:St) (Qn:Int->Int->St->Prop):Prop:=qi qj none xXY 148 (zYS data ag ah aX aI aU aB ao da bu kA eG aH dB) [] [zYV data ag ah aX aI aU aB ao da bu kA eG Qn] Z
def wB (data:oAa) (ag ah:Nat) (aX aI aU:Int) (aB:FuncId) (ao:lVa) (da bu:Bool) (kA:Int) (eG:Bool) (aH dB:Int) (Z:St) (Nx:Int->Int->Int->Bool->Bool->St->Prop) (Qr:St->Prop):Prop:=kZ qj zNT [0,1,1,1,1,1,0,1] (zFK 148 [zLL data ag ah aB ao Nx,zCF data ag ah aB ao Qr]) .normal 148 (yNW data ag ah aX aI aU aB ao da bu kA eG aH dB) Z
def xXX:Code:=(Code.part [1,1,0,0,0,1,1,1,1,1,1,1,0,1] (qh 97))
def wF (data:oAa) (ag ah:Nat) (aI aU:Int) (aB:FuncId) (ao:lVa) (eF eE:Bool) (kA aH:Int) (eN:Bool) (dV:Int):lNa:=[(0,.slice data ag ah),(1,iV dV),(2,iV aI),(3,iV aU),(4,.func (.func aB) ⟨[]⟩ ⟨ao⟩),(10,.bool eF),(11,.bool eE),(12,iV kA),(13,iV aH),(97,.bool eN)]
def yNV (data:oAa) (ag ah:Nat) (aI aU:Int) (aB:FuncId) (ao:lVa) (eF eE:Bool) (kA aH:Int) (eN:Bool) (dV:Int):lNa:=[(0,.slice data ag ah),(1,iV dV),(2,iV aI),(3,iV aU),(4,.func (.func aB) ⟨[]⟩ ⟨ao⟩),(10,.bool eF),(11,.bool eE)]
def vH (data:oAa) (ag ah:Nat) (aI aU:Int) (aB:FuncId) (ao:lVa) (eF eE:Bool) (kA aH:Int) (eN:Bool) (Q:Int->St->Prop):Alt:=⟨Int,(.exit 1),fun t=>yNV data ag ah aI aU aB ao eF eE kA aH eN t,fun t=>[],fun t Z=>Q t Z⟩
def yNU (data:oAa) (ag ah:Nat) (aI aU:Int) (aB:FuncId) (ao:lVa) (eF eE:Bool) (kA aH:Int) (eN:Bool) (dV:Int):lNa:=[(0,.slice data ag ah),(1,iV dV),(2,iV aI),(3,iV aU),(4,.func (.func aB) ⟨[]⟩ ⟨ao⟩),(12,iV kA),(13,iV aH)]
def vG (data:oAa) (ag ah:Nat) (aI aU:Int) (aB:FuncId) (ao:lVa) (eF eE:Bool) (kA aH:Int) (eN:Bool) (Q:Int->St->Prop):Alt:=⟨Int,.normal,fun t=>yNU data ag ah aI aU aB ao eF eE kA aH eN t,fun t=>[],fun t Z=>Q t Z⟩
def uN (data:oAa) (ag ah:Nat) (aI aU:Int) (aB:FuncId) (ao:lVa) (eF eE:Bool) (kA aH:Int) (eN:Bool) (dV:Int) (Z:St) (Q1:Int->St->Prop) (Qn:Int->St->Prop):Prop:=qi qj none xXX 148 (wF data ag ah aI aU aB ao eF eE kA aH eN dV) [] [vH data ag ah aI aU aB ao eF eE kA aH eN Q1,vG data ag ah aI aU aB ao eF eE kA aH eN Qn] Z
def wX (data:oAa) (ag ah:Nat) (aI aU:Int) (aB:FuncId) (ao:lVa) (eF eE:Bool) (kA aH:Int) (eN:Bool) (dV:Int) (Z:St) (Nx:Int->Int->Int->Bool->Bool->St->Prop) (Qr:St->Prop):Prop:=kZ qj zNT [0,1,1,1,1,1,1,1,0,1] (zFK 148 [zLL data ag ah aB ao Nx,zCF data ag ah aB ao Qr]) (.exit 1) 148 (yNV data ag ah aI aU aB ao eF eE kA aH eN dV) Z
def wI (data:oAa) (ag ah:Nat) (aI aU:Int) (aB:FuncId) (ao:lVa) (eF eE:Bool) (kA aH:Int) (eN:Bool) (dV:Int) (Z:St) (Nx:Int->Int->Int->Bool->Bool->St->Prop) (Qr:St->Prop):Prop:=kZ qj zNT [0,1,1,1,1,1,1,1,0,1] (zFK 148 [zLL data ag ah aB ao Nx,zCF data ag ah aB ao Qr]) .normal 148 (yNU data ag ah aI aU aB ao eF eE kA aH eN dV) Z
def xXW:Code:=(Code.part [1,1,0,0,0,1,1,1,1,1,1,1,1,1,1,1,1,1] (qh 97))
def yVG:lNa:=[(0,.slice data ag ah),(1,iV fu),(2,iV ft),(3,iV aU),(4,.func (.func aB) ⟨[]⟩ ⟨ao⟩),(11,.bool bA),(16,iV nL),(18,iV kD),(19,iV kE),(20,iV kC),(125,.bool fi)]
def yNT (data:oAa) (ag ah:Nat) (aU:Int) (aB:FuncId) (ao:lVa) (bA:Bool) (nL kD kE kC:Int) (fi:Bool) (fu ft:Int) (t10_5:Bool):lNa:=[(0,.slice data ag ah),(1,iV fu),(2,iV ft),(3,iV aU),(4,.func (.func aB) ⟨[]⟩ ⟨ao⟩),(10,.bool t10_5),(11,.bool bA)]
def zYU:Alt:=⟨Int × Int × Bool,.normal,fun t=>yNT data ag ah aU aB ao bA nL kD kE kC fi t.1 t.2.1 t.2.2,fun t=>[],fun t Z=>q4 t.1 t.2.1 t.2.2 Z⟩
def zRP:Prop:=qi qj none xXW 148 (yVG data ag ah aU aB ao bA nL kD kE kC fi fu ft) [] [zYU data ag ah aU aB ao bA nL kD kE kC fi q5] Z
def zYX:Prop:=kZ qj zNT [0,1,1,1,1,1,1,1,1,1,1,1,1,1] (zFK 148 [zLL data ag ah aB ao Nx,zCF data ag ah aB ao Qr]) .normal 148 (yNT data ag ah aU aB ao bA nL kD kE kC fi fu ft t10_5) Z
def yNZ:Prop:=kZ qj (qh 97) [1,1,0] (ql 97 q6) .ret 148 (yNY data ag ah aB ao) Z
end
variable {data x:oAa} {ag ah x_l x_c:Nat} {aB:FuncId} {ao:lVa} {Inv:Nat->Int->Int->Int->Bool->Bool->St->Prop} {Qr Pr:St->Prop} {aX aI aW kA aU aH dB nKB nIB dV nCB nX nY nZ nAB nBB nBR nBS nDB nEB kD kE kC nL fu ft a_1 b limit z1 n2:Int} {fp bu da fK eG eF eE eN bA fi t10_5:Bool} {ZM Z ZRB ZSB ZB ZTB ZJ ZY Z3:St} {Nx:Int->Int->Int->Bool->Bool->St->Prop} {Qn Pn Q1 P1:Int->St->Prop} {ar:Addr} {Q:vPa}
theorem yEQ (hb:∀ k aX aI aW fp bu Z,Inv k aX aI aW fp bu Z->zRQ data ag ah aB ao aX aI aW fp bu Z (NX5 Inv k) Qr):∀ k aX aI aW fp bu Z,Inv k aX aI aW fp bu Z->xLE data ag ah aB ao aX aI aW fp bu Z Qr :=
 xYK (ai uQ trivial) hb
theorem xAY (h1:qm 106 [.slice data ag ah,iV aX,iV aI,.func (.func aB) ⟨[]⟩ ⟨ao⟩] Z (.tuple ⟨[]⟩) ZM) (nx:Qr ZM) (u1:I6 (aI-aX):=by omega) (u2:(aI-aX)<=12:=by omega):zRQ data ag ah aB ao aX aI aW fp bu Z Nx Qr :=
 kO 1 () [.g,.g,.n (aI-aX),.g,.g,.b true,.g,.g,.g,.g,.c (.tuple ⟨[]⟩) ZM] (fun _ f=>an3 (w64 u1) (yE u2) h1 f) nx
theorem xTH (h1:qm 107 [.slice data ag ah,iV aX,iV aI,.func (.func aB) ⟨[]⟩ ⟨ao⟩] Z (.tuple ⟨[]⟩) ZM) (nx:Qr ZM) (u1:I6 (aI-aX):=by omega) (u2:¬ (aI-aX)<=12:=by omega) (u3:aW=0:=by omega):zRQ data ag ah aB ao aX aI aW fp bu Z Nx Qr :=
 kO 1 () [.g,.g,.n (aI-aX),.g,.g,.b false,.g,.b true,.g,.g,.g,.g,.c (.tuple ⟨[]⟩) ZM] (fun _ f=>an4 (w64 u1) (yG u2) (xL u3) h1 f) nx
theorem xTE (h1:qm 108 [.slice data ag ah,iV aX,iV aI,.func (.func aB) ⟨[]⟩ ⟨ao⟩] Z (.tuple ⟨[]⟩) ZRB) (nx:Qn (aU-1) ZRB) (u1:I6 (aU-1):=by omega):yJE data ag ah aX aI aB ao da bu kA true aU Z Qn :=
 kO 0 (aU-1) [.g,.g,.g,.g,.c (.tuple ⟨[]⟩) ZRB,.g,.n (aU-1),.g] (fun _ f=>an2 h1 (w64 u1) f) nx
theorem xTD (nx:Qn aU Z):yJE data ag ah aX aI aB ao da bu kA false aU Z Qn :=
 kO 0 aU [] (fun _ f=>f) nx
theorem xTG (hL:yJE data ag ah aX aI aB ao true bu (aI-aX) false aW Z Pn) (kn:∀ i3_2' Z',Pn i3_2' Z'->zJS data ag ah aX aI aB ao true bu (aI-aX) false i3_2' Z' Nx Qr) (u1:I6 (aI-aX):=by omega) (u2:¬ (aI-aX)<=12:=by omega) (u3:¬ aW=0:=by omega):zRQ data ag ah aB ao aX aI aW true bu Z Nx Qr :=
 let s1:=yVH data ag ah aX aI aB ao true bu (aI-aX) false aW;zCC [.g,.g,.n (aI-aX),.g,.g,.b false,.g,.b false,.g,.g,.cut 148 s1 [zYW data ag ah aX aI aB ao true bu (aI-aX) false Pn]] (fun g=>kd (an3 (w64 u1) (yG u2) (xK u3) (ai (ai tt (ai (arf s1) hL)) (ai (kz1 kn) trivial))))
theorem xTF (hL:yJE data ag ah aX aI aB ao false bu (aI-aX) true aW Z Pn) (kn:∀ i3_2' Z',Pn i3_2' Z'->zJS data ag ah aX aI aB ao false bu (aI-aX) true i3_2' Z' Nx Qr) (u1:I6 (aI-aX):=by omega) (u2:¬ (aI-aX)<=12:=by omega) (u3:¬ aW=0:=by omega):zRQ data ag ah aB ao aX aI aW false bu Z Nx Qr :=
 let s1:=yVH data ag ah aX aI aB ao false bu (aI-aX) true aW;zCC [.g,.g,.n (aI-aX),.g,.g,.b false,.g,.b false,.g,.g,.cut 148 s1 [zYW data ag ah aX aI aB ao false bu (aI-aX) true Pn]] (fun g=>kd (an3 (w64 u1) (yG u2) (xK u3) (ai (ai tt (ai (arf s1) hL)) (ai (kz1 kn) trivial))))
theorem xTC {Qn:Int->Int->St->Prop} (h1:qm 110 [.slice data ag ah,iV aX,iV aI,.func (.func aB) ⟨[]⟩ ⟨ao⟩] Z (.tuple ⟨[]⟩) ZSB) (nx:Qn ((aI-1)-(aH-aX)) (1:Int) ZSB) (u1:I6 (aI-1):=by omega) (u2:I6 (aH-aX):=by omega) (u3:I6 ((aI-1)-(aH-aX)):=by omega):yJD data ag ah aX aI aU aB ao da bu kA true aH dB Z Qn :=
 let s1:=aH-aX;kO 0 ((aI-1)-s1,(1:Int)) [.g,.g,.g,.g,.c (.tuple ⟨[]⟩) ZSB,.g,.n (aI-1),.g,.g,.n s1,.n ((aI-1)-s1),.g,.g] (fun _ f=>an4 h1 (w64 u1) (w64 u2) (w64 u3) f) nx
theorem xTB {Qn:Int->Int->St->Prop} (nx:Qn aH dB Z):yJD data ag ah aX aI aU aB ao da bu kA false aH dB Z Qn :=
 kO 0 (aH,dB) [] (fun _ f=>f) nx
theorem xFQ {Pn:Int->Int->St->Prop} (h1:qm 109 [.slice data ag ah,iV aX,iV aI,.func (.func aB) ⟨[]⟩ ⟨ao⟩] Z (.tuple ⟨[iV nKB,iV nIB]⟩) Z) (hL:yJD data ag ah aX aI aU aB ao da bu kA true nKB nIB Z Pn) (kn:∀ i13_3' i14_3' Z',Pn i13_3' i14_3' Z'->wB data ag ah aX aI aU aB ao da bu kA true i13_3' i14_3' Z' Nx Qr) (u1:nIB=2:=by omega):zJS data ag ah aX aI aB ao da bu kA fK aU Z Nx Qr :=
 sK [.g,.g,.g,.g,.c (.tuple ⟨[iV nKB,iV nIB]⟩) Z,.g,.g,.g,.g,.g,.g,.b true,.cut 148 (zYS data ag ah aX aI aU aB ao da bu kA true nKB nIB) [zYV data ag ah aX aI aU aB ao da bu kA true Pn]] (an2 h1 (xL u1) (ai (ai tt (ai (arf (zYS data ag ah aX aI aU aB ao da bu kA true nKB nIB)) hL)) (ai (kz2 kn) trivial)))
theorem xFP {Pn:Int->Int->St->Prop} (h1:qm 109 [.slice data ag ah,iV aX,iV aI,.func (.func aB) ⟨[]⟩ ⟨ao⟩] Z (.tuple ⟨[iV nKB,iV nIB]⟩) Z) (hL:yJD data ag ah aX aI aU aB ao da bu kA false nKB nIB Z Pn) (kn:∀ i13_3' i14_3' Z',Pn i13_3' i14_3' Z'->wB data ag ah aX aI aU aB ao da bu kA false i13_3' i14_3' Z' Nx Qr) (u1:¬ nIB=2:=by omega):zJS data ag ah aX aI aB ao da bu kA fK aU Z Nx Qr :=
 sK [.g,.g,.g,.g,.c (.tuple ⟨[iV nKB,iV nIB]⟩) Z,.g,.g,.g,.g,.g,.g,.b false,.cut 148 (zYS data ag ah aX aI aU aB ao da bu kA false nKB nIB) [zYV data ag ah aX aI aU aB ao da bu kA false Pn]] (an2 h1 (xK u1) (ai (ai tt (ai (arf (zYS data ag ah aX aI aU aB ao da bu kA false nKB nIB)) hL)) (ai (kz2 kn) trivial)))
theorem yEO (h1:qm 111 [.slice data ag ah,iV aX,iV aI,.func (.func aB) ⟨[]⟩ ⟨ao⟩] Z (.bool true) ZB) (nx:Qr ZB) (u1:dB=1:=by omega):wB data ag ah aX aI aU aB ao true true kA eG aH dB Z Nx Qr :=
 sF 1 () [.g,.g,.g,.g,.g,.g,.b true,.g,.g,.g,.g,.g,.c (.bool true) ZB] (fun _ f=>an2 (xL u1) h1 f) nx
theorem xTA (h1:qm 112 [.slice data ag ah,iV dV,iV aI,iV aH,.func (.func aB) ⟨[]⟩ ⟨ao⟩] Z (iV nCB) ZTB) (nx:Q1 nCB ZTB):uN data ag ah aI aU aB ao eF eE kA aH true dV Z Q1 Qn :=
 kO 0 nCB [.g,.g,.g,.g,.g,.c (iV nCB) ZTB,.g,.g,.g] (fun _ f=>ai h1 f) nx
theorem xSZ (nx:Qn dV Z):uN data ag ah aI aU aB ao eF eE kA aH false dV Z Q1 Qn :=
 kO 1 dV [] (fun _ f=>f) nx
theorem xFO (h1:qm 111 [.slice (some ar) ag ah,iV aX,iV aI,.func (.func aB) ⟨[]⟩ ⟨ao⟩] Z (.bool false) ZB) (h2:lz ZB 45 (zL ar (Int.toNat (aX-1)*3)) (qf (rcd nX nY nZ))) (h3:lz ZB 45 (zL ar (Int.toNat aH*3)) (qf (rcd nAB nBB nBR))) (h4:qm aB (qf (rcd nX nY nZ)::(qf (rcd nAB nBB nBR))::ao) ZB (iV nBS) ZB) (hL:uN (some ar) ag ah aI aU aB ao true true kA aH false aX ZB P1 Pn) (k1:∀ i1_4' Z',P1 i1_4' Z'->wX (some ar) ag ah aI aU aB ao true true kA aH false i1_4' Z' Nx Qr) (kn:∀ i1_4' Z',Pn i1_4' Z'->wI (some ar) ag ah aI aU aB ao true true kA aH false i1_4' Z' Nx Qr) (u1:dB=1:=by omega) (u2:0<aX:=by omega) (u3:I6 (aX-1):=by omega) (u4:Ix (aX-1) ag:=by omega) (u5:Ix aH ag:=by omega) (u6:nBS<0:=by omega):wB (some ar) ag ah aX aI aU aB ao true true kA eG aH dB Z Nx Qr :=
 sK [.g,.g,.g,.g,.g,.g,.b true,.g,.g,.g,.g,.g,.c (.bool false) ZB,.g,.b true,.g,.g,.g,.g,.n (aX-1),.i,.l (qf (rcd nX nY nZ)),.g,.g,.i,.l (qf (rcd nAB nBB nBR)),.c (iV nBS) ZB,.b true,.g,.g,.cut 148 (wF (some ar) ag ah aI aU aB ao true true kA aH false aX) [vH (some ar) ag ah aI aU aB ao true true kA aH false P1,vG (some ar) ag ah aI aU aB ao true true kA aH false Pn]] (an4 (xL u1) h1 (zR u2) (w64 u3) (an6 u4 h2 u5 h3 h4 (zR u6) (ai (ai tt (ai (arf (wF (some ar) ag ah aI aU aB ao true true kA aH false aX)) hL)) (ai (kz1 k1) (ai (kz1 kn) trivial)))))
theorem xFN (h1:qm 111 [.slice (some ar) ag ah,iV aX,iV aI,.func (.func aB) ⟨[]⟩ ⟨ao⟩] Z (.bool false) ZB) (h2:lz ZB 45 (zL ar (Int.toNat (aX-1)*3)) (qf (rcd nX nY nZ))) (h3:lz ZB 45 (zL ar (Int.toNat aH*3)) (qf (rcd nAB nBB nBR))) (h4:qm aB (qf (rcd nX nY nZ)::(qf (rcd nAB nBB nBR))::ao) ZB (iV nBS) ZB) (hL:uN (some ar) ag ah aI aU aB ao true true kA aH true aX ZB P1 Pn) (k1:∀ i1_4' Z',P1 i1_4' Z'->wX (some ar) ag ah aI aU aB ao true true kA aH true i1_4' Z' Nx Qr) (kn:∀ i1_4' Z',Pn i1_4' Z'->wI (some ar) ag ah aI aU aB ao true true kA aH true i1_4' Z' Nx Qr) (u1:dB=1:=by omega) (u2:0<aX:=by omega) (u3:I6 (aX-1):=by omega) (u4:Ix (aX-1) ag:=by omega) (u5:Ix aH ag:=by omega) (u6:¬ nBS<0:=by omega):wB (some ar) ag ah aX aI aU aB ao true true kA eG aH dB Z Nx Qr :=
 sK [.g,.g,.g,.g,.g,.g,.b true,.g,.g,.g,.g,.g,.c (.bool false) ZB,.g,.b true,.g,.g,.g,.g,.n (aX-1),.i,.l (qf (rcd nX nY nZ)),.g,.g,.i,.l (qf (rcd nAB nBB nBR)),.c (iV nBS) ZB,.b false,.g,.g,.cut 148 (wF (some ar) ag ah aI aU aB ao true true kA aH true aX) [vH (some ar) ag ah aI aU aB ao true true kA aH true P1,vG (some ar) ag ah aI aU aB ao true true kA aH true Pn]] (an4 (xL u1) h1 (zR u2) (w64 u3) (an6 u4 h2 u5 h3 h4 (zT u6) (ai (ai tt (ai (arf (wF (some ar) ag ah aI aU aB ao true true kA aH true aX)) hL)) (ai (kz1 k1) (ai (kz1 kn) trivial)))))
theorem xFM (h1:qm 111 [.slice data ag ah,iV aX,iV aI,.func (.func aB) ⟨[]⟩ ⟨ao⟩] Z (.bool false) ZB) (hL:uN data ag ah aI aU aB ao true true kA aH false aX ZB P1 Pn) (k1:∀ i1_4' Z',P1 i1_4' Z'->wX data ag ah aI aU aB ao true true kA aH false i1_4' Z' Nx Qr) (kn:∀ i1_4' Z',Pn i1_4' Z'->wI data ag ah aI aU aB ao true true kA aH false i1_4' Z' Nx Qr) (u1:dB=1:=by omega) (u2:¬ 0<aX:=by omega):wB data ag ah aX aI aU aB ao true true kA eG aH dB Z Nx Qr :=
 sK [.g,.g,.g,.g,.g,.g,.b true,.g,.g,.g,.g,.g,.c (.bool false) ZB,.g,.b false,.g,.g,.cut 148 (wF data ag ah aI aU aB ao true true kA aH false aX) [vH data ag ah aI aU aB ao true true kA aH false P1,vG data ag ah aI aU aB ao true true kA aH false Pn]] (an3 (xL u1) h1 (zT u2) (ai (ai tt (ai (arf (wF data ag ah aI aU aB ao true true kA aH false aX)) hL)) (ai (kz1 k1) (ai (kz1 kn) trivial))))
theorem xFL (h1:lz Z 45 (zL ar (Int.toNat (aX-1)*3)) (qf (rcd nDB nEB nX))) (h2:lz Z 45 (zL ar (Int.toNat aH*3)) (qf (rcd nY nZ nAB))) (h3:qm aB (qf (rcd nDB nEB nX)::(qf (rcd nY nZ nAB))::ao) Z (iV nBB) Z) (hL:uN (some ar) ag ah aI aU aB ao true true kA aH false aX Z P1 Pn) (k1:∀ i1_4' Z',P1 i1_4' Z'->wX (some ar) ag ah aI aU aB ao true true kA aH false i1_4' Z' Nx Qr) (kn:∀ i1_4' Z',Pn i1_4' Z'->wI (some ar) ag ah aI aU aB ao true true kA aH false i1_4' Z' Nx Qr) (u1:¬ dB=1:=by omega) (u2:0<aX:=by omega) (u3:I6 (aX-1):=by omega) (u4:Ix (aX-1) ag:=by omega) (u5:Ix aH ag:=by omega) (u6:nBB<0:=by omega):wB (some ar) ag ah aX aI aU aB ao true true kA eG aH dB Z Nx Qr :=
 sK [.g,.g,.g,.g,.g,.g,.b false,.g,.g,.b true,.g,.g,.g,.g,.n (aX-1),.i,.l (qf (rcd nDB nEB nX)),.g,.g,.i,.l (qf (rcd nY nZ nAB)),.c (iV nBB) Z,.b true,.g,.g,.cut 148 (wF (some ar) ag ah aI aU aB ao true true kA aH false aX) [vH (some ar) ag ah aI aU aB ao true true kA aH false P1,vG (some ar) ag ah aI aU aB ao true true kA aH false Pn]] (an3 (xK u1) (zR u2) (w64 u3) (an6 u4 h1 u5 h2 h3 (zR u6) (ai (ai tt (ai (arf (wF (some ar) ag ah aI aU aB ao true true kA aH false aX)) hL)) (ai (kz1 k1) (ai (kz1 kn) trivial)))))
theorem xFK (h1:lz Z 45 (zL ar (Int.toNat (aX-1)*3)) (qf (rcd nDB nEB nX))) (h2:lz Z 45 (zL ar (Int.toNat aH*3)) (qf (rcd nY nZ nAB))) (h3:qm aB (qf (rcd nDB nEB nX)::(qf (rcd nY nZ nAB))::ao) Z (iV nBB) Z) (hL:uN (some ar) ag ah aI aU aB ao true true kA aH true aX Z P1 Pn) (k1:∀ i1_4' Z',P1 i1_4' Z'->wX (some ar) ag ah aI aU aB ao true true kA aH true i1_4' Z' Nx Qr) (kn:∀ i1_4' Z',Pn i1_4' Z'->wI (some ar) ag ah aI aU aB ao true true kA aH true i1_4' Z' Nx Qr) (u1:¬ dB=1:=by omega) (u2:0<aX:=by omega) (u3:I6 (aX-1):=by omega) (u4:Ix (aX-1) ag:=by omega) (u5:Ix aH ag:=by omega) (u6:¬ nBB<0:=by omega):wB (some ar) ag ah aX aI aU aB ao true true kA eG aH dB Z Nx Qr :=
 sK [.g,.g,.g,.g,.g,.g,.b false,.g,.g,.b true,.g,.g,.g,.g,.n (aX-1),.i,.l (qf (rcd nDB nEB nX)),.g,.g,.i,.l (qf (rcd nY nZ nAB)),.c (iV nBB) Z,.b false,.g,.g,.cut 148 (wF (some ar) ag ah aI aU aB ao true true kA aH true aX) [vH (some ar) ag ah aI aU aB ao true true kA aH true P1,vG (some ar) ag ah aI aU aB ao true true kA aH true Pn]] (an3 (xK u1) (zR u2) (w64 u3) (an6 u4 h1 u5 h2 h3 (zT u6) (ai (ai tt (ai (arf (wF (some ar) ag ah aI aU aB ao true true kA aH true aX)) hL)) (ai (kz1 k1) (ai (kz1 kn) trivial)))))
theorem xFJ (hL:uN data ag ah aI aU aB ao true true kA aH false aX Z P1 Pn) (k1:∀ i1_4' Z',P1 i1_4' Z'->wX data ag ah aI aU aB ao true true kA aH false i1_4' Z' Nx Qr) (kn:∀ i1_4' Z',Pn i1_4' Z'->wI data ag ah aI aU aB ao true true kA aH false i1_4' Z' Nx Qr) (u1:¬ dB=1:=by omega) (u2:¬ 0<aX:=by omega):wB data ag ah aX aI aU aB ao true true kA eG aH dB Z Nx Qr :=
 sK [.g,.g,.g,.g,.g,.g,.b false,.g,.g,.b false,.g,.g,.cut 148 (wF data ag ah aI aU aB ao true true kA aH false aX) [vH data ag ah aI aU aB ao true true kA aH false P1,vG data ag ah aI aU aB ao true true kA aH false Pn]] (an2 (xK u1) (zT u2) (ai (ai tt (ai (arf (wF data ag ah aI aU aB ao true true kA aH false aX)) hL)) (ai (kz1 k1) (ai (kz1 kn) trivial))))
theorem xFI (h1:lz Z 45 (zL ar (Int.toNat (aX-1)*3)) (qf (rcd nDB nEB nX))) (h2:lz Z 45 (zL ar (Int.toNat aH*3)) (qf (rcd nY nZ nAB))) (h3:qm aB (qf (rcd nDB nEB nX)::(qf (rcd nY nZ nAB))::ao) Z (iV nBB) Z) (hL:uN (some ar) ag ah aI aU aB ao true false kA aH false aX Z P1 Pn) (k1:∀ i1_4' Z',P1 i1_4' Z'->wX (some ar) ag ah aI aU aB ao true false kA aH false i1_4' Z' Nx Qr) (kn:∀ i1_4' Z',Pn i1_4' Z'->wI (some ar) ag ah aI aU aB ao true false kA aH false i1_4' Z' Nx Qr) (u1:0<aX:=by omega) (u2:I6 (aX-1):=by omega) (u3:Ix (aX-1) ag:=by omega) (u4:Ix aH ag:=by omega) (u5:nBB<0:=by omega):wB (some ar) ag ah aX aI aU aB ao true false kA eG aH dB Z Nx Qr :=
 sK [.g,.g,.g,.g,.g,.g,.g,.b true,.g,.g,.g,.g,.n (aX-1),.i,.l (qf (rcd nDB nEB nX)),.g,.g,.i,.l (qf (rcd nY nZ nAB)),.c (iV nBB) Z,.b true,.g,.g,.cut 148 (wF (some ar) ag ah aI aU aB ao true false kA aH false aX) [vH (some ar) ag ah aI aU aB ao true false kA aH false P1,vG (some ar) ag ah aI aU aB ao true false kA aH false Pn]] (an2 (zR u1) (w64 u2) (an6 u3 h1 u4 h2 h3 (zR u5) (ai (ai tt (ai (arf (wF (some ar) ag ah aI aU aB ao true false kA aH false aX)) hL)) (ai (kz1 k1) (ai (kz1 kn) trivial)))))
theorem xFH (h1:lz Z 45 (zL ar (Int.toNat (aX-1)*3)) (qf (rcd nDB nEB nX))) (h2:lz Z 45 (zL ar (Int.toNat aH*3)) (qf (rcd nY nZ nAB))) (h3:qm aB (qf (rcd nDB nEB nX)::(qf (rcd nY nZ nAB))::ao) Z (iV nBB) Z) (hL:uN (some ar) ag ah aI aU aB ao true false kA aH true aX Z P1 Pn) (k1:∀ i1_4' Z',P1 i1_4' Z'->wX (some ar) ag ah aI aU aB ao true false kA aH true i1_4' Z' Nx Qr) (kn:∀ i1_4' Z',Pn i1_4' Z'->wI (some ar) ag ah aI aU aB ao true false kA aH true i1_4' Z' Nx Qr) (u1:0<aX:=by omega) (u2:I6 (aX-1):=by omega) (u3:Ix (aX-1) ag:=by omega) (u4:Ix aH ag:=by omega) (u5:¬ nBB<0:=by omega):wB (some ar) ag ah aX aI aU aB ao true false kA eG aH dB Z Nx Qr :=
 sK [.g,.g,.g,.g,.g,.g,.g,.b true,.g,.g,.g,.g,.n (aX-1),.i,.l (qf (rcd nDB nEB nX)),.g,.g,.i,.l (qf (rcd nY nZ nAB)),.c (iV nBB) Z,.b false,.g,.g,.cut 148 (wF (some ar) ag ah aI aU aB ao true false kA aH true aX) [vH (some ar) ag ah aI aU aB ao true false kA aH true P1,vG (some ar) ag ah aI aU aB ao true false kA aH true Pn]] (an2 (zR u1) (w64 u2) (an6 u3 h1 u4 h2 h3 (zT u5) (ai (ai tt (ai (arf (wF (some ar) ag ah aI aU aB ao true false kA aH true aX)) hL)) (ai (kz1 k1) (ai (kz1 kn) trivial)))))
theorem xFG (hL:uN data ag ah aI aU aB ao true false kA aH false aX Z P1 Pn) (k1:∀ i1_4' Z',P1 i1_4' Z'->wX data ag ah aI aU aB ao true false kA aH false i1_4' Z' Nx Qr) (kn:∀ i1_4' Z',Pn i1_4' Z'->wI data ag ah aI aU aB ao true false kA aH false i1_4' Z' Nx Qr) (u1:¬ 0<aX:=by omega):wB data ag ah aX aI aU aB ao true false kA eG aH dB Z Nx Qr :=
 sK [.g,.g,.g,.g,.g,.g,.g,.b false,.g,.g,.cut 148 (wF data ag ah aI aU aB ao true false kA aH false aX) [vH data ag ah aI aU aB ao true false kA aH false P1,vG data ag ah aI aU aB ao true false kA aH false Pn]] (ai (zT u1) (ai (ai tt (ai (arf (wF data ag ah aI aU aB ao true false kA aH false aX)) hL)) (ai (kz1 k1) (ai (kz1 kn) trivial))))
theorem xFF (h1:lz Z 45 (zL ar (Int.toNat (aX-1)*3)) (qf (rcd nDB nEB nX))) (h2:lz Z 45 (zL ar (Int.toNat aH*3)) (qf (rcd nY nZ nAB))) (h3:qm aB (qf (rcd nDB nEB nX)::(qf (rcd nY nZ nAB))::ao) Z (iV nBB) Z) (hL:uN (some ar) ag ah aI aU aB ao false bu kA aH false aX Z P1 Pn) (k1:∀ i1_4' Z',P1 i1_4' Z'->wX (some ar) ag ah aI aU aB ao false bu kA aH false i1_4' Z' Nx Qr) (kn:∀ i1_4' Z',Pn i1_4' Z'->wI (some ar) ag ah aI aU aB ao false bu kA aH false i1_4' Z' Nx Qr) (u1:0<aX:=by omega) (u2:I6 (aX-1):=by omega) (u3:Ix (aX-1) ag:=by omega) (u4:Ix aH ag:=by omega) (u5:nBB<0:=by omega):wB (some ar) ag ah aX aI aU aB ao false bu kA eG aH dB Z Nx Qr :=
 sK [.g,.g,.g,.g,.g,.g,.b true,.g,.g,.g,.g,.n (aX-1),.i,.l (qf (rcd nDB nEB nX)),.g,.g,.i,.l (qf (rcd nY nZ nAB)),.c (iV nBB) Z,.b true,.g,.g,.cut 148 (wF (some ar) ag ah aI aU aB ao false bu kA aH false aX) [vH (some ar) ag ah aI aU aB ao false bu kA aH false P1,vG (some ar) ag ah aI aU aB ao false bu kA aH false Pn]] (an2 (zR u1) (w64 u2) (an6 u3 h1 u4 h2 h3 (zR u5) (ai (ai tt (ai (arf (wF (some ar) ag ah aI aU aB ao false bu kA aH false aX)) hL)) (ai (kz1 k1) (ai (kz1 kn) trivial)))))
theorem xFE (h1:lz Z 45 (zL ar (Int.toNat (aX-1)*3)) (qf (rcd nDB nEB nX))) (h2:lz Z 45 (zL ar (Int.toNat aH*3)) (qf (rcd nY nZ nAB))) (h3:qm aB (qf (rcd nDB nEB nX)::(qf (rcd nY nZ nAB))::ao) Z (iV nBB) Z) (hL:uN (some ar) ag ah aI aU aB ao false bu kA aH true aX Z P1 Pn) (k1:∀ i1_4' Z',P1 i1_4' Z'->wX (some ar) ag ah aI aU aB ao false bu kA aH true i1_4' Z' Nx Qr) (kn:∀ i1_4' Z',Pn i1_4' Z'->wI (some ar) ag ah aI aU aB ao false bu kA aH true i1_4' Z' Nx Qr) (u1:0<aX:=by omega) (u2:I6 (aX-1):=by omega) (u3:Ix (aX-1) ag:=by omega) (u4:Ix aH ag:=by omega) (u5:¬ nBB<0:=by omega):wB (some ar) ag ah aX aI aU aB ao false bu kA eG aH dB Z Nx Qr :=
 sK [.g,.g,.g,.g,.g,.g,.b true,.g,.g,.g,.g,.n (aX-1),.i,.l (qf (rcd nDB nEB nX)),.g,.g,.i,.l (qf (rcd nY nZ nAB)),.c (iV nBB) Z,.b false,.g,.g,.cut 148 (wF (some ar) ag ah aI aU aB ao false bu kA aH true aX) [vH (some ar) ag ah aI aU aB ao false bu kA aH true P1,vG (some ar) ag ah aI aU aB ao false bu kA aH true Pn]] (an2 (zR u1) (w64 u2) (an6 u3 h1 u4 h2 h3 (zT u5) (ai (ai tt (ai (arf (wF (some ar) ag ah aI aU aB ao false bu kA aH true aX)) hL)) (ai (kz1 k1) (ai (kz1 kn) trivial)))))
theorem xFD (hL:uN data ag ah aI aU aB ao false bu kA aH false aX Z P1 Pn) (k1:∀ i1_4' Z',P1 i1_4' Z'->wX data ag ah aI aU aB ao false bu kA aH false i1_4' Z' Nx Qr) (kn:∀ i1_4' Z',Pn i1_4' Z'->wI data ag ah aI aU aB ao false bu kA aH false i1_4' Z' Nx Qr) (u1:¬ 0<aX:=by omega):wB data ag ah aX aI aU aB ao false bu kA eG aH dB Z Nx Qr :=
 sK [.g,.g,.g,.g,.g,.g,.b false,.g,.g,.cut 148 (wF data ag ah aI aU aB ao false bu kA aH false aX) [vH data ag ah aI aU aB ao false bu kA aH false P1,vG data ag ah aI aU aB ao false bu kA aH false Pn]] (ai (zT u1) (ai (ai tt (ai (arf (wF data ag ah aI aU aB ao false bu kA aH false aX)) hL)) (ai (kz1 k1) (ai (kz1 kn) trivial))))
theorem xFC (nx:Nx dV aI aU eF eE Z):wX data ag ah aI aU aB ao eF eE kA aH eN dV Z Nx Qr :=
 sF 0 (dV,aI,aU,eF,eE) [] (fun _ f=>f) nx
theorem xSY {Qn:Int->Int->Bool->St->Prop} (h1:qm 97 [.slice data ag ah,iV fu,iV nL,iV aU,.func (.func aB) ⟨[]⟩ ⟨ao⟩] Z (.tuple ⟨[]⟩) ZJ) (nx:Qn (nL+1) ft true ZJ) (u1:kC<=kD:=by omega) (u2:I6 (nL+1):=by omega):zRP data ag ah aU aB ao bA nL kD kE kC true fu ft Z Qn :=
 kO 0 (nL+1,ft,true) [.g,.g,.b true,.g,.g,.g,.g,.g,.g,.c (.tuple ⟨[]⟩) ZJ,.g,.n (nL+1),.g] (fun _ f=>an3 (yE u1) h1 (w64 u2) f) nx
theorem xSX {Qn:Int->Int->Bool->St->Prop} (h1:qm 97 [.slice data ag ah,iV fu,iV nL,iV aU,.func (.func aB) ⟨[]⟩ ⟨ao⟩] Z (.tuple ⟨[]⟩) ZJ) (nx:Qn (nL+1) ft false ZJ) (u1:¬ kC<=kD:=by omega) (u2:I6 (nL+1):=by omega):zRP data ag ah aU aB ao bA nL kD kE kC true fu ft Z Qn :=
 kO 0 (nL+1,ft,false) [.g,.g,.b false,.g,.g,.g,.g,.g,.g,.c (.tuple ⟨[]⟩) ZJ,.g,.n (nL+1),.g] (fun _ f=>an3 (yG u1) h1 (w64 u2) f) nx
theorem xSW {Qn:Int->Int->Bool->St->Prop} (h1:qm 97 [.slice data ag ah,iV (nL+1),iV ft,iV aU,.func (.func aB) ⟨[]⟩ ⟨ao⟩] Z (.tuple ⟨[]⟩) ZJ) (nx:Qn fu nL true ZJ) (u1:kC<=kE:=by omega) (u2:I6 (nL+1):=by omega):zRP data ag ah aU aB ao bA nL kD kE kC false fu ft Z Qn :=
 kO 0 (fu,nL,true) [.g,.g,.b true,.g,.g,.g,.n (nL+1),.g,.g,.g,.c (.tuple ⟨[]⟩) ZJ,.g,.g] (fun _ f=>an3 (yE u1) (w64 u2) h1 f) nx
theorem xSV {Qn:Int->Int->Bool->St->Prop} (h1:qm 97 [.slice data ag ah,iV (nL+1),iV ft,iV aU,.func (.func aB) ⟨[]⟩ ⟨ao⟩] Z (.tuple ⟨[]⟩) ZJ) (nx:Qn fu nL false ZJ) (u1:¬ kC<=kE:=by omega) (u2:I6 (nL+1):=by omega):zRP data ag ah aU aB ao bA nL kD kE kC false fu ft Z Qn :=
 kO 0 (fu,nL,false) [.g,.g,.b false,.g,.g,.g,.n (nL+1),.g,.g,.g,.c (.tuple ⟨[]⟩) ZJ,.g,.g] (fun _ f=>an3 (yG u1) (w64 u2) h1 f) nx
theorem xFB {Pn:Int->Int->Bool->St->Prop} (h1:qm 113 [.slice data ag ah,iV dV,iV aI,iV aH,.func (.func aB) ⟨[]⟩ ⟨ao⟩] Z (.tuple ⟨[iV nL,.bool bA]⟩) ZY) (h2:IntKind.wrap .i64 (Int.tdiv kA 8)=Int.tdiv kA 8) (hL:zRP data ag ah aU aB ao bA nL (nL-dV) (aI-nL) (Int.tdiv kA 8) true dV aI ZY Pn) (kn:∀ i1_5' i2_5' t10_5' Z',Pn i1_5' i2_5' t10_5' Z'->zYX data ag ah aU aB ao bA nL (nL-dV) (aI-nL) (Int.tdiv kA 8) true i1_5' i2_5' t10_5' Z' Nx Qr) (u1:I6 (nL-dV):=by omega) (u2:I6 (aI-nL):=by omega) (u3:(nL-dV)<(aI-nL):=by omega):wI data ag ah aI aU aB ao eF eE kA aH eN dV Z Nx Qr :=
 let s1:=yVG data ag ah aU aB ao bA nL (nL-dV) (aI-nL) (Int.tdiv kA 8) true dV aI;sK [.g,.g,.g,.g,.g,.c (.tuple ⟨[iV nL,.bool bA]⟩) ZY,.g,.g,.g,.g,.g,.g,.g,.g,.g,.n (nL-dV),.g,.g,.n (aI-nL),.g,.g,.g,.n (Int.tdiv kA 8),.g,.g,.g,.b true,.cut 148 s1 [zYU data ag ah aU aB ao bA nL (nL-dV) (aI-nL) (Int.tdiv kA 8) true Pn]] (an5 h1 (w64 u1) (w64 u2) h2 (zR u3) (ai (ai tt (ai (arf s1) hL)) (ai (kz3 kn) trivial)))
theorem xFA {Pn:Int->Int->Bool->St->Prop} (h1:qm 113 [.slice data ag ah,iV dV,iV aI,iV aH,.func (.func aB) ⟨[]⟩ ⟨ao⟩] Z (.tuple ⟨[iV nL,.bool bA]⟩) ZY) (h2:IntKind.wrap .i64 (Int.tdiv kA 8)=Int.tdiv kA 8) (hL:zRP data ag ah aU aB ao bA nL (nL-dV) (aI-nL) (Int.tdiv kA 8) false dV aI ZY Pn) (kn:∀ i1_5' i2_5' t10_5' Z',Pn i1_5' i2_5' t10_5' Z'->zYX data ag ah aU aB ao bA nL (nL-dV) (aI-nL) (Int.tdiv kA 8) false i1_5' i2_5' t10_5' Z' Nx Qr) (u1:I6 (nL-dV):=by omega) (u2:I6 (aI-nL):=by omega) (u3:¬ (nL-dV)<(aI-nL):=by omega):wI data ag ah aI aU aB ao eF eE kA aH eN dV Z Nx Qr :=
 let s1:=yVG data ag ah aU aB ao bA nL (nL-dV) (aI-nL) (Int.tdiv kA 8) false dV aI;sK [.g,.g,.g,.g,.g,.c (.tuple ⟨[iV nL,.bool bA]⟩) ZY,.g,.g,.g,.g,.g,.g,.g,.g,.g,.n (nL-dV),.g,.g,.n (aI-nL),.g,.g,.g,.n (Int.tdiv kA 8),.g,.g,.g,.b false,.cut 148 s1 [zYU data ag ah aU aB ao bA nL (nL-dV) (aI-nL) (Int.tdiv kA 8) false Pn]] (an5 h1 (w64 u1) (w64 u2) h2 (zT u3) (ai (ai tt (ai (arf s1) hL)) (ai (kz3 kn) trivial)))
theorem yEN (nx:Nx fu ft aU t10_5 bA Z):zYX data ag ah aU aB ao bA nL kD kE kC fi fu ft t10_5 Z Nx Qr :=
 sF 0 (fu,ft,aU,t10_5,bA) [] (fun _ f=>f) nx
theorem xLD (hL:xLE data ag ah aB ao a_1 b limit true true Z Pr) (kr:∀ Z',Pr Z'->yNZ data ag ah aB ao Z' Q):qg 97 [.slice data ag ah,iV a_1,iV b,iV limit,.func (.func aB) ⟨[]⟩ ⟨ao⟩] Z Q :=
 zH [.g,.g,.lf 148 (zYT data ag ah aB ao a_1 b limit true true) [zCF data ag ah aB ao Pr]] (kd (ai (ai tt (ai (arf (zYT data ag ah aB ao a_1 b limit true true)) hL)) (ai (kz0 kr) trivial)))
theorem yEP (nx:Q (.tuple ⟨[]⟩) Z):yNZ data ag ah aB ao Z Q :=
 sK [] nx
theorem yMD (h1:zAD .u64 ((x_l:Int))=z1) (h2:qm 98 [.int .u64 z1] Z (iV n2) Z) (h3:qm 97 [.slice x x_l x_c,iV 0,iV (x_l:Int),iV n2,.func (.func aB) ⟨[]⟩ ⟨ao⟩] Z (.tuple ⟨[]⟩) Z3) (nx:Q (.tuple ⟨[]⟩) Z3):qg 78 [.slice x x_l x_c,.func (.func aB) ⟨[]⟩ ⟨ao⟩] Z Q :=
 zH [.g,.g,.g,.g,.g,.g,.n z1,.c (iV n2) Z,.g,.c (.tuple ⟨[]⟩) Z3] (kd (an3 h1 h2 h3 nx))
end
section
open Go.Sort (swp PermIn SortedIn Below SWO)
theorem xR.perm {V:Rec->Prop} {d d':Array Rec} {a B:Nat} (h:xR V d) (hB:B<=d.size) (hp:PermIn a B d d'):xR V d':=by
 intro i hi;rw [hp.1] at hi;by_cases hr:a<=i/\i<B
 ·exact Go.Sort.permIn_all d d' a B V hB hp (fun j h1 h2=>h j (by omega)) i hr.1 hr.2
 ·rw [hp.2.1 i (by omega)];exact h i hi
section
variable {b c:Nat} {s:Option Nat} {g:FuncId} {gc:List Value} {lt:Rec->Rec->Bool} {V:Rec->Prop}
theorem wAA (hS:SWO lt) (hc:Cmp g gc lt V):∀ (n:Nat) (Z:St) (d:Array Rec) (a B:Nat) (limit:Int),B-a<=n->Dt Z b s d->xR V d->a<=B->B<=d.size->d.size<=60000->Below lt a B d->0<=limit/\limit<=100 ->
  ∃ d',PermIn a B d d'/\SortedIn lt a B d'/\uI 97 [.slice (some ⟨b,0,s⟩) d.size c,iV (a:Int),iV (B:Int),iV limit,.func (.func g) ⟨[]⟩ ⟨gc⟩] (.tuple ⟨[]⟩) Z b s d d':=by
 intro n;induction n using Nat.strongRecOn with
 | _ n ih =>
 intro Z d a B limit hn hd hv ha hB hsz hbel hlim;suffices hmain:zO Tryz.prog 97 [.slice (some ⟨b,0,s⟩) d.size c,iV (a:Int),iV (B:Int),iV limit,.func (.func g) ⟨[]⟩ ⟨gc⟩] Z.re fun v τ=>v=.tuple ⟨[]⟩/\∃ d',W Z τ b s d d'/\PermIn a B d d'/\SortedIn lt a B d' by
  obtain ⟨v,τ,hN,e,d',w,r1,r2⟩:=hmain
  exact ⟨d',r1,r2,uI.of hd ⟨v,τ,hN,e,w⟩⟩
 refine xLD (Pr:=fun τ=>∃ d',W Z τ b s d d'/\PermIn a B d d'/\SortedIn lt a B d') (yEQ (Inv:=fun k i1 i2 i3 t10 t11 τ=>∃ (p q:Nat) (dk:Array Rec),i1=p/\i2=q/\k=q-p/\a<=p/\p<=q/\q<=B/\(0<=i3/\i3<=100)/\W Z τ b s d dk/\dk.size=d.size/\xR V dk/\Below lt p q dk/\(∀ R,PermIn p q dk R->SortedIn lt p q R->PermIn a B d R/\SortedIn lt a B R)) ?_ (B-a) _ _ _ _ _ Z.re ⟨a,B,d,rfl,rfl,rfl,Nat.le_refl _,ha,Nat.le_refl _,hlim,W.start hd,rfl,hv,hbel,fun R h1 h2=>⟨h1,h2⟩⟩) (fun τ h=>yEP ⟨rfl,h⟩);rintro k i1 i2 i3 t10 t11 τ ⟨p,q,dk,rfl,rfl,hk,hap,hpq,hqB,hi3,w,hdk,hall,hbk,hJ⟩;suffices hgo:∀ (NX:Int->Int->Int->Bool->Bool->St->Prop) (QR:St->Prop),(∀ (p' q':Nat) (dk':Array Rec) (i3':Int) (t10' t11':Bool) (τ':St),q' - p' < k->a<=p'->p'<=q'->q'<=B->(0<=i3'/\i3'<=100)->W Z τ' b s d dk'->dk'.size=d.size->xR V dk'->Below lt p' q' dk'->(∀ R,PermIn p' q' dk' R->SortedIn lt p' q' R->PermIn a B d R/\SortedIn lt a B R)->NX (p':Int) (q':Int) i3' t10' t11' τ') ->
   (∀ (τ':St) (d':Array Rec),W Z τ' b s d d'->PermIn a B d d'/\SortedIn lt a B d'->QR τ')->zRQ (some ⟨b,0,s⟩) d.size c g gc (p:Int) (q:Int) i3 t10 t11 τ NX QR from
  hgo _ _ (fun p' q' dk' i3' t10' t11' τ' h1 h2 h3 h4 h5 h6 h7 h8 h9 h10=>⟨q' - p',h1,p',q',dk',rfl,rfl,rfl,h2,h3,h4,h5,h6,h7,h8,h9,h10⟩) (fun τ' d' h1 h2=>⟨d',h1,h2.1,h2.2⟩)
 intro NX QR hNX hQR;have hqs:q<=dk.size:=by omega
 by_cases h12:q-p<=12
 ·have hins:=Go.Sort.insertionSort_holds (lt:=lt) hS dk p q hpq hqs;obtain ⟨τ',k1,w1⟩:=w.call (xYN (c:=c) (a:=p) (B:=q) w.dt hc hall hqs (by omega) (by omega));rw [hdk] at k1;exact xAY k1 (hQR _ _ w1 (hJ _ hins.1 hins.2)) (by omega) (by omega)
 by_cases h0:i3=0
 ·have hheap:=Go.Sort.heapSort_holds (lt:=lt) hS dk p q hpq hqs;obtain ⟨τ',k1,w1⟩:=w.call (xUM (c:=c) (a:=p) (B:=q) w.dt hc hall hpq hqs (by omega));rw [hdk] at k1;exact xTH k1 (hQR _ _ w1 (hJ _ hheap.1 hheap.2)) (by omega) (by omega) h0
 have k8:IntKind.wrap .i64 (Int.tdiv ((q:Int)-(p:Int)) 8)=Int.tdiv ((q:Int)-(p:Int)) 8:=by
  have e8:Int.tdiv ((q:Int)-(p:Int)) 8=(((q-p) / 8:Nat):Int):=by rw [Int.tdiv_eq_ediv_of_nonneg (by omega)];omega
  rw [<- vU,e8,zXE (by omega) (by omega)]
 have stepN:∀ (i3':Int) (t10 t11:Bool) (x:Nat) (h97:Bool) (d3:Array Rec) (τ3:St),(0<=i3'/\i3'<=100)->p<=x->x<q->W Z τ3 b s d d3->PermIn p q dk d3->xR V d3 ->
   wI (some ⟨b,0,s⟩) d.size c (q:Int) i3' g gc t10 t11 ((q:Int)-(p:Int)) (x:Int) h97 (p:Int) τ3 NX QR:=by
  intro i3' t10 t11 x h97 d3 τ3 hi3' hx1 hx2 w3 hp3 hall3
  have hd3:d3.size=d.size:=by rw [hp3.1,hdk]
  have hq3:q<=d3.size:=by omega
  have hb3:Below lt p q d3:=Go.Sort.Below.permA Go.Sort.permIn_all hqs hbk hp3
  have hJ3:∀ R,PermIn p q d3 R->SortedIn lt p q R->PermIn a B d R/\SortedIn lt a B R:=fun R h1 h2=>hJ R (Go.Sort.permIn_trans _ _ _ p q hp3 h1) h2
  obtain ⟨mid,hmid⟩:∃ mid,mid=(Go.Sort.partition lt d3 p q x).1:=⟨_,rfl⟩
  obtain ⟨ap,hap'⟩:∃ ap,ap=(Go.Sort.partition lt d3 p q x).2.1:=⟨_,rfl⟩
  obtain ⟨d4,hd4⟩:∃ d4,d4=(Go.Sort.partition lt d3 p q x).2.2:=⟨_,rfl⟩
  have hpt:Go.Sort.partition lt d3 p q x=(mid,ap,d4):=by rw [hmid,hap',hd4]
  obtain ⟨m1,m2,m3,m4,m5,m6,m7⟩:=Go.Sort.round_part hS (Go.Sort.partition_holds lt) hx1 hx2 hq3 hb3 hpt
  have hpc:=xYB (c:=c) w3.dt hc hall3 hx1 hx2 hq3 (by omega)
  rw [<- hmid,<- hap',<- hd4] at hpc
  obtain ⟨τ4,kp,w4⟩:=w3.call hpc
  rw [hd3] at kp
  have hd4s:d4.size=d.size:=by omega
  have hall4:xR V d4:=by
   have:=(Go.Sort.partition_holds lt hS d3 p q x hx1 hx2 hq3).2.2.1;rw [hpt] at this;exact hall3.perm hq3 this
  by_cases hlr:mid-p<q-mid
  ·obtain ⟨L,hL1,hL2,hL3⟩:=ih (mid-p) (by omega) τ4 d4 p mid i3' (Nat.le_refl _) w4.dt hall4 m1 (by omega) (by omega) m4 hi3';obtain ⟨τ5,k5,w5⟩:=w4.call hL3;rw [hd4s] at k5;obtain ⟨n1,n2⟩:=m6 L hL1 hL2;have go:∀ t,NX ((mid:Int)+1) (q:Int) i3' t ap τ5:=fun t=>by
    rw [show (mid:Int)+1=((mid+1:Nat):Int) by omega];exact hNX _ _ L _ _ _ _ (by omega) (by omega) (by omega) hqB hi3' w5 (by rw [hL1.1,hd4s]) (hall4.perm (by omega) hL1) n1 (fun R h1 h2=>hJ3 R (n2 R h1 h2).1 (n2 R h1 h2).2)
   refine xFB kp k8 (Pn:=fun i1 i2 t τ'=>i1=(mid:Int)+1/\i2=(q:Int)/\τ'=τ5) ?_ (fun i1 i2 t τ' ⟨e1,e2,e3⟩=>by subst e1 e2 e3;exact yEN (go t)) (by omega);by_cases hT:Int.tdiv ((q:Int)-(p:Int)) 8<=(mid:Int)-(p:Int)
   ·exact xSY k5 ⟨rfl,rfl,rfl⟩ hT
   ·exact xSX k5 ⟨rfl,rfl,rfl⟩ hT
  ·obtain ⟨L,hL1,hL2,hL3⟩:=ih (q-(mid+1)) (by omega) τ4 d4 (mid+1) q i3' (Nat.le_refl _) w4.dt hall4 (by omega) (by omega) (by omega) m5 hi3';obtain ⟨τ5,k5,w5⟩:=w4.call hL3;rw [hd4s,show ((mid+1:Nat):Int)=(mid:Int)+1 by omega] at k5;obtain ⟨n1,n2⟩:=m7 L hL1 hL2;have go:∀ t,NX (p:Int) (mid:Int) i3' t ap τ5:=fun t=>hNX _ _ L _ _ _ _ (by omega) (by omega) (by omega) (by omega) hi3' w5 (by rw [hL1.1,hd4s]) (hall4.perm (by omega) hL1) n1 (fun R h1 h2=>hJ3 R (n2 R h1 h2).1 (n2 R h1 h2).2)
   refine xFA kp k8 (Pn:=fun i1 i2 t τ'=>i1=(p:Int)/\i2=(mid:Int)/\τ'=τ5) ?_ (fun i1 i2 t τ' ⟨e1,e2,e3⟩=>by subst e1 e2 e3;exact yEN (go t)) (by omega);by_cases hT:Int.tdiv ((q:Int)-(p:Int)) 8<=(q:Int)-(mid:Int)
   ·exact xSW k5 ⟨rfl,rfl,rfl⟩ hT
   ·exact xSV k5 ⟨rfl,rfl,rfl⟩ hT
 have stepE:∀ (i3':Int) (t10 t11:Bool) (x:Nat) (d3:Array Rec) (τ3:St),(0<=i3'/\i3'<=100)->p<=x->x<q->W Z τ3 b s d d3->PermIn p q dk d3->xR V d3->0<p->lt d3[p-1]! d3[x]! = false ->
   ∃ (me:Nat) (τ5:St),zD Tryz.prog 112 [.slice (some ⟨b,0,s⟩) d.size c,iV (p:Int),iV (q:Int),iV (x:Int),.func (.func g) ⟨[]⟩ ⟨gc⟩] τ3 (iV (me:Int)) τ5/\NX (me:Int) (q:Int) i3' t10 t11 τ5:=by
  intro i3' t10 t11 x d3 τ3 hi3' hx1 hx2 w3 hp3 hall3 hp0 hl
  have hd3:d3.size=d.size:=by rw [hp3.1,hdk]
  have hq3:q<=d3.size:=by omega
  have hb3:Below lt p q d3:=Go.Sort.Below.permA Go.Sort.permIn_all hqs hbk hp3
  have hJ3:∀ R,PermIn p q d3 R->SortedIn lt p q R->PermIn a B d R/\SortedIn lt a B R:=fun R h1 h2=>hJ R (Go.Sort.permIn_trans _ _ _ p q hp3 h1) h2
  obtain ⟨me,hme⟩:∃ me,me=(Go.Sort.partitionEqual lt d3 p q x).1:=⟨_,rfl⟩
  obtain ⟨de,hde⟩:∃ de,de=(Go.Sort.partitionEqual lt d3 p q x).2:=⟨_,rfl⟩
  have hpe:Go.Sort.partitionEqual lt d3 p q x=(me,de):=by rw [hme,hde]
  obtain ⟨e1,e2,e3,e4,e5⟩:=Go.Sort.round_eq hS (Go.Sort.partitionEqual_holds lt) hp0 hx1 hx2 hq3 hb3 hl hpe
  have hpc:=xMC (c:=c) w3.dt hc hall3 hx1 hx2 hq3 (by omega)
  rw [<- hme,<- hde] at hpc
  obtain ⟨τ5,k5,w5⟩:=w3.call hpc
  rw [hd3] at k5
  have hge:∀ i,p<=i->i<q->lt d3[i]! d3[x]! = false:=fun i hi hi'=>by
   rcases hb3 with h0 | hB'
   ·omega
   ·exact hS.ntrans _ _ _ (hB' i hi hi') hl
  have hperm:=(Go.Sort.partitionEqual_holds lt hS d3 p q x hx1 hx2 hq3 hge).2.2.1
  rw [hpe] at hperm
  exact ⟨me,τ5,k5,hNX _ _ de _ _ _ _ (by omega) (by omega) e2 hqB hi3' w5 (by omega) (hall3.perm hq3 hperm) e4 (fun R h1 h2=>hJ3 R (e5 R h1 h2).1 (e5 R h1 h2).2)⟩
 have stepK:∀ (i3':Int) (t10 t11 h56:Bool) (x:Nat) (i14:Int) (d2:Array Rec) (τ2:St),(0<=i3'/\i3'<=100)->p<=x->x<q->W Z τ2 b s d d2->PermIn p q dk d2->xR V d2 ->
   wB (some ⟨b,0,s⟩) d.size c (p:Int) (q:Int) i3' g gc t10 t11 ((q:Int)-(p:Int)) h56 (x:Int) i14 τ2 NX QR:=by
  intro i3' t10 t11 h56 x i14 d2 τ2 hi3' hx1 hx2 w2 hp2 hall2
  have hd2:d2.size=d.size:=by rw [hp2.1,hdk]
  have hq2:q<=d2.size:=by omega
  have hb2:Below lt p q d2:=Go.Sort.Below.permA Go.Sort.permIn_all hqs hbk hp2
  have out1:∀ (t10 t11 h97:Bool) (i1:Int) (τ':St),NX i1 (q:Int) i3' t10 t11 τ'->wX (some ⟨b,0,s⟩) d.size c (q:Int) i3' g gc t10 t11 ((q:Int)-(p:Int)) (x:Int) h97 i1 τ' NX QR:=fun t10 t11 h97 i1 τ' h=>xFC h
  have eq:∀ (t10 t11:Bool) (d3:Array Rec) (τ3:St),W Z τ3 b s d d3->PermIn p q dk d3->xR V d3->0<p->lt d3[p-1]! d3[x]! = false->uN (some ⟨b,0,s⟩) d.size c (q:Int) i3' g gc t10 t11 ((q:Int)-(p:Int)) (x:Int) true (p:Int) τ3 (fun i1 τ'=>NX i1 (q:Int) i3' t10 t11 τ') (fun i1 τ'=>i1=(p:Int)/\τ'=τ3):=by
   intro t10 t11 d3 τ3 w3 hp3 hall3 hp0 hl;obtain ⟨me,τ5,k5,h5⟩:=stepE i3' t10 t11 x d3 τ3 hi3' hx1 hx2 w3 hp3 hall3 hp0 hl;exact xTA k5 h5
  have nq:∀ (t10 t11:Bool) (τ3:St),uN (some ⟨b,0,s⟩) d.size c (q:Int) i3' g gc t10 t11 ((q:Int)-(p:Int)) (x:Int) false (p:Int) τ3 (fun i1 τ'=>NX i1 (q:Int) i3' t10 t11 τ') (fun i1 τ'=>i1=(p:Int)/\τ'=τ3):=fun t10 t11 τ3=>xSZ ⟨rfl,rfl⟩
  have outN:∀ (t10 t11 h97:Bool) (d3:Array Rec) (τ3:St),W Z τ3 b s d d3->PermIn p q dk d3->xR V d3->∀ (i1:Int) (τ':St),(i1=(p:Int)/\τ'=τ3)->wI (some ⟨b,0,s⟩) d.size c (q:Int) i3' g gc t10 t11 ((q:Int)-(p:Int)) (x:Int) h97 i1 τ' NX QR:=by
   rintro t10 t11 h97 d3 τ3 w3 hp3 hall3 i1 τ' ⟨rfl,rfl⟩;exact stepN i3' t10 t11 x h97 d3 _ hi3' hx1 hx2 w3 hp3 hall3
  have ldp:∀ (d3:Array Rec) (τ3:St),W Z τ3 b s d d3->d3.size=d.size->0<p->zB Tryz.prog τ3 45 (zL ⟨b,0,s⟩ (Int.toNat ((p:Int)-1)*3))=some (zEO d3[p-1]!):=fun d3 τ3 w3 hd3 hp0=>w3.dt.ldN (by omega) (by omega)
  have ldx:∀ (d3:Array Rec) (τ3:St),W Z τ3 b s d d3->d3.size=d.size->zB Tryz.prog τ3 45 (zL ⟨b,0,s⟩ (Int.toNat (x:Int)*3))=some (zEO d3[x]!):=fun d3 τ3 w3 hd3=>w3.dt.ldN rfl (by omega)
  by_cases hp0:0<p
  ·cases t10 with
   | false =>
    obtain ⟨m,cm,⟨g1,hl⟩ | ⟨g1,hl⟩⟩:=hc.at_ (τ:=τ2) hall2 (i:=p-1) (j:=x) (by omega) (by omega)
    ·exact xFF (ldp _ _ w2 hd2 hp0) (ldx _ _ w2 hd2) cm (nq _ _ _) (fun i1 τ' h=>out1 _ _ _ _ _ h) (outN _ _ _ _ _ w2 hp2 hall2)
    ·exact xFE (ldp _ _ w2 hd2 hp0) (ldx _ _ w2 hd2) cm (eq _ _ _ _ w2 hp2 hall2 hp0 hl) (fun i1 τ' h=>out1 _ _ _ _ _ h) (outN _ _ _ _ _ w2 hp2 hall2)
   | true =>
   cases t11 with
   | false =>
    obtain ⟨m,cm,⟨g1,hl⟩ | ⟨g1,hl⟩⟩:=hc.at_ (τ:=τ2) hall2 (i:=p-1) (j:=x) (by omega) (by omega)
    ·exact xFI (ldp _ _ w2 hd2 hp0) (ldx _ _ w2 hd2) cm (nq _ _ _) (fun i1 τ' h=>out1 _ _ _ _ _ h) (outN _ _ _ _ _ w2 hp2 hall2)
    ·exact xFH (ldp _ _ w2 hd2 hp0) (ldx _ _ w2 hd2) cm (eq _ _ _ _ w2 hp2 hall2 hp0 hl) (fun i1 τ' h=>out1 _ _ _ _ _ h) (outN _ _ _ _ _ w2 hp2 hall2)
   | true =>
   by_cases h14:i14=1;rotate_left
   ·obtain ⟨m,cm,⟨g1,hl⟩ | ⟨g1,hl⟩⟩:=hc.at_ (τ:=τ2) hall2 (i:=p-1) (j:=x) (by omega) (by omega)
    ·exact xFL (ldp _ _ w2 hd2 hp0) (ldx _ _ w2 hd2) cm (nq _ _ _) (fun i1 τ' h=>out1 _ _ _ _ _ h) (outN _ _ _ _ _ w2 hp2 hall2)
    ·exact xFK (ldp _ _ w2 hd2 hp0) (ldx _ _ w2 hd2) cm (eq _ _ _ _ w2 hp2 hall2 hp0 hl) (fun i1 τ' h=>out1 _ _ _ _ _ h) (outN _ _ _ _ _ w2 hp2 hall2)
   have hpi:=Go.Sort.partialInsertionSort_holds (lt:=lt) hS d2 p q (by omega) hq2 hb2;have hpc:=xBM (c:=c) (a:=p) (B:=q) w2.dt hc hall2 (by omega) hq2 (by omega);obtain ⟨R,hR⟩:∃ R,R=Go.Sort.partialInsertionSort lt d2 p q:=⟨_,rfl⟩;rw [<- hR] at hpi hpc;obtain ⟨τ3,k3,w3⟩:=w2.call hpc;rw [hd2] at k3;have hp3:=Go.Sort.permIn_trans _ _ _ p q hp2 hpi.1;have hall3:=hall2.perm hq2 hpi.1;have hd3:R.1.size=d.size:=by rw [hp3.1,hdk]
   cases hR2:R.2 with
   | true=>rw [hR2] at k3 hpi;exact yEO k3 (hQR _ _ w3 (hJ _ hp3 (hpi.2 rfl))) h14
   | false =>
    rw [hR2] at k3;obtain ⟨m,cm,⟨g1,hl⟩ | ⟨g1,hl⟩⟩:=hc.at_ (τ:=τ3) hall3 (i:=p-1) (j:=x) (by omega) (by omega)
    ·exact xFO k3 (ldp _ _ w3 hd3 hp0) (ldx _ _ w3 hd3) cm (nq _ _ _) (fun i1 τ' h=>out1 _ _ _ _ _ h) (outN _ _ _ _ _ w3 hp3 hall3)
    ·exact xFN k3 (ldp _ _ w3 hd3 hp0) (ldx _ _ w3 hd3) cm (eq _ _ _ _ w3 hp3 hall3 hp0 hl) (fun i1 τ' h=>out1 _ _ _ _ _ h) (outN _ _ _ _ _ w3 hp3 hall3)
  ·cases t10 with
   | false=>exact xFD (nq _ _ _) (fun i1 τ' h=>out1 _ _ _ _ _ h) (outN _ _ _ _ _ w2 hp2 hall2)
   | true =>
   cases t11 with
   | false=>exact xFG (nq _ _ _) (fun i1 τ' h=>out1 _ _ _ _ _ h) (outN _ _ _ _ _ w2 hp2 hall2)
   | true =>
   by_cases h14:i14=1;rotate_left
   ·exact xFJ (nq _ _ _) (fun i1 τ' h=>out1 _ _ _ _ _ h) (outN _ _ _ _ _ w2 hp2 hall2) h14
   have hpi:=Go.Sort.partialInsertionSort_holds (lt:=lt) hS d2 p q (by omega) hq2 hb2;have hpc:=xBM (c:=c) (a:=p) (B:=q) w2.dt hc hall2 (by omega) hq2 (by omega);obtain ⟨R,hR⟩:∃ R,R=Go.Sort.partialInsertionSort lt d2 p q:=⟨_,rfl⟩;rw [<- hR] at hpi hpc;obtain ⟨τ3,k3,w3⟩:=w2.call hpc;rw [hd2] at k3;have hp3:=Go.Sort.permIn_trans _ _ _ p q hp2 hpi.1;have hall3:=hall2.perm hq2 hpi.1;cases hR2:R.2 with
   | true=>rw [hR2] at k3 hpi;exact yEO k3 (hQR _ _ w3 (hJ _ hp3 (hpi.2 rfl))) h14
   | false =>
    rw [hR2] at k3;exact xFM k3 (nq _ _ _) (fun i1 τ' h=>out1 _ _ _ _ _ h) (outN _ _ _ _ _ w3 hp3 hall3) h14
 have stepP:∀ (i3':Int) (t10 t11 h39:Bool) (d1:Array Rec) (τ1:St),(0<=i3'/\i3'<=100)->W Z τ1 b s d d1->PermIn p q dk d1->xR V d1 ->
   zJS (some ⟨b,0,s⟩) d.size c (p:Int) (q:Int) g gc t10 t11 ((q:Int)-(p:Int)) h39 i3' τ1 NX QR:=by
  intro i3' t10 t11 h39 d1 τ1 hi3' w1 hp1 hall1
  have hd1:d1.size=d.size:=by rw [hp1.1,hdk]
  have hq1:q<=d1.size:=by omega
  obtain ⟨x,kk,hx1,hx2,kc⟩:=xHY (c:=c) (a:=p) (B:=q) w1.dt hc hall1 (by omega) hq1 (by omega)
  rw [hd1] at kc
  have go:∀ (i13 i14:Int) (h56:Bool) (τ2:St),(∃ (x:Nat) (d2:Array Rec),i13=x/\p<=x/\x<q/\W Z τ2 b s d d2/\PermIn p q dk d2/\xR V d2)->wB (some ⟨b,0,s⟩) d.size c (p:Int) (q:Int) i3' g gc t10 t11 ((q:Int)-(p:Int)) h56 i13 i14 τ2 NX QR:=by
   rintro i13 i14 h56 τ2 ⟨x,d2,rfl,hx1,hx2,w2,hp2,hall2⟩;exact stepK _ _ _ _ _ _ _ _ hi3' hx1 hx2 w2 hp2 hall2
  by_cases hk2:kk=2
  ·have hrev:=Go.Sort.reverseRange_holds (α:=Rec) d1 p q hpq hq1;obtain ⟨τ2,k2,w2⟩:=w1.call (xXO (c:=c) (g:=g) (gc:=gc) (a:=p) (B:=q) w1.dt hall1 (by omega) hq1 (by omega));rw [hd1] at k2;exact xFQ kc (Pn:=fun i13 i14 τ2=>∃ (x:Nat) (d2:Array Rec),i13=x/\p<=x/\x<q/\W Z τ2 b s d d2/\PermIn p q dk d2/\xR V d2) (xTC k2 ⟨(q-1)-(x-p),_,by omega,by omega,by omega,w2,Go.Sort.permIn_trans _ _ _ p q hp1 hrev,hall1.perm hq1 hrev⟩ (by omega) (by omega) (by omega)) (fun i13 i14 τ2 h=>go _ _ _ _ h) hk2
  ·exact xFP kc (Pn:=fun i13 i14 τ2=>∃ (x:Nat) (d2:Array Rec),i13=x/\p<=x/\x<q/\W Z τ2 b s d d2/\PermIn p q dk d2/\xR V d2) (xTB ⟨x,d1,rfl,hx1,hx2,w1,hp1,hall1⟩) (fun i13 i14 τ2 h=>go _ _ _ _ h) hk2
 cases t10 with
 | true=>exact xTG (Pn:=fun i3' τ'=>(0<=i3'/\i3'<=100)/\∃ d1,W Z τ' b s d d1/\PermIn p q dk d1/\xR V d1) (xTD ⟨hi3,dk,w,Go.Sort.permIn_refl _ _ _,hall⟩) (fun i3' τ' ⟨h1,d1,h2,h3,h4⟩=>stepP _ _ _ _ _ _ h1 h2 h3 h4) (by omega) (by omega) h0
 | false =>
  obtain ⟨d1,hp1,hall1,hs1⟩:=xPY (c:=c) (g:=g) (gc:=gc) (a:=p) (B:=q) w.dt hpq hqs (by omega) hall;obtain ⟨τ1,k1,w1⟩:=w.call hs1;rw [hdk] at k1;exact xTF (Pn:=fun i3' τ'=>(0<=i3'/\i3'<=100)/\∃ d1,W Z τ' b s d d1/\PermIn p q dk d1/\xR V d1) (xTE k1 ⟨by omega,d1,w1,hp1,hall1⟩ (by omega)) (fun i3' τ' ⟨h1,d1,h2,h3,h4⟩=>stepP _ _ _ _ _ _ h1 h2 h3 h4) (by omega) (by omega) h0
end
end
section
open Go.Sort (swp PermIn SortedIn Below SWO)
section
variable {Z:St} {b c:Nat} {s:Option Nat} {d:Array Rec} {g:FuncId} {gc:List Value} {lt:Rec->Rec->Bool} {V:Rec->Prop}
theorem xSA (hS:SWO lt) (hc:Cmp g gc lt V) (hd:Dt Z b s d) (hv:xR V d) (hsz:d.size<=60000) :
  ∃ d',PermIn 0 d.size d d'/\SortedIn lt 0 d.size d'/\uI 78 [.slice (some ⟨b,0,s⟩) d.size c,.func (.func g) ⟨[]⟩ ⟨gc⟩] (.tuple ⟨[]⟩) Z b s d d':=by
 obtain ⟨n,n1,n2,n3⟩:=yZQ (Z:=Z.re) (x:=d.size) (by omega);obtain ⟨d',p1,p2,p3⟩:=wAA (c:=c) (s:=s) hS hc d.size Z.re d 0 d.size (n:Int) (by omega) hd hv (Nat.zero_le _) (Nat.le_refl _) hsz (.inl rfl) (by omega);have w0:W Z Z.re b s d d:=W.start hd;obtain ⟨τ',k1,w1⟩:=w0.call p3;exact ⟨d',p1,p2,uI.of hd (yMD (z1:=(d.size:Int)) (by rw [zXD];omega) n3 k1 ⟨rfl,w1⟩)⟩
theorem xNS:zD Tryz.prog 106 [.slice none 0 c,iV 0,iV 0,.func (.func g) ⟨[]⟩ ⟨gc⟩] Z (.tuple ⟨[]⟩) Z :=
 zO.pure (xBW (P0:=fun τ=>τ=Z.re) (zZX (Inv:=fun k i τ=>i=1/\τ=Z.re) (fun k i τ h=>by obtain ⟨rfl,rfl⟩:=h;exact yPJ rfl (by omega)) 0 _ Z.re ⟨rfl,rfl⟩) (fun τ h=>zZW ⟨rfl,by rw [h];exact Nat.le_refl _⟩) (by omega))
theorem xTI {n:Int}:zD Tryz.prog 97 [.slice none 0 c,iV 0,iV 0,iV n,.func (.func g) ⟨[]⟩ ⟨gc⟩] Z (.tuple ⟨[]⟩) Z :=
 zO.pure (xLD (Pr:=fun τ=>τ=Z.re) (yEQ (Inv:=fun k i1 i2 i3 t10 t11 τ=>i1=0/\i2=0/\τ=Z.re) (fun k i1 i2 i3 t10 t11 τ h=>by obtain ⟨rfl,rfl,rfl⟩:=h;exact xAY xNS rfl (by omega) (by omega)) 0 _ _ _ _ _ Z.re ⟨rfl,rfl,rfl⟩) (fun τ h=>yEP ⟨rfl,by rw [h];exact Nat.le_refl _⟩))
theorem xDJ:zD Tryz.prog 78 [.slice none 0 c,.func (.func g) ⟨[]⟩ ⟨gc⟩] Z (.tuple ⟨[]⟩) Z:=by
 obtain ⟨n,n1,n2,n3⟩:=yZQ (Z:=Z.re) (x:=0) (by omega);exact zO.pure (yMD (x_l:=0) (z1:=((0:Nat):Int)) (by rw [zXD];rfl) n3 xTI ⟨rfl,Nat.le_refl _⟩)
end
end
abbrev zMG (s:Std):Value:=.agg ⟨zK s.free s.row s.used s.day⟩
structure StOk (s:Std):Prop where
 free:-1000000<=s.free/\s.free<=1000000
 row:0<=s.row/\s.row<=1000000
 used:-1000000<=s.used/\s.used<=1000000
 day:-1<=s.day/\s.day<=6
structure DtOk (d:Dty):Prop where
 day:0<=d.day/\d.day<=6
 on:0<=d.on/\d.on<=1439
section
variable {Z:St} {w:Wk} {p q:Option Addr} {l m c d:Nat} {k:Nat}
theorem yKL {p:Option Addr} {l c:Nat} {xs:List Int} {n:Int} (h:yD Z p l xs) (hl:l<=1073741824):zD Pg 58 [.slice p l c,iV n] Z (.bool (xs.contains n)) Z:=by
 have h1:=(SlV.re h).re;have e1:=h.len;have ci:∃ r:Int,zD Pg 83 [.slice p l c,iV n] Z.re (iV r) Z.re/\(0<=r↔n∈xs):=by
  have key:zO Pg 83 [.slice p l c,iV n] Z.re.re fun v s=>(∃ r:Int,v=iV r/\(0<=r↔n∈xs))/\s=Z.re.re:=by
   refine xNU (yPN (Inv:=fun k i τ=>τ=Z.re.re/\∃ j:Nat,i=j/\j+k=l/\n ∉ xs.take j) (Qr:=fun i τ=>τ=Z.re.re/\0<=i/\n∈xs) (Q0:=fun τ=>τ=Z.re.re/\n ∉ xs) ?_ l 0 _ ⟨rfl,0,rfl,by omega,by simp⟩) ?_ ?_
   ·rintro k i τ ⟨rfl,j,rfl,hk,he⟩;by_cases hj:j<l
    ·obtain ⟨a,rfl,x,hx,l1⟩:=wS h1 hj;by_cases hxy:n=x
     ·exact xGR l1 ⟨rfl,by omega,hxy ▸ List.mem_of_getElem? hx⟩ (by omega) (by omega) hxy
     ·exact xGQ l1 ⟨k-1,by omega,rfl,j+1,by omega,by omega,by rw [xZ hx,List.mem_append];simp;exact ⟨he,hxy⟩⟩ (by omega) (by omega) hxy (by omega)
    ·rw [List.take_of_length_le (by omega)] at he;exact xGP ⟨rfl,he⟩ (by omega)
   ·rintro i τ ⟨rfl,h2,hn⟩;exact yPL ⟨⟨i,rfl,by simp [h2,hn]⟩,rfl⟩
   ·rintro τ ⟨rfl,hn⟩;exact yPM ⟨⟨-1,rfl,by simp [hn]⟩,rfl⟩
  obtain ⟨v,s,h3,⟨r,rfl,h2⟩,rfl⟩:=key;exact ⟨r,zRN h3 (Nat.le_refl _) rfl,h2⟩
 obtain ⟨r,c1,c2⟩:=ci;by_cases hn:n∈xs
 ·rw [show xs.contains n=true by simp [hn]];exact (xVD c1 ⟨rfl,Nat.le_refl _⟩ (c2.2 hn)).pure
 ·rw [show xs.contains n=false by simp [hn]];exact (xVC c1 ⟨rfl,Nat.le_refl _⟩ (fun h=>hn (c2.1 h))).pure
theorem yHY {s:Std} {x:Dty} {e:Int} (hs:StOk s) (hx:DtOk x) (he:-1000000<=e/\e<=1000000):zD Pg 77 [zMG s,zAZ x,iV e] Z (zMG (take s x e)) Z:=by
 have h1:=hs.used;have h2:=hs.row;have h3:=hs.day;have h4:=hx.day;have h5:=hx.on;unfold take;by_cases e1:s.day=x.day
 ·rw [if_pos e1];exact (xJN ⟨rfl,by simp⟩ (by omega) (by omega) e1).pure
 ·rw [if_neg e1];by_cases e2:s.day=x.day-1
  ·rw [if_pos e2];exact (xJL ⟨rfl,by simp⟩ (by omega) (by omega) e1 (by omega) e2 (by omega) (by omega) (by omega)).pure
  ·rw [if_neg e2];exact (xJM ⟨rfl,by simp⟩ (by omega) (by omega) e1 (by omega) e2 (by omega) (by omega)).pure
theorem xWW (h:WkP Z 85 88 w p l q m) (hsh:zAX w) (hk:k<m) {s:Std} {x:Dty} (hs:StOk s) (hx:DtOk x) {n:Nat} (hn:n<5):zD Pg (92+n) [.agg ⟨wkc w.days p l c q m d w.rest w.run w.hours⟩,iV (k:Int),zAZ x,zMG s] Z (.bool (holds w n (drv w k) x s)) Z:=by
 have h1:=hs.free;have h4:=hx.day;have h5:=hx.on;have L:Le Z (((Z.re.row (wkc w.days p l c q m d w.rest w.run w.hours) 6).row (zF x.day x.on x.lo x.hi x.route) 5).row (zK s.free s.row s.used s.day) 4):=(((le0 Z).trans (Le.row _ _ _)).trans (Le.row _ _ _)).trans (Le.row _ _ _);obtain ⟨a,rfl,p',l',c',r',n',d',s',j',e',_,hkn,hlv,_,hf⟩:=(h.le L).vld yHL zFD hk;have hm:=h.len.2;have hmem:drv w k∈w.drivers:=by
  unfold drv;rw [List.getD_eq_getElem?_getD,List.getElem?_eq_getElem (by omega)];exact List.getElem_mem _
 have hsx:=hsh _ hmem;match n,hn with
 | 0,_=>exact (xES (hf 0 _ rfl 26 yT) (yKL hkn (by have:=hkn.len;omega)) ⟨rfl,Nat.le_refl _⟩ (by omega)).pure
 | 1,_ =>
  have cc:=yKL (c:=d') (n:=x.day) hlv (by have:=hlv.len;omega);show zD Pg 93 _ Z (.bool (!(drv w k).leave.contains x.day)) Z;cases hc:(drv w k).leave.contains x.day with
  | true=>rw [hc] at cc;exact (xKW (hf 1 _ rfl 26 yT) cc ⟨rfl,Nat.le_refl _⟩ (by omega)).pure
  | false=>rw [hc] at cc;exact (xKV (hf 1 _ rfl 26 yT) cc ⟨rfl,Nat.le_refl _⟩ (by omega)).pure
 | 2,_ =>
  show zD Pg 94 _ Z (.bool (decide (s.day≠x.day))) Z;by_cases e:s.day=x.day
  ·rw [decide_eq_false (by simp [e])];exact (yVA ⟨rfl,Nat.le_refl _⟩ e).pure
  ·rw [decide_eq_true e];exact (yVB ⟨rfl,Nat.le_refl _⟩ e).pure
 | 3,_ =>
  show zD Pg 95 _ Z (.bool (decide (s.day=x.day) || decide (w.rest<=x.day*1440+x.on-s.free))) Z;by_cases e:s.day=x.day
  ·rw [decide_eq_true e];exact (yVE ⟨rfl,Nat.le_refl _⟩ e).pure
  ·rw [decide_eq_false e,Bool.false_or];by_cases e2:w.rest<=x.day*1440+x.on-s.free
   ·rw [decide_eq_true e2];exact (yVD ⟨rfl,Nat.le_refl _⟩ e (by omega) (by omega) (by omega) e2).pure
   ·rw [decide_eq_false e2];exact (yVC ⟨rfl,Nat.le_refl _⟩ e (by omega) (by omega) (by omega) e2).pure
 | 4,_ =>
  show zD Pg 96 _ Z (.bool (decide (s.day=x.day) || decide ((take s x x.on).row<=w.run))) Z;by_cases e:s.day=x.day
  ·rw [decide_eq_true e];exact (xEV ⟨rfl,Nat.le_refl _⟩ e).pure
  ·rw [decide_eq_false e,Bool.false_or];have ct:=yHY (Z:=((Z.re.row (wkc w.days p l c (some a) m d w.rest w.run w.hours) 6).row (zF x.day x.on x.lo x.hi x.route) 5).row (zK s.free s.row s.used s.day) 4) (e:=x.on) hs hx (by omega);by_cases e2:(take s x x.on).row<=w.run
   ·rw [decide_eq_true e2];exact (xEU ct ⟨rfl,Nat.le_refl _⟩ e e2).pure
   ·rw [decide_eq_false e2];exact (xET ct ⟨rfl,Nat.le_refl _⟩ e e2).pure
end
section
open Go.Sort (swp PermIn SortedIn Below SWO)
def bLt (x y:Rec):Prop:=x.a<y.a\/x.a=y.a/\(x.k<y.k\/x.k=y.k/\x.b<y.b)
instance (x y:Rec):Decidable (bLt x y):=by unfold bLt;infer_instance
def yRV (x y:Rec):Bool:=decide (bLt x y)
theorem xZW:SWO yRV:=by
 refine ⟨fun x=>?_,fun x y z h1 h2=>?_,fun x y z h1 h2=>?_⟩
 ·simp only [yRV,decide_eq_false_iff_not];unfold bLt;omega
 ·simp only [yRV,decide_eq_true_eq] at *;unfold bLt at *;omega
 ·simp only [yRV,decide_eq_false_iff_not] at *;unfold bLt at *;omega
def BOk (x:Rec):Prop:=0<=x.k/\x.k<=5/\0<=x.a/\x.a<=100/\0<=x.b/\x.b<=100
section
variable {Z:St}
theorem xVG {x y z:Int} {b c:Nat} (o:Own Z b [iV x,iV y,iV z] 1):zD Tryz.prog 80 [.slice (some ⟨b,0,none⟩) 3 c] Z (iV (if x=0 then (if y=0 then z else y) else x)) Z:=by
 have h0:=o.re;have l0:=h0.ldI (P:=Tryz.prog) (t:=3) (i:=0) (v:=iV x) zU rfl;have l1:=h0.ldI (P:=Tryz.prog) (t:=3) (i:=1) (v:=iV y) zU rfl;have l2:=h0.ldI (P:=Tryz.prog) (t:=3) (i:=2) (v:=iV z) zU rfl;refine zO.pure (xPU (Pr:=fun n τ=>τ=Z.re/\n=if x=0 then (if y=0 then z else y) else x) (P0:=fun τ=>τ=Z.re/\x=0/\y=0/\z=0)
  (yRH (Inv:=fun k i τ=>τ=Z.re/\((i=0/\k=3)\/(i=1/\k=2/\x=0)\/(i=2/\k=1/\x=0/\y=0)\/(i=3/\x=0/\y=0/\z=0))) ?_ 3 0 Z.re ⟨rfl,.inl ⟨rfl,rfl⟩⟩)
  (fun n τ h=>yRF ⟨by rw [h.2],by rw [h.1];exact Nat.le_refl _⟩) (fun τ h=>yRG ⟨by simp [h.2.1,h.2.2.1,h.2.2.2],by rw [h.1];exact Nat.le_refl _⟩))
 rintro k i τ ⟨rfl,⟨rfl,rfl⟩ | ⟨rfl,rfl,hx⟩ | ⟨rfl,rfl,hx,hy⟩ | ⟨rfl,hx,hy,hz⟩⟩
 ·by_cases hx:x=0
  ·exact zSW l0 ⟨2,by omega,rfl,.inr (.inl ⟨rfl,rfl,hx⟩)⟩
  ·exact zSX l0 ⟨rfl,by rw [if_neg hx]⟩
 ·by_cases hy:y=0
  ·exact zSW l1 ⟨1,by omega,rfl,.inr (.inr (.inl ⟨rfl,rfl,hx,hy⟩))⟩
  ·exact zSX l1 ⟨rfl,by rw [if_pos hx,if_neg hy]⟩
 ·by_cases hz:z=0
  ·exact zSW l2 ⟨0,by omega,rfl,.inr (.inr (.inr ⟨rfl,hx,hy,hz⟩))⟩
  ·exact zSX l2 ⟨rfl,by rw [if_pos hx,if_pos hy]⟩
 ·exact xHU ⟨rfl,hx,hy,hz⟩
theorem wAY:Cmp 79 [] yRV BOk:=by
 intro τ x y hx hy;unfold BOk at hx hy;refine ⟨if x.a-y.a=0 then (if x.k-y.k=0 then x.b-y.b else x.k-y.k) else x.a-y.a, ?_, ?_⟩
 ·have N:New τ.re (((τ.re.row (zAY x) 3).row (zAY y) 3).row [iV (x.a-y.a),iV (x.k-y.k),iV (x.b-y.b)] 1):=((New.row _ _ _).row').row';exact zO.pure (xVK (xVG (zC _ _ _)) ⟨rfl,N.lw⟩ (by omega) (by omega) (by omega) (by omega) (by omega))
 ·simp only [yRV,decide_eq_true_eq];unfold bLt;by_cases h:x.a-y.a=0
  ·rw [if_pos h];by_cases h2:x.k-y.k=0
   ·rw [if_pos h2];omega
   ·rw [if_neg h2];omega
  ·rw [if_neg h];omega
end
end
abbrev zFB (s:Std):List Value:=zK s.free s.row s.used s.day
def stL (f:Nat->Std):List Value:=zFB (f 0)++(zFB (f 1)++(zFB (f 2)++(zFB (f 3)++(zFB (f 4)++zFB (f 5)))))
def zEY:List Value:=[yA 0,yA 0,yA 0,yA 0,yA 0,yA 0,yA 0,yA 0,yA 0,yA 0,yA 0,yA 0,yA 0,yA 0,yA 0,yA 0,yA 0,yA 0,yA 0,yA 0,yA 0,yA 0,yA 0,yA 0]
def zVT:Std:=⟨0,0,0,0⟩
theorem yDK:zEY=stL fun _=>zVT:=rfl
section
variable {Z:St} {b n:Nat} {f:Nat->Std}
theorem yHZ (o:Own Z b (stL f) n) {i:Nat} (hi:i<6):zB Tryz.prog Z 107 ⟨b,0+Int.toNat (i:Int)*4,none⟩=some (zMG (f i)):=by
 rw [Int.toNat_natCast];match i,hi with
 | 0,_=>exact o.ldN (k:=0) vM xD (ds:=zFB (f 0)) rfl rfl (by simp [stL])
 | 1,_=>exact o.ldN (k:=4) vM xD (ds:=zFB (f 1)) rfl rfl (by simp [stL])
 | 2,_=>exact o.ldN (k:=8) vM xD (ds:=zFB (f 2)) rfl rfl (by simp [stL])
 | 3,_=>exact o.ldN (k:=12) vM xD (ds:=zFB (f 3)) rfl rfl (by simp [stL])
 | 4,_=>exact o.ldN (k:=16) vM xD (ds:=zFB (f 4)) rfl rfl (by simp [stL])
 | 5,_=>exact o.ldN (k:=20) vM xD (ds:=zFB (f 5)) rfl rfl (by simp [stL])
theorem xJO (o:Own Z b (stL f) n) {i:Nat} (hi:i<6):zB Tryz.prog Z 3 ⟨b,0+Int.toNat (i:Int)*4+2,none⟩=some (yA (f i).used):=by
 rw [Int.toNat_natCast];match i,hi with
 | 0,_=>exact o.ld (k:=2) rfl zU rfl
 | 1,_=>exact o.ld (k:=6) rfl zU rfl
 | 2,_=>exact o.ld (k:=10) rfl zU rfl
 | 3,_=>exact o.ld (k:=14) rfl zU rfl
 | 4,_=>exact o.ld (k:=18) rfl zU rfl
 | 5,_=>exact o.ld (k:=22) rfl zU rfl
theorem uA (o:Own Z b (stL f) n):zB Tryz.prog Z 109 ⟨b,0,none⟩=some (.agg ⟨stL f⟩):=o.ldN (k:=0) xQX yIE (ds:=stL f) rfl rfl (by simp [stL])
theorem ySY (o:Own Z b (stL f) n) {i:Nat} (hi:i<6) (s:Std):zQ Tryz.prog (evL [.pointer (some ⟨b,0+Int.toNat (i:Int)*4,none⟩),zMG s]) Z (.store 107 (.tmp 0) (.tmp 1))=some (undef,Z.own b (stL (upd f i s)) n):=by
 rw [Int.toNat_natCast];match i,hi with
 | 0,_=>exact o.store (k:=0) (vs:=zFB s) rfl xD rfl (by simp [stL]) rfl
 | 1,_=>exact o.store (k:=4) (vs:=zFB s) rfl xD rfl (by simp [stL]) rfl
 | 2,_=>exact o.store (k:=8) (vs:=zFB s) rfl xD rfl (by simp [stL]) rfl
 | 3,_=>exact o.store (k:=12) (vs:=zFB s) rfl xD rfl (by simp [stL]) rfl
 | 4,_=>exact o.store (k:=16) (vs:=zFB s) rfl xD rfl (by simp [stL]) rfl
 | 5,_=>exact o.store (k:=20) (vs:=zFB s) rfl xD rfl (by simp [stL]) rfl
theorem zWC (o:Own Z b (stL f) n) (g:Nat->Std):zQ Tryz.prog (evL [.pointer (some ⟨b,0,none⟩),.agg ⟨stL g⟩]) Z (.store 109 (.tmp 0) (.tmp 1))=some (undef,Z.own b (stL g) n) :=
 o.store (k:=0) (vs:=stL g) rfl yIE rfl (by simp [stL]) rfl
def st0 (w:Wk) (j:Nat):Nat->Std:=fun k=>if k<j then before (drv w k) else zVT
theorem xZX {w:Wk} {j:Nat}:upd (st0 w j) j (before (drv w j))=st0 w (j+1):=by
 funext k;unfold upd st0;by_cases e:k=j
 ·subst e;rw [if_pos rfl,if_pos (by omega)]
 ·rw [if_neg e];by_cases h:k<j
  ·rw [if_pos h,if_pos (by omega)]
  ·rw [if_neg h,if_neg (by omega)]
variable {w:Wk} {p q:Option Addr} {l m c d:Nat}
theorem yDO (h:WkP Z 85 88 w p l q m) (hm:m<=6):zD Tryz.prog 74 [.agg ⟨wkc w.days p l c q m d w.rest w.run w.hours⟩] Z (.agg ⟨stL (st0 w m)⟩) Z:=by
 have hmm:=h.len.2;obtain ⟨Z1,hZ1⟩:∃ Z1,Z1=(Z.re.row (wkc w.days p l c q m d w.rest w.run w.hours) 6).row zEY 4:=⟨_,rfl⟩;have N1:New Z.re Z1:=by rw [hZ1];exact (New.row _ _ _).row'
 have L1:Le Z Z1:=(le0 Z).trans N1.le;have o1:Own Z1 (Z.y+1) (stL (st0 w 0)) 4:=by
  rw [hZ1];exact zC (Z.re.row (wkc w.days p l c q m d w.rest w.run w.hours) 6) zEY 4
 have hr:zW RD (.agg ⟨stL (st0 w m)⟩)=true:=rfl;refine zO.pure (hv:=hr) (ySV (yCJ (Inv:=fun k i τ=>New Z.re τ/\∃ j:Nat,i=j/\j+k=m/\Own τ (Z.y+1) (stL (st0 w j)) 4) (Q0:=fun τ=>New Z.re τ/\Own τ (Z.y+1) (stL (st0 w m)) 4) ?_ m 0 Z1 ⟨N1,0,rfl,by omega,o1⟩ |> fun h=>by rw [hZ1] at h;exact h) ?_)
 ·rintro k i τ ⟨hN,j,rfl,hk,o⟩;by_cases hj:j<m;rotate_left
  ·have:j=m:=by omega
   subst this;exact yLU ⟨hN,o⟩ (by omega)
  have LL:=(le0 Z).trans hN.le;obtain ⟨a,rfl,p',l',c',r',n',d',s',j',e',lx,_,_,_,_⟩:=(h.le LL).vld yHL zFD hj;have hN2:New Z.re ((τ.row (zN none 0 0 none 0 0 none 0 0 0 0 0) 6).own τ.y (zN p' l' c' r' n' d' s' j' e' (drv w j).off (drv w j).row (drv w j).used) 6):=hN.row'.own hN.le.y;have o2:Own ((τ.row (zN none 0 0 none 0 0 none 0 0 0 0 0) 6).own τ.y (zN p' l' c' r' n' d' s' j' e' (drv w j).off (drv w j).row (drv w j).used) 6) (Z.y+1) (stL (st0 w j)) 4:=o.row.own (by have:=o.lt;omega);refine yLV lx (ySY o2 (i:=j) (by omega) (before (drv w j))) ⟨k-1,by omega,hN2.own (by show Z.y<=Z.y+1;omega),j+1,by omega,by omega, ?_⟩ (by omega) (by omega) (by omega) (by omega);rw [<- xZX];exact o2.put
 ·rintro τ ⟨hN,o⟩;exact yCI (uA o) (zWC o _) (uA o.put) ⟨rfl,(hN.own (by show Z.y<=Z.y+1;omega)).lw⟩
theorem zUK:∃ b Z',zD Tryz.prog 76 [] Z (.slice (some ⟨b,0,none⟩) 5 5) Z'/\New Z Z'/\Z.y<=b/\Row Z' ⟨b,0,none⟩ [.int .u8 0,.func (.func 92) ⟨[]⟩ ⟨[]⟩,.int .u8 1,.func (.func 93) ⟨[]⟩ ⟨[]⟩,.int .u8 2,.func (.func 94) ⟨[]⟩ ⟨[]⟩,.int .u8 3,.func (.func 95) ⟨[]⟩ ⟨[]⟩,.int .u8 4,.func (.func 96) ⟨[]⟩ ⟨[]⟩]:=by
 obtain ⟨v,Z',h1,h2,b,rfl,h3,h4⟩:=zO.new (Z:=Z) (P:=Tryz.prog) (f:=76) (args:=[]) (Q:=fun v s=>∃ b,v=.slice (some ⟨b,0,none⟩) 5 5/\Z.y<=b/\Row s ⟨b,0,none⟩ [.int .u8 0,.func (.func 92) ⟨[]⟩ ⟨[]⟩,.int .u8 1,.func (.func 93) ⟨[]⟩ ⟨[]⟩,.int .u8 2,.func (.func 94) ⟨[]⟩ ⟨[]⟩,.int .u8 3,.func (.func 95) ⟨[]⟩ ⟨[]⟩,.int .u8 4,.func (.func 96) ⟨[]⟩ ⟨[]⟩])
  (yIY ⟨New.row _ _ _,Z.re.y,rfl,Nat.le_refl _,xM _ _ _⟩) (by rintro v s s' ⟨b,rfl,g1,g2⟩ hle;exact ⟨b,rfl,g1,g2.le hle⟩) (by rintro v s hr ⟨b,rfl,_⟩;cases hr)
 exact ⟨b,Z',h1,h2,h3,h4⟩
end
section
noncomputable section
variable (BA BB:Nat) (s1 slices:oAa) (o:lVa) (dF aV dY bb:Nat) (aG aW:Int) (s2 fe:oAa) (qA:(Option Addr)->Nat->Nat->Int->St->Prop) (q7:Int->Int->St->Prop) (qC:(Option Addr)->Nat->Nat->St->Prop) (dS fg dZ fk:Nat) (q4:St->Prop) (q0:Int->St->Prop) (aE bI eI:Int) (Z:St) (Nx Qr:Int->St->Prop) (qE:(Option Addr)->Nat->Nat->Int->St->Prop) (Q:vPa) (q8:Int->Int->St->Prop) (Q0:St->Prop) (Q2:(Option Addr)->Nat->Nat->St->Prop) (q9:Int->St->Prop)
def yQD:Code:=(Code.part [1,0,1,0,0] (qh 102))
def zQK:lNa:=[(2,pt BA 0),(4,pt BB 0),(7,qf o),(8,iV aG)]
def xHB:Alt:=⟨Int,.normal,fun t=>zQK BA BB o t,fun t=>[],fun t Z=>q0 t Z⟩
def yAL (BA BB:Nat) (o:lVa):lNa:=[(2,pt BA 0),(4,pt BB 0)]
def zOG:Alt:=⟨Unit,(.exit 0),fun t=>yAL BA BB o,fun t=>[],fun t Z=>q4 Z⟩
def yAN:Prop:=qi qj none yQD 20 (zQK BA BB o aG) [] [xHB BA BB o Nx,zOG BA BB o Q0] Z
def yQE:Prop:=qk qj none yQD 20 (zQK BA BB o aG) [] [zOG BA BB o Q0] Z
def yAM:Prop:=kZ qj (qh 102) [1,0,1,0] (ql 102 Q) (.exit 0) 20 (yAL BA BB o) Z
def yBG:Code:=(Code.part [1,0,1,0,0] (qh 119))
def zEF:lNa:=[(0,.slice s1 dF dY),(1,.slice s2 dS dZ),(9,.slice s1 dF dY),(10,iV (dF:Int)),(11,iV aE)]
def yRE:Alt:=⟨Int,.normal,fun t=>zEF s1 dF dY s2 dS dZ t,fun t=>[],fun t Z=>q0 t Z⟩
def zQO (s1:oAa) (dF dY:Nat) (s2:oAa) (dS dZ:Nat) (bI:Int):lNa:=[(4,iV bI)]
def zHR:Alt:=⟨Int,.ret,fun t=>zQO s1 dF dY s2 dS dZ t,fun t=>[],fun t Z=>q0 t Z⟩
def zQP:lNa:=[(0,.slice s1 dF dY),(1,.slice s2 dS dZ)]
def zHS:Alt:=⟨Unit,(.exit 0),fun t=>zQP s1 dF dY s2 dS dZ,fun t=>[],fun t Z=>q4 Z⟩
def zHT:Prop:=qi qj none yBG 36 (zEF s1 dF dY s2 dS dZ aE) [] [yRE s1 dF dY s2 dS dZ Nx,zHR s1 dF dY s2 dS dZ Qr,zHS s1 dF dY s2 dS dZ Q0] Z
def yBH:Prop:=qk qj none yBG 36 (zEF s1 dF dY s2 dS dZ aE) [] [zHR s1 dF dY s2 dS dZ Qr,zHS s1 dF dY s2 dS dZ Q0] Z
def zQQ:Prop:=kZ qj (qh 119) [1,0,1,0] (ql 119 Q) .ret 36 (zQO s1 dF dY s2 dS dZ bI) Z
def zQR:Prop:=kZ qj (qh 119) [1,0,1,0] (ql 119 Q) (.exit 0) 36 (zQP s1 dF dY s2 dS dZ) Z
def yQZ:Code:=(Code.part [1,1,0,1,0,0] (qh 104))
def zKP:lNa:=[(0,.slice slices aV bb),(3,iV aW),(9,.slice slices aV bb),(10,iV (aV:Int)),(11,iV aE)]
def xHS:Alt:=⟨Int × Int,.normal,fun t=>zKP slices aV bb t.1 t.2,fun t=>[],fun t Z=>q7 t.1 t.2 Z⟩
def yBB:lNa:=[(0,.slice slices aV bb),(3,iV aW)]
def zOK:Alt:=⟨Int,(.exit 0),fun t=>yBB slices aV bb t,fun t=>[],fun t Z=>q0 t Z⟩
def yBF:Prop:=qi qj none yQZ 36 (zKP slices aV bb aW aE) [] [xHS slices aV bb q8,zOK slices aV bb q9] Z
def yRB:Prop:=qk qj none yQZ 36 (zKP slices aV bb aW aE) [] [zOK slices aV bb q9] Z
def yBD:Prop:=kZ qj (qh 104) [1,1,0,1,0] (ql 104 Q) (.exit 0) 36 (yBB slices aV bb aW) Z
def yQY:Code:=(Code.part [1,1,1,1,0,1,0,0] (qh 104))
def zKO:lNa:=[(6,.slice fe fg fk),(25,.slice slices aV bb),(26,iV (aV:Int)),(27,iV eI)]
def xHR:Alt:=⟨(Option Addr) × Nat × Nat × Int,.normal,fun t=>zKO slices aV bb t.1 t.2.1 t.2.2.1 t.2.2.2,fun t=>[],fun t Z=>qA t.1 t.2.1 t.2.2.1 t.2.2.2 Z⟩
def yBA (slices:oAa) (aV bb:Nat) (fe:oAa) (fg fk:Nat):lNa:=[(6,.slice fe fg fk)]
def zOJ:Alt:=⟨(Option Addr) × Nat × Nat,(.exit 2),fun t=>yBA slices aV bb t.1 t.2.1 t.2.2,fun t=>[],fun t Z=>qC t.1 t.2.1 t.2.2 Z⟩
def yBE:Prop:=qi qj none yQY 36 (zKO slices aV bb fe fg fk eI) [] [xHR slices aV bb qE,zOJ slices aV bb Q2] Z
def yRA:Prop:=qk qj none yQY 36 (zKO slices aV bb fe fg fk eI) [] [zOJ slices aV bb Q2] Z
def yBC:Prop:=kZ qj (qh 104) [1,1,1,1,0,1,0] (ql 104 Q) (.exit 2) 36 (yBA slices aV bb fe fg fk) Z
end
variable {BA BB l1 c1 l2 c2 dF dY dS dZ aV bb lB cE fg fk lI cH lE cB lK cN s_l s_c l3 c3 l5 c5 l6 c6:Nat} {o g_0 cs1838 cs1840:lVa} {Inv:Nat->Int->St->Prop} {Q0 P0:St->Prop} {aG nF nG n3 aE nD bI x y aW eI n n1 n2:Int} {ZUB Z ZE ZVB Z4:St} {Nx Qr Pr:Int->St->Prop} {Q:vPa} {q1 q2 s1 s2 slices qD fe qG qB qM s q3 q5 q6:oAa} {s1_a s2_a fY:Addr} {Q2 P2:(Option Addr)->Nat->Nat->St->Prop}
theorem yQC (hb:∀ k aG Z,Inv k aG Z->yAN BA BB o aG Z (NX1 Inv k) Q0):∀ k aG Z,Inv k aG Z->yQE BA BB o aG Z Q0 :=
 xC (ai (xY 0) trivial) hb
theorem xHA (h1:zAB Pg 98 (qf o) (iV aG)=some (iV nF)) (h2:lz Z 3 ⟨BA,0+Int.toNat aG*1,none⟩ (iV nG)) (h3:qn (evL [pt BA (0+Int.toNat aG*1),iV (nG+nF)]) Z (.store 3 (.tmp 0) (.tmp 1))=some (undef,ZUB)) (nx:Nx (aG+1) ZUB) (u1:aG<6:=by omega) (u2:Ix aG 6:=by omega) (u3:I6 (nG+nF):=by omega) (u4:I6 (aG+1):=by omega):yAN BA BB o aG Z Nx Q0 :=
 kO 0 (aG+1) [.b true,.g,.v (iV nF),.g,.g,.g,.i,.l (iV nG),.g,.n (nG+nF),.i,.e undef ZUB,.n (aG+1),.g] (fun _ f=>an2 (zR u1) h1 (an6 u2 h2 (w64 u3) u2 h3 (w64 u4) f)) nx
theorem xGZ (nx:Q0 Z) (u1:¬ aG<6:=by omega):yAN BA BB o aG Z Nx Q0 :=
 kO 1 () [.b false] (fun _ f=>ai (zT u1) f) nx
theorem xOQ:let y0:=((Z.row g_0 1).row o 1).row (zJ 0 0 0 0 0 0) 1;∀ (h1:lz y0 98 ⟨(Z.y+1),0,none⟩ (qf o)) (hL:yQE Z.y (Z.y+2) o 0 y0 P0) (k0:∀ Z',P0 Z'->yAM Z.y (Z.y+2) o Z' Q),qg 102 [qf g_0,qf o] Z Q :=
 let s1:=zQK Z.y (Z.y+2) o 0;fun h1 hL k0=>zH [.g,.g,.g,.l (qf o),.g,.lf 20 s1 [zOG Z.y (Z.y+2) o P0]] (kd (ai h1 (ai (ai tt (ai (arf s1) hL)) (ai (kz0 k0) trivial))))
theorem yQB (h1:lz Z 98 (qe BA 0) (qf cs1838)) (h2:qn (evL [pt BB 0,qf cs1838]) Z (.store 98 (.tmp 0) (.tmp 1))=some (undef,ZE)) (h3:lz ZE 98 (qe BB 0) (qf cs1840)) (nx:Q (qf cs1840) ZE):yAM BA BB o Z Q :=
 sK [.l (qf cs1838),.e undef ZE,.l (qf cs1840)] (an3 h1 h2 h3 nx)
theorem xOT:let y0:=(Z.row g_0 1).row o 1;∀ (h1:lz y0 98 (qe Z.y 0) (qf g_0)) (h2:lz y0 98 ⟨(Z.y+1),0,none⟩ (qf o)) (h3:zBU Pg .neq 98 (.tmp 5) (.tmp 6) (qf g_0) (qf o)=some (.bool true)) (h4:vQ Pg y0 98 (pt Z.y 0) none none none=some (.slice q1 l1 c1)) (h5:vQ Pg y0 98 (pt ((Z.y+1)) 0) none none none=some (.slice q2 l2 c2)) (h6:qm 119 [.slice q1 l1 c1,.slice q2 l2 c2] y0 (iV n3) y0) (nx:Q (.bool true) y0) (u1:0<n3:=by omega),qg 103 [qf g_0,qf o] Z Q :=
 let y0:=(Z.row g_0 1).row o 1;fun h1 h2 h3 h4 h5 h6 nx u1=>zH [.g,.g,.g,.l (qf g_0),.l (qf o),.v (.bool true),.g,.v (.slice q1 l1 c1),.v (.slice q2 l2 c2),.c (iV n3) y0,.b true,.g,.g] (kd (ai h1 (an6 h2 h3 h4 h5 h6 (zR u1) nx)))
theorem xOS:let y0:=(Z.row g_0 1).row o 1;∀ (h1:lz y0 98 (qe Z.y 0) (qf g_0)) (h2:lz y0 98 ⟨(Z.y+1),0,none⟩ (qf o)) (h3:zBU Pg .neq 98 (.tmp 5) (.tmp 6) (qf g_0) (qf o)=some (.bool true)) (h4:vQ Pg y0 98 (pt Z.y 0) none none none=some (.slice q1 l1 c1)) (h5:vQ Pg y0 98 (pt ((Z.y+1)) 0) none none none=some (.slice q2 l2 c2)) (h6:qm 119 [.slice q1 l1 c1,.slice q2 l2 c2] y0 (iV n3) y0) (nx:Q (.bool false) y0) (u1:¬ 0<n3:=by omega),qg 103 [qf g_0,qf o] Z Q :=
 let y0:=(Z.row g_0 1).row o 1;fun h1 h2 h3 h4 h5 h6 nx u1=>zH [.g,.g,.g,.l (qf g_0),.l (qf o),.v (.bool true),.g,.v (.slice q1 l1 c1),.v (.slice q2 l2 c2),.c (iV n3) y0,.b false,.g,.g] (kd (ai h1 (an6 h2 h3 h4 h5 h6 (zT u1) nx)))
theorem xOR:let y0:=(Z.row g_0 1).row o 1;∀ (h1:lz y0 98 (qe Z.y 0) (qf g_0)) (h2:lz y0 98 ⟨(Z.y+1),0,none⟩ (qf o)) (h3:zBU Pg .neq 98 (.tmp 5) (.tmp 6) (qf g_0) (qf o)=some (.bool false)) (nx:Q (.bool false) y0),qg 103 [qf g_0,qf o] Z Q :=
 fun h1 h2 h3 nx=>zH [.g,.g,.g,.l (qf g_0),.l (qf o),.v (.bool false),.g,.g,.g] (kd (an3 h1 h2 h3 nx))
theorem yDD (hb:∀ k aE Z,Inv k aE Z->zHT s1 dF dY s2 dS dZ aE Z (NX1 Inv k) Qr Q0):∀ k aE Z,Inv k aE Z->yBH s1 dF dY s2 dS dZ aE Z Qr Q0 :=
 xC (ai uQ (ai (xY 0) trivial)) hb
theorem zVB (h1:lz Z 3 (zL s1_a (Int.toNat aE*1)) (iV nF)) (h2:lz Z 3 (zL s2_a (Int.toNat aE*1)) (iV nG)) (h3:qm 129 [iV nF,iV nG] Z (iV nD) Z) (nx:Qr nD Z) (u1:aE<(dF:Int):=by omega) (u2:Ix aE dF:=by omega) (u3:¬ (dS:Int)<=aE:=by omega) (u4:Ix aE dS:=by omega) (u5:¬ nD=0:=by omega):zHT (some s1_a) dF dY (some s2_a) dS dZ aE Z Nx Qr Q0 :=
 kO 1 nD [.b true,.g,.i,.l (iV nF),.g,.g,.g,.g,.g,.b false,.g,.g,.i,.l (iV nG),.g,.g,.g,.c (iV nD) Z,.g,.g,.b true,.g,.g] (fun _ f=>an2 (zR u1) u2 (an6 h1 (yG u3) u4 h2 h3 (uW u5) f)) nx
theorem yRD (h1:lz Z 3 (zL s1_a (Int.toNat aE*1)) (iV nF)) (h2:lz Z 3 (zL s2_a (Int.toNat aE*1)) (iV nG)) (h3:qm 129 [iV nF,iV nG] Z (iV nD) Z) (nx:Nx (aE+1) Z) (u1:aE<(dF:Int):=by omega) (u2:Ix aE dF:=by omega) (u3:¬ (dS:Int)<=aE:=by omega) (u4:Ix aE dS:=by omega) (u5:nD=0:=by omega) (u6:I6 (aE+1):=by omega):zHT (some s1_a) dF dY (some s2_a) dS dZ aE Z Nx Qr Q0 :=
 kO 0 (aE+1) [.b true,.g,.i,.l (iV nF),.g,.g,.g,.g,.g,.b false,.g,.g,.i,.l (iV nG),.g,.g,.g,.c (iV nD) Z,.g,.g,.b false,.n (aE+1),.g] (fun _ f=>an3 (zR u1) u2 h1 (an6 (yG u3) u4 h2 h3 (uB u5) (w64 u6) f)) nx
theorem yRC (nx:Q0 Z) (u1:¬ aE<(dF:Int):=by omega):zHT s1 dF dY s2 dS dZ aE Z Nx Qr Q0 :=
 kO 2 () [.b false] (fun _ f=>ai (zT u1) f) nx
theorem yYF (hL:yBH s1 dF dY s2 dS dZ 0 Z Pr P0) (kr:∀ i4_1' Z',Pr i4_1' Z'->zQQ s1 dF dY s2 dS dZ i4_1' Z' Q) (k0:∀ Z',P0 Z'->zQR s1 dF dY s2 dS dZ Z' Q):qg 119 [.slice s1 dF dY,.slice s2 dS dZ] Z Q :=
 zH [.g,.g,.g,.g,.lf 36 (zEF s1 dF dY s2 dS dZ 0) [zHR s1 dF dY s2 dS dZ Pr,zHS s1 dF dY s2 dS dZ P0]] (kd (ai (ai tt (ai (arf (zEF s1 dF dY s2 dS dZ 0)) hL)) (ai (kz1 kr) (ai (kz0 k0) trivial))))
theorem yDB (nx:Q (iV bI) Z):zQQ s1 dF dY s2 dS dZ bI Z Q :=
 sK [] nx
theorem yDC (nx:Q (iV 0) Z) (u1:¬ (dF:Int)<(dS:Int):=by omega):zQR s1 dF dY s2 dS dZ Z Q :=
 sK [.g,.g,.g,.g,.b false,.g] (ai (zT u1) nx)
theorem xVJ (h1:qm 132 [iV x] Z (.bool false) Z) (h2:qm 132 [iV y] Z (.bool false) Z) (nx:Q (iV (-1)) Z) (u1:x<y:=by omega):qg 129 [iV x,iV y] Z Q :=
 zH [.g,.g,.c (.bool false) Z,.g,.g,.c (.bool false) Z,.g,.g,.g,.g,.g,.b true,.g] (kd (an3 h1 h2 (zR u1) nx))
theorem xVI (h1:qm 132 [iV x] Z (.bool false) Z) (h2:qm 132 [iV y] Z (.bool false) Z) (nx:Q (iV 1) Z) (u1:¬ x<y:=by omega) (u2:y<x:=by omega):qg 129 [iV x,iV y] Z Q :=
 zH [.g,.g,.c (.bool false) Z,.g,.g,.c (.bool false) Z,.g,.g,.g,.g,.g,.b false,.g,.g,.b true,.g] (kd (an4 h1 h2 (zT u1) (zR u2) nx))
theorem xVH (h1:qm 132 [iV x] Z (.bool false) Z) (h2:qm 132 [iV y] Z (.bool false) Z) (nx:Q (iV 0) Z) (u1:¬ x<y:=by omega) (u2:¬ y<x:=by omega):qg 129 [iV x,iV y] Z Q :=
 zH [.g,.g,.c (.bool false) Z,.g,.g,.c (.bool false) Z,.g,.g,.g,.g,.g,.b false,.g,.g,.b false,.g] (kd (an4 h1 h2 (zT u1) (zT u2) nx))
theorem xNI (nx:Q (.bool false) Z) (u1:x=x:=by omega):qg 132 [iV x] Z Q :=
 zH [.g,.g,.g,.b false,.g] (kd (ai (uB u1) nx))
theorem yQX {Inv:Nat->Int->Int->St->Prop} {Q0:Int->St->Prop} (hb:∀ k aW aE Z,Inv k aW aE Z->yBF slices aV bb aW aE Z (NX2 Inv k) Q0):∀ k aW aE Z,Inv k aW aE Z->yRB slices aV bb aW aE Z Q0 :=
 zCP (ai (xY 0) trivial) hb
theorem xHQ {Nx:Int->Int->St->Prop} {Q0:Int->St->Prop} (h1:lz Z 26 (zL fY (Int.toNat aE*1)) (.slice qD lB cE)) (nx:Nx (aW+(lB:Int)) (aE+1) Z) (u1:aE<(aV:Int):=by omega) (u2:Ix aE aV:=by omega) (u3:I6 (aW+(lB:Int)):=by omega) (u4:¬ (aW+(lB:Int))<0:=by omega) (u5:I6 (aE+1):=by omega):yBF (some fY) aV bb aW aE Z Nx Q0 :=
 kO 0 ((aW+(lB:Int)),aE+1) [.b true,.i,.l (.slice qD lB cE),.g,.g,.g,.g,.n (aW+(lB:Int)),.g,.g,.b false,.n (aE+1),.g] (fun _ f=>an6 (zR u1) u2 h1 (w64 u3) (zT u4) (w64 u5) f) nx
theorem xHP {Nx:Int->Int->St->Prop} {Q0:Int->St->Prop} (nx:Q0 aW Z) (u1:¬ aE<(aV:Int):=by omega):yBF slices aV bb aW aE Z Nx Q0 :=
 kO 1 aW [.b false] (fun _ f=>ai (zT u1) f) nx
theorem xPS {P0:Int->St->Prop} (hL:yRB slices aV bb 0 0 Z P0) (k0:∀ i3_1' Z',P0 i3_1' Z'->yBD slices aV bb i3_1' Z' Q):qg 104 [.slice slices aV bb] Z Q :=
 zH [.g,.g,.g,.g,.g,.lf 36 (zKP slices aV bb 0 0) [zOK slices aV bb P0]] (kd (ai (ai tt (ai (arf (zKP slices aV bb 0 0)) hL)) (ai (kz1 k0) trivial)))
theorem yQW {Inv:Nat->(Option Addr)->Nat->Nat->Int->St->Prop} (hb:∀ k fe fg fk eI Z,Inv k fe fg fk eI Z->yBE slices aV bb fe fg fk eI Z (NX4 Inv k) Q2):∀ k fe fg fk eI Z,Inv k fe fg fk eI Z->yRA slices aV bb fe fg fk eI Z Q2 :=
 yWM (ai (xY 2) trivial) hb
theorem xHO {Nx:(Option Addr)->Nat->Nat->Int->St->Prop} (h1:lz Z 26 (zL fY (Int.toNat eI*1)) (.slice qG lI cH)) (h2:yM Pg 26 26 (.slice fe fg fk) (.slice qG lI cH) Z=some (.slice qB lE cB,ZVB)) (nx:Nx qB lE cB (eI+1) ZVB) (u1:eI<(aV:Int):=by omega) (u2:Ix eI aV:=by omega) (u3:I6 (eI+1):=by omega):yBE (some fY) aV bb fe fg fk eI Z Nx Q2 :=
 kO 0 (qB,lE,cB,eI+1) [.b true,.i,.l (.slice qG lI cH),.g,.g,.g,.e (.slice qB lE cB) ZVB,.g,.n (eI+1),.g] (fun _ f=>an5 (zR u1) u2 h1 h2 (w64 u3) f) nx
theorem xHN {Nx:(Option Addr)->Nat->Nat->Int->St->Prop} (nx:Q2 fe fg fk Z) (u1:¬ eI<(aV:Int):=by omega):yBE slices aV bb fe fg fk eI Z Nx Q2 :=
 kO 1 (fe,fg,fk) [.b false] (fun _ f=>ai (zT u1) f) nx
theorem yQV (h1:qm 120 [.slice none 0 0,iV aW] Z (.slice qM lK cN) ZE) (hL:yRA slices aV bb qM lK cN 0 ZE P2) (k2:∀ p6_2' l6_2' c6_2' Z',P2 p6_2' l6_2' c6_2' Z'->yBC slices aV bb p6_2' l6_2' c6_2' Z' Q):yBD slices aV bb aW Z Q :=
 sK [.g,.c (.slice qM lK cN) ZE,.g,.g,.g,.g,.lf 36 (zKO slices aV bb qM lK cN 0) [zOJ slices aV bb P2]] (ai h1 (ai (ai tt (ai (arf (zKO slices aV bb qM lK cN 0)) hL)) (ai (kz3 k2) trivial)))
theorem yQU (nx:Q (.slice fe fg fk) Z):yBC slices aV bb fe fg fk Z Q :=
 sK [.g,.g] nx
theorem xOP (h1:yW Pg (evL [.slice s s_l s_c]) Z (.call { callee:=.builtin .cap,args:=⟨xI 1⟩,argTypes:=⟨[26]⟩ })=some (iV n1)) (h2:yW Pg (evL [.slice s s_l s_c]) Z (.call { callee:=.builtin .cap,args:=⟨xI 1⟩,argTypes:=⟨[26]⟩ })=some (iV n2)) (h3:vQ Pg Z 26 (.slice s s_l s_c) none (some (iV n2)) none=some (.slice q3 l3 c3)) (h4:yM Pg 26 3 (.slice q3 l3 c3) (iV (n-(n1-(s_l:Int)))) Z=some (.slice q5 l5 c5,Z4)) (h5:vQ Pg Z4 26 (.slice q5 l5 c5) none (some (iV (s_l:Int))) none=some (.slice q6 l6 c6)) (nx:Q (.slice q6 l6 c6) Z4) (u1:¬ n<0:=by omega) (u2:I6 (n1-(s_l:Int)):=by omega) (u3:I6 (n-(n1-(s_l:Int))):=by omega) (u4:0<(n-(n1-(s_l:Int))):=by omega):qg 120 [.slice s s_l s_c,iV n] Z Q :=
 zH [.g,.g,.b false,.g,.g,.v (iV n1),.g,.g,.n (n1-(s_l:Int)),.n (n-(n1-(s_l:Int))),.g,.g,.b true,.g,.g,.v (iV n2),.v (.slice q3 l3 c3),.g,.e (.slice q5 l5 c5) Z4,.g,.g,.v (.slice q6 l6 c6),.g,.g,.g] (kd (an3 (zT u1) h1 (w64 u2) (an6 (w64 u3) (zR u4) h2 h3 h4 h5 nx)))
theorem xOO (h1:yW Pg (evL [.slice s s_l s_c]) Z (.call { callee:=.builtin .cap,args:=⟨xI 1⟩,argTypes:=⟨[26]⟩ })=some (iV n1)) (nx:Q (.slice s s_l s_c) Z) (u1:¬ n<0:=by omega) (u2:I6 (n1-(s_l:Int)):=by omega) (u3:I6 (n-(n1-(s_l:Int))):=by omega) (u4:¬ 0<(n-(n1-(s_l:Int))):=by omega):qg 120 [.slice s s_l s_c,iV n] Z Q :=
 zH [.g,.g,.b false,.g,.g,.v (iV n1),.g,.g,.n (n1-(s_l:Int)),.n (n-(n1-(s_l:Int))),.g,.g,.b false,.g,.g] (kd (an5 (zT u1) h1 (w64 u2) (w64 u3) (zT u4) nx))
end
end Go.Proofs.YtgfiniccfpfplaaGreat
