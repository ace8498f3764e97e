import Derived.Test.YtgfiniccfpfplaaGreatTy
import Derived.Test.YtgfiniccfpfplaaGreatSV
import Derived.Test.YtgfiniccfpfplaaGreatTC
set_option linter.unusedVariables false
set_option maxRecDepth 20000
set_option linter.unusedSimpArgs false
namespace Go.Proofs.YtgfiniccfpfplaaGreat
open Go Go.Lay
open Tryz renaming prog -> Pg
theorem xGM {ak am ar ah duty:Int} {af ae dd:oAa} {ac ad aa ab bx bI:Nat} {most:Bool} {Z:St} {Q:vPa}:let y0:=Z.row (wkc ak af ac ad ae aa ab am ar ah) 6;∀ (h1:zD Pg 36 [.agg ⟨wkc ak af ac ad ae aa ab am ar ah⟩] y0 (.bool true) y0) (nx:Q (.bool true) y0) (u1:((ac:Nat):Int)=0:=by omega),yCA Pg 15 12 [.agg ⟨wkc ak af ac ad ae aa ab am ar ah⟩,.slice dd bx bI,.int .u8 duty,.bool most] Z Q :=
 let s1:=Z.row (wkc ak af ac ad ae aa ab am ar ah) 6;fun h1 nx u1=>xAK [.g,.g,.l (.agg ⟨wkc ak af ac ad ae aa ab am ar ah⟩),.c (.bool true) s1,.g,.g,.g,.l (.slice af ac ad),.g,.b true,.g,.c (.bool true) s1,.g] (kc (by kernel_rfl) (an5 ((zC _ _ _).rw.ldN zBG uC (k:=0) rfl rfl (nle rfl):zB Pg s1 25 ⟨Z.y,0,none⟩=some (.agg ⟨wkc ak af ac ad ae aa ab am ar ah⟩)) (zD.top (aw:=15) h1) ((zC _ _ _).rw.ld zAF (k:=1) rfl:zB Pg s1 22 ⟨Z.y,1,none⟩=some (.slice af ac ad)) (xK u1) (xJN:zCW (zFF Pg 15) (.func 15) [] s1 (.bool true) s1) nx))
noncomputable def zLX:Code:=(Code.part [1,1,1,1,1,1,1,0,1,0,0] (zS Pg 12))
def zBS (BA:Nat) (q28:oAa) (l28 c28:Nat) (n31:Int) (q47:oAa) (l47 c47:Nat) (bJ:Int):lNa:=[(4,.pointer (some ⟨BA,0,none⟩)),(9,.slice q28 l28 c28),(13,iV n31),(14,.slice q47 l47 c47),(16,iV bJ)]
def yWQ (BA:Nat) (q28:oAa) (l28 c28:Nat) (n31:Int) (q47:oAa) (l47 c47:Nat) (Q:Int->St->Prop):Alt:=⟨Int,.normal,fun t=>zBS BA q28 l28 c28 n31 q47 l47 c47 t,fun t=>[],fun t Z=>Q t Z⟩
def zVB (BA:Nat) (q28:oAa) (l28 c28:Nat) (n31:Int) (q47:oAa) (l47 c47:Nat) (t8_1:Bool):lNa:=[(8,.bool t8_1)]
def zEW (BA:Nat) (q28:oAa) (l28 c28:Nat) (n31:Int) (q47:oAa) (l47 c47:Nat) (Q:Bool->St->Prop):Alt:=⟨Bool,.ret,fun t=>zVB BA q28 l28 c28 n31 q47 l47 c47 t,fun t=>[],fun t Z=>Q t Z⟩
def zVC (BA:Nat) (q28:oAa) (l28 c28:Nat) (n31:Int) (q47:oAa) (l47 c47:Nat):lNa:=[(4,.pointer (some ⟨BA,0,none⟩)),(9,.slice q28 l28 c28),(13,iV n31),(14,.slice q47 l47 c47)]
def zEX (BA:Nat) (q28:oAa) (l28 c28:Nat) (n31:Int) (q47:oAa) (l47 c47:Nat) (Q:St->Prop):Alt:=⟨Unit,(.exit 0),fun t=>zVC BA q28 l28 c28 n31 q47 l47 c47,fun t=>[],fun t Z=>Q Z⟩
def zLZ (BA:Nat) (q28:oAa) (l28 c28:Nat) (n31:Int) (q47:oAa) (l47 c47:Nat) (bJ:Int) (Z:St) (Nx:Int->St->Prop) (Qr:Bool->St->Prop) (Q0:St->Prop):Prop:=yN Pg (zFF Pg 15) none zLX 130 (zBS BA q28 l28 c28 n31 q47 l47 c47 bJ) [] [yWQ BA q28 l28 c28 n31 q47 l47 c47 Nx,zEW BA q28 l28 c28 n31 q47 l47 c47 Qr,zEX BA q28 l28 c28 n31 q47 l47 c47 Q0] Z
def zLY (BA:Nat) (q28:oAa) (l28 c28:Nat) (n31:Int) (q47:oAa) (l47 c47:Nat) (bJ:Int) (Z:St) (Qr:Bool->St->Prop) (Q0:St->Prop):Prop:=yR Pg (zFF Pg 15) none zLX 130 (zBS BA q28 l28 c28 n31 q47 l47 c47 bJ) [] [zEW BA q28 l28 c28 n31 q47 l47 c47 Qr,zEX BA q28 l28 c28 n31 q47 l47 c47 Q0] Z
theorem yKC {BA:Nat} {q28:oAa} {l28 c28:Nat} {n31:Int} {q47:oAa} {l47 c47:Nat} {Inv:Nat->Int->St->Prop} {Qr:Bool->St->Prop} {Q0:St->Prop} (hb:∀ k bJ Z,Inv k bJ Z->zLZ BA q28 l28 c28 n31 q47 l47 c47 bJ Z (NX1 Inv k) Qr Q0):∀ k bJ Z,Inv k bJ Z->zLY BA q28 l28 c28 n31 q47 l47 c47 bJ Z Qr Q0 :=
 xF (And.intro zAR (And.intro (xX 0) trivial)) hb
theorem yWP {BA l28 c28 l47 c47 lA cE lH cG lK cH lS cP lW cT lX cU lO cM lN cL lY cV lGB cKB:Nat} {q28 q47 qD qF qG qO qS qT qL qK qU qJB:oAa} {n31 bJ nG nD nF nK nM nR nPB nQB nLB nMB nNB nOB nBa:Int} {ZM ZB ZV ZN:St} {Z:St} {Nx:Int->St->Prop} {Qr:Bool->St->Prop} {Q0:St->Prop} (h1:zB Pg Z 23 ⟨BA,2,none⟩=some (.slice qD lA cE)) (h2:zB Pg Z 25 ⟨BA,0,none⟩=some (.agg ⟨wkc nG qF lH cG qG lK cH nD nF nK⟩)) (h3:zD Pg 17 [.agg ⟨wkc nG qF lH cG qG lK cH nD nF nK⟩] Z (.agg ⟨wkc nM qO lS cP qS lW cT nR nPB nQB⟩) ZM) (h4:zD Pg 34 [.slice q28 l28 c28,iV n31,iV bJ] ZM (.slice qT lX cU) ZB) (h5:zB Pg ZB 25 ⟨BA,0,none⟩=some (.agg ⟨wkc nLB qL lO cM qK lN cL nMB nNB nOB⟩)) (h6:zD Pg 40 [.agg ⟨wkc nLB qL lO cM qK lN cL nMB nNB nOB⟩] ZB (.slice qU lY cV) ZV) (h7:zD Pg 18 [.agg ⟨wkc nM qO lS cP qS lW cT nR nPB nQB⟩,.slice qT lX cU,.slice qU lY cV] ZV (.tuple ⟨[.slice qJB lGB cKB,iV nBa]⟩) ZN) (h8:zI Z.y [.agg ⟨wkc nG qF lH cG qG lK cH nD nF nK⟩]) (h9:zI ZM.y [.slice q28 l28 c28,iV n31,iV bJ]) (h10:zI ZB.y [.pointer (some ⟨BA,0,none⟩)]) (h11:zI ZB.y [.agg ⟨wkc nLB qL lO cM qK lN cL nMB nNB nOB⟩]) (h12:zI ZV.y [.agg ⟨wkc nM qO lS cP qS lW cT nR nPB nQB⟩,.slice qT lX cU,.slice qU lY cV]) (h13:zB Pg Z 25 ⟨BA,0,none⟩=some (.agg ⟨wkc nLB qL lO cM qK lN cL nMB nNB nOB⟩)) (h14:(((⟨BA,0,none⟩:Addr).block<ZM.y/\zM RD (.agg ⟨wkc nLB qL lO cM qK lN cL nMB nNB nOB⟩)=true)/\zB Pg ZM 25 ⟨BA,0,none⟩=some (.agg ⟨wkc nLB qL lO cM qK lN cL nMB nNB nOB⟩))) (h15:(((⟨BA,0,none⟩:Addr).block<ZB.y/\zM RD (.agg ⟨wkc nLB qL lO cM qK lN cL nMB nNB nOB⟩)=true)/\zB Pg ZB 25 ⟨BA,0,none⟩=some (.agg ⟨wkc nLB qL lO cM qK lN cL nMB nNB nOB⟩))) (h16:zD Pg 43 [.slice q47 l47 c47,iV bJ] ZN (.bool true) ZN) (nx:Nx (bJ+1) ZN) (u1:bJ<((lA:Nat):Int):=by omega) (u2:nBa=0:=by omega) (u3:((lGB:Nat):Int)=0:=by omega) (u4:I6 (bJ+1):=by omega) (b_BA:BA<Z.y:=by omega):zLZ BA q28 l28 c28 n31 q47 l47 c47 bJ Z Nx Qr Q0 :=
 kO 0 (bJ+1) [.g,.g,.l (.slice qD lA cE),.g,.b true,.l (.agg ⟨wkc nG qF lH cG qG lK cH nD nF nK⟩),.c (.agg ⟨wkc nM qO lS cP qS lW cT nR nPB nQB⟩) ZM,.g,.g,.g,.c (.slice qT lX cU) ZB,.l (.agg ⟨wkc nLB qL lO cM qK lN cL nMB nNB nOB⟩),.c (.slice qU lY cV) ZV,.c (.tuple ⟨[.slice qJB lGB cKB,iV nBa]⟩) ZN,.g,.g,.g,.g,.g,.g,.b false,.g,.g,.g,.c (.bool true) ZN,.g,.g,.b true,.g,.g,.g,.n (bJ+1),.g] (fun _ f=>an4 h1 (zR u1) h2 (zD.top (aw:=15) h3) (an6 (zD.top (aw:=15) h4) h5 (zD.top (aw:=15) h6) (zD.top (aw:=15) h7) ((zE (zP b_BA) zH):zI Z.y [.pointer (some ⟨BA,0,none⟩)]) h8 (an6 h9 h10 h11 h12 (⟨⟨b_BA,rfl⟩,h13⟩:(((⟨BA,0,none⟩:Addr).block<Z.y/\zM RD (.agg ⟨wkc nLB qL lO cM qK lN cL nMB nNB nOB⟩)=true)/\zB Pg Z 25 ⟨BA,0,none⟩=some (.agg ⟨wkc nLB qL lO cM qK lN cL nMB nNB nOB⟩))) h14 (an6 h14 h15 (vF u2) (zD.top (aw:=15) h16) (xK u3) (w64 u4) f)))) nx
theorem yWO {BA l28 c28 l47 c47 lA cE lH cG lK cH lS cP lW cT lX cU lO cM lN cL lY cV lGB cKB:Nat} {q28 q47 qD qF qG qO qS qT qL qK qU qJB:oAa} {n31 bJ nG nD nF nK nM nR nPB nQB nLB nMB nNB nOB nBa:Int} {ZM ZB ZV ZN:St} {Z:St} {Nx:Int->St->Prop} {Qr:Bool->St->Prop} {Q0:St->Prop} (h1:zB Pg Z 23 ⟨BA,2,none⟩=some (.slice qD lA cE)) (h2:zB Pg Z 25 ⟨BA,0,none⟩=some (.agg ⟨wkc nG qF lH cG qG lK cH nD nF nK⟩)) (h3:zD Pg 17 [.agg ⟨wkc nG qF lH cG qG lK cH nD nF nK⟩] Z (.agg ⟨wkc nM qO lS cP qS lW cT nR nPB nQB⟩) ZM) (h4:zD Pg 34 [.slice q28 l28 c28,iV n31,iV bJ] ZM (.slice qT lX cU) ZB) (h5:zB Pg ZB 25 ⟨BA,0,none⟩=some (.agg ⟨wkc nLB qL lO cM qK lN cL nMB nNB nOB⟩)) (h6:zD Pg 40 [.agg ⟨wkc nLB qL lO cM qK lN cL nMB nNB nOB⟩] ZB (.slice qU lY cV) ZV) (h7:zD Pg 18 [.agg ⟨wkc nM qO lS cP qS lW cT nR nPB nQB⟩,.slice qT lX cU,.slice qU lY cV] ZV (.tuple ⟨[.slice qJB lGB cKB,iV nBa]⟩) ZN) (h8:zI Z.y [.agg ⟨wkc nG qF lH cG qG lK cH nD nF nK⟩]) (h9:zI ZM.y [.slice q28 l28 c28,iV n31,iV bJ]) (h10:zI ZB.y [.pointer (some ⟨BA,0,none⟩)]) (h11:zI ZB.y [.agg ⟨wkc nLB qL lO cM qK lN cL nMB nNB nOB⟩]) (h12:zI ZV.y [.agg ⟨wkc nM qO lS cP qS lW cT nR nPB nQB⟩,.slice qT lX cU,.slice qU lY cV]) (h13:zB Pg Z 25 ⟨BA,0,none⟩=some (.agg ⟨wkc nLB qL lO cM qK lN cL nMB nNB nOB⟩)) (h14:(((⟨BA,0,none⟩:Addr).block<ZM.y/\zM RD (.agg ⟨wkc nLB qL lO cM qK lN cL nMB nNB nOB⟩)=true)/\zB Pg ZM 25 ⟨BA,0,none⟩=some (.agg ⟨wkc nLB qL lO cM qK lN cL nMB nNB nOB⟩))) (h15:(((⟨BA,0,none⟩:Addr).block<ZB.y/\zM RD (.agg ⟨wkc nLB qL lO cM qK lN cL nMB nNB nOB⟩)=true)/\zB Pg ZB 25 ⟨BA,0,none⟩=some (.agg ⟨wkc nLB qL lO cM qK lN cL nMB nNB nOB⟩))) (h16:zD Pg 43 [.slice q47 l47 c47,iV bJ] ZN (.bool false) ZN) (nx:Nx (bJ+1) ZN) (u1:bJ<((lA:Nat):Int):=by omega) (u2:nBa=0:=by omega) (u3:¬ ((lGB:Nat):Int)=0:=by omega) (u4:I6 (bJ+1):=by omega) (b_BA:BA<Z.y:=by omega):zLZ BA q28 l28 c28 n31 q47 l47 c47 bJ Z Nx Qr Q0 :=
 kO 0 (bJ+1) [.g,.g,.l (.slice qD lA cE),.g,.b true,.l (.agg ⟨wkc nG qF lH cG qG lK cH nD nF nK⟩),.c (.agg ⟨wkc nM qO lS cP qS lW cT nR nPB nQB⟩) ZM,.g,.g,.g,.c (.slice qT lX cU) ZB,.l (.agg ⟨wkc nLB qL lO cM qK lN cL nMB nNB nOB⟩),.c (.slice qU lY cV) ZV,.c (.tuple ⟨[.slice qJB lGB cKB,iV nBa]⟩) ZN,.g,.g,.g,.g,.g,.g,.b false,.g,.g,.g,.c (.bool false) ZN,.g,.g,.b false,.g,.g,.g,.n (bJ+1),.g] (fun _ f=>an4 h1 (zR u1) h2 (zD.top (aw:=15) h3) (an6 (zD.top (aw:=15) h4) h5 (zD.top (aw:=15) h6) (zD.top (aw:=15) h7) ((zE (zP b_BA) zH):zI Z.y [.pointer (some ⟨BA,0,none⟩)]) h8 (an6 h9 h10 h11 h12 (⟨⟨b_BA,rfl⟩,h13⟩:(((⟨BA,0,none⟩:Addr).block<Z.y/\zM RD (.agg ⟨wkc nLB qL lO cM qK lN cL nMB nNB nOB⟩)=true)/\zB Pg Z 25 ⟨BA,0,none⟩=some (.agg ⟨wkc nLB qL lO cM qK lN cL nMB nNB nOB⟩))) h14 (an6 h14 h15 (vF u2) (zD.top (aw:=15) h16) (xH u3) (w64 u4) f)))) nx
theorem yWN {BA l28 c28 l47 c47 lA cE:Nat} {q28 q47 qD:oAa} {n31 bJ:Int} {Z:St} {Nx:Int->St->Prop} {Qr:Bool->St->Prop} {Q0:St->Prop} (h1:zB Pg Z 23 ⟨BA,2,none⟩=some (.slice qD lA cE)) (nx:Q0 Z) (u1:¬ bJ<((lA:Nat):Int):=by omega):zLZ BA q28 l28 c28 n31 q47 l47 c47 bJ Z Nx Qr Q0 :=
 kO 2 () [.g,.g,.l (.slice qD lA cE),.g,.b false] (fun _ f=>an2 h1 (zT u1) f) nx
def zVD (BA:Nat) (q28:oAa) (l28 c28:Nat) (n31:Int) (q47:oAa) (l47 c47:Nat) (t8_1:Bool) (Z:St) (Q:vPa):Prop:=kZ (zFF Pg 15) (zS Pg 12) [1,1,1,1,1,1,1,0,1,0] (kFn Pg 12 Q) .ret 130 (zVB BA q28 l28 c28 n31 q47 l47 c47 t8_1) Z
def zAT (BA:Nat) (q28:oAa) (l28 c28:Nat) (n31:Int) (q47:oAa) (l47 c47:Nat) (Z:St) (Q:vPa):Prop:=kZ (zFF Pg 15) (zS Pg 12) [1,1,1,1,1,1,1,0,1,0] (kFn Pg 12 Q) (.exit 0) 130 (zVC BA q28 l28 c28 n31 q47 l47 c47) Z
theorem xGJ {ak am ar ah duty:Int} {af ae dd:oAa} {ac ad aa ab bx bI:Nat} {most:Bool} {Z:St} {Q:vPa}:let y0:=Z.row (wkc ak af ac ad ae aa ab am ar ah) 6;∀ (h1:zD Pg 36 [.agg ⟨wkc ak af ac ad ae aa ab am ar ah⟩] y0 (.bool false) y0) (nx:Q (.bool true) y0),yCA Pg 15 12 [.agg ⟨wkc ak af ac ad ae aa ab am ar ah⟩,.slice dd bx bI,.int .u8 duty,.bool most] Z Q :=
 let s1:=Z.row (wkc ak af ac ad ae aa ab am ar ah) 6;fun h1 nx=>xAK [.g,.g,.l (.agg ⟨wkc ak af ac ad ae aa ab am ar ah⟩),.c (.bool false) s1,.g,.g,.g,.c (.bool true) s1,.g] (kc (by kernel_rfl) (an3 ((zC _ _ _).rw.ldN zBG uC (k:=0) rfl rfl (nle rfl):zB Pg s1 25 ⟨Z.y,0,none⟩=some (.agg ⟨wkc ak af ac ad ae aa ab am ar ah⟩)) (zD.top (aw:=15) h1) (xJN:zCW (zFF Pg 15) (.func 15) [] s1 (.bool true) s1) nx))
theorem yKB {BA l28 c28 l47 c47:Nat} {n31 nBA:Int} {q47:oAa} {q28_a:Addr} {Z:St} {Q:vPa} (h1:zB Pg Z 3 (zL q28_a (Int.toNat n31*1))=some (iV nBA)) (nx:Q (.bool true) Z) (u1:Ix n31 l28:=by omega) (u2:nBA<0:=by omega):zAT BA (some q28_a) l28 c28 n31 q47 l47 c47 Z Q :=
 sK [.g,.g,.i,.l (iV nBA),.b true,.g,.g,.g,.g,.g,.c (.bool true) Z,.g,.g] (an4 u1 h1 (zR u2) (xJN:zCW (zFF Pg 15) (.func 15) [] Z (.bool true) Z) nx)
theorem yKA {BA l28 c28 l47 c47 lHB cBB lIB cCB lJB cDB lKB cEB lLB cFB:Nat} {n31 nBA nBb nBc nBd nBe nBf nBg nBh nBi nCR:Int} {q47 qBB qCB qDB qEB qFB:oAa} {q28_a:Addr} {ZDB ZH:St} {Z:St} {Q:vPa} (h1:zB Pg Z 3 (zL q28_a (Int.toNat n31*1))=some (iV nBA)) (h2:zB Pg Z 25 ⟨BA,0,none⟩=some (.agg ⟨wkc nBb qBB lHB cBB qCB lIB cCB nBc nBd nBe⟩)) (h3:zD Pg 17 [.agg ⟨wkc nBb qBB lHB cBB qCB lIB cCB nBc nBd nBe⟩] Z (.agg ⟨wkc nBf qDB lJB cDB qEB lKB cEB nBg nBh nBi⟩) ZDB) (h4:zD Pg 19 [.slice (some q28_a) l28 c28] ZDB (.slice qFB lLB cFB) ZH) (h5:zD Pg 35 [.agg ⟨wkc nBf qDB lJB cDB qEB lKB cEB nBg nBh nBi⟩,.slice qFB lLB cFB,iV 0] ZH (.bool true) ZH) (h6:zB Pg ZH 3 (zL q28_a (Int.toNat n31*1))=some (iV nCR)) (h7:zD Pg 43 [.slice q47 l47 c47,iV nCR] ZH (.bool true) ZH) (nx:Q (.bool true) ZH) (u1:Ix n31 l28:=by omega) (u2:¬ nBA<0:=by omega):zAT BA (some q28_a) l28 c28 n31 q47 l47 c47 Z Q :=
 sK [.g,.g,.i,.l (iV nBA),.b false,.g,.l (.agg ⟨wkc nBb qBB lHB cBB qCB lIB cCB nBc nBd nBe⟩),.c (.agg ⟨wkc nBf qDB lJB cDB qEB lKB cEB nBg nBh nBi⟩) ZDB,.g,.c (.slice qFB lLB cFB) ZH,.c (.bool true) ZH,.g,.g,.g,.g,.g,.g,.i,.l (iV nCR),.c (.bool true) ZH,.g,.g,.c (.bool true) ZH,.g,.g] (an5 u1 h1 (zT u2) h2 (zD.top (aw:=15) h3) (an6 (zD.top (aw:=15) h4) (zD.top (aw:=15) h5) u1 h6 (zD.top (aw:=15) h7) (xJN:zCW (zFF Pg 15) (.func 15) [] ZH (.bool true) ZH) nx))
theorem yJZ {BA l28 c28 l47 c47 lHB cBB lIB cCB lJB cDB lKB cEB lLB cFB:Nat} {n31 nBA nBb nBc nBd nBe nBf nBg nBh nBi:Int} {q47 qBB qCB qDB qEB qFB:oAa} {q28_a:Addr} {ZDB ZH:St} {Z:St} {Q:vPa} (h1:zB Pg Z 3 (zL q28_a (Int.toNat n31*1))=some (iV nBA)) (h2:zB Pg Z 25 ⟨BA,0,none⟩=some (.agg ⟨wkc nBb qBB lHB cBB qCB lIB cCB nBc nBd nBe⟩)) (h3:zD Pg 17 [.agg ⟨wkc nBb qBB lHB cBB qCB lIB cCB nBc nBd nBe⟩] Z (.agg ⟨wkc nBf qDB lJB cDB qEB lKB cEB nBg nBh nBi⟩) ZDB) (h4:zD Pg 19 [.slice (some q28_a) l28 c28] ZDB (.slice qFB lLB cFB) ZH) (h5:zD Pg 35 [.agg ⟨wkc nBf qDB lJB cDB qEB lKB cEB nBg nBh nBi⟩,.slice qFB lLB cFB,iV 0] ZH (.bool false) ZH) (nx:Q (.bool true) ZH) (u1:Ix n31 l28:=by omega) (u2:¬ nBA<0:=by omega):zAT BA (some q28_a) l28 c28 n31 q47 l47 c47 Z Q :=
 sK [.g,.g,.i,.l (iV nBA),.b false,.g,.l (.agg ⟨wkc nBb qBB lHB cBB qCB lIB cCB nBc nBd nBe⟩),.c (.agg ⟨wkc nBf qDB lJB cDB qEB lKB cEB nBg nBh nBi⟩) ZDB,.g,.c (.slice qFB lLB cFB) ZH,.c (.bool false) ZH,.g,.g,.g,.g,.g,.c (.bool true) ZH,.g,.g] (an2 u1 h1 (an6 (zT u2) h2 (zD.top (aw:=15) h3) (zD.top (aw:=15) h4) (zD.top (aw:=15) h5) (xJN:zCW (zFF Pg 15) (.func 15) [] ZH (.bool true) ZH) nx))
theorem xGL {ak am ar ah duty n4 n7 n8 n9 n10 n13 n14 n15 n18 n19 n21 n24 n25 n26 n31 n32 n35 n36 n37 n38 n41 n42 n43 n48:Int} {af ae dd q2 q5 q6 q11 q12 q17 q22 q23 q28 q30 q33 q34 q39 q40 q45 q47 q50:Option Addr} {ac ad aa ab bx bI l2 c2 l5 c5 l6 c6 l11 c11 l12 c12 l17 c17 l22 c22 l23 c23 l28 c28 l30 c30 l33 c33 l34 c34 l39 c39 l40 c40 l45 c45 l47 c47 l50 c50:Nat} {Z3 Z16 Z20 Z29 Z44 Z46 Z49:St} {Z:St} {Q:Value->St->Prop} {Pr:Bool->St->Prop} {P0:St->Prop} (h1:zD Pg 36 [.agg ⟨wkc ak af ac ad ae aa ab am ar ah⟩] (Z.row (wkc ak af ac ad ae aa ab am ar ah) 6) (.bool true) (Z.row (wkc ak af ac ad ae aa ab am ar ah) 6)) (h2:zD Pg 39 [.agg ⟨wkc ak af ac ad ae aa ab am ar ah⟩,.slice dd bx bI] (Z.row (wkc ak af ac ad ae aa ab am ar ah) 6) (.slice q2 l2 c2) Z3) (h3:zB Pg Z3 25 ⟨Z.y,0,none⟩=some (.agg ⟨wkc n4 q5 l5 c5 q6 l6 c6 n7 n8 n9⟩)) (h4:zD Pg 17 [.agg ⟨wkc n4 q5 l5 c5 q6 l6 c6 n7 n8 n9⟩] Z3 (.agg ⟨wkc n10 q11 l11 c11 q12 l12 c12 n13 n14 n15⟩) Z16) (h5:zD Pg 37 [.agg ⟨wkc n10 q11 l11 c11 q12 l12 c12 n13 n14 n15⟩] Z16 (.tuple ⟨[.slice q17 l17 c17,iV n18,iV n19]⟩) Z20) (h6:zB Pg Z20 25 ⟨Z.y,0,none⟩=some (.agg ⟨wkc n21 q22 l22 c22 q23 l23 c23 n24 n25 n26⟩)) (h7:zD Pg 21 [.agg ⟨wkc n21 q22 l22 c22 q23 l23 c23 n24 n25 n26⟩,.slice q17 l17 c17] Z20 (.bool true) Z20) (h8:zD Pg 19 [.slice q17 l17 c17] Z20 (.slice q28 l28 c28) Z29) (h9:zB Pg Z29 22 ⟨Z.y,1,none⟩=some (.slice q30 l30 c30)) (h10:uE Pg .rem 3 (.tmp 51) (.tmp 54) (iV duty) (iV ((l30:Nat):Int))=some (iV n31)) (h11:zB Pg Z29 25 ⟨Z.y,0,none⟩=some (.agg ⟨wkc n32 q33 l33 c33 q34 l34 c34 n35 n36 n37⟩)) (h12:zD Pg 17 [.agg ⟨wkc n32 q33 l33 c33 q34 l34 c34 n35 n36 n37⟩] Z29 (.agg ⟨wkc n38 q39 l39 c39 q40 l40 c40 n41 n42 n43⟩) Z44) (h13:zD Pg 19 [.slice q28 l28 c28] Z44 (.slice q45 l45 c45) Z46) (h14:zD Pg 32 [.agg ⟨wkc n38 q39 l39 c39 q40 l40 c40 n41 n42 n43⟩,.slice q45 l45 c45,iV n31] Z46 (.tuple ⟨[.slice q47 l47 c47,iV n48]⟩) Z49) (h15:zB Pg Z49 23 ⟨Z.y,2,none⟩=some (.slice q50 l50 c50)) (h16:zD Pg 42 [.slice q47 l47 c47,iV 0,iV (((l50:Nat):Int)-1)] Z49 (.bool true) Z49) (hL:zLY Z.y q28 l28 c28 n31 q47 l47 c47 0 Z49 Pr P0) (kr:∀ t8_1' Z',Pr t8_1' Z'->zVD Z.y q28 l28 c28 n31 q47 l47 c47 t8_1' Z' Q) (k0:∀ Z',P0 Z'->zAT Z.y q28 l28 c28 n31 q47 l47 c47 Z' Q) (u1:¬ ((ac:Nat):Int)=0:=by omega) (u2:n19=0:=by omega) (u3:I6 duty:=by omega) (u4:n48=0:=by omega) (u5:I6 (((l50:Nat):Int)-1):=by omega):yCA Pg 15 12 [.agg ⟨wkc ak af ac ad ae aa ab am ar ah⟩,.slice dd bx bI,.int .u8 duty,.bool true] Z Q :=
 let s1:=Z.row (wkc ak af ac ad ae aa ab am ar ah) 6;xAL (cl:=zLX) (n0:=130) (n:=130) (l':=zBS Z.y q28 l28 c28 n31 q47 l47 c47 0) (ms':=[]) (altsL:=[zEW Z.y q28 l28 c28 n31 q47 l47 c47 Pr,zEX Z.y q28 l28 c28 n31 q47 l47 c47 P0]) (Z1:=Z49) [1,1,1,1,1,1,1,0,1,0] [.g,.g,.l (.agg ⟨wkc ak af ac ad ae aa ab am ar ah⟩),.c (.bool true) s1,.g,.g,.g,.l (.slice af ac ad),.g,.b false,.g,.l (.agg ⟨wkc ak af ac ad ae aa ab am ar ah⟩),.g,.c (.slice q2 l2 c2) Z3,.g,.g,.l (.agg ⟨wkc n4 q5 l5 c5 q6 l6 c6 n7 n8 n9⟩),.c (.agg ⟨wkc n10 q11 l11 c11 q12 l12 c12 n13 n14 n15⟩) Z16,.c (.tuple ⟨[.slice q17 l17 c17,iV n18,iV n19]⟩) Z20,.g,.g,.g,.g,.g,.g,.g,.g,.b false,.g,.l (.agg ⟨wkc n21 q22 l22 c22 q23 l23 c23 n24 n25 n26⟩),.g,.c (.bool true) Z20,.g,.g,.g,.c (.slice q28 l28 c28) Z29,.g,.g,.n duty,.g,.l (.slice q30 l30 c30),.g,.v (iV n31),.g,.l (.agg ⟨wkc n32 q33 l33 c33 q34 l34 c34 n35 n36 n37⟩),.c (.agg ⟨wkc n38 q39 l39 c39 q40 l40 c40 n41 n42 n43⟩) Z44,.g,.c (.slice q45 l45 c45) Z46,.g,.c (.tuple ⟨[.slice q47 l47 c47,iV n48]⟩) Z49,.g,.g,.g,.g,.g,.g,.b false,.g,.g,.g,.l (.slice q50 l50 c50),.g,.n (((l50:Nat):Int)-1),.c (.bool true) Z49,.g,.g,.g] (by kernel_rfl) (by kernel_rfl)
  (kc (by kernel_rfl) (an6 ((zC _ _ _).rw.ldN zBG uC (k:=0) rfl rfl (nle rfl):zB Pg s1 25 ⟨Z.y,0,none⟩=some (.agg ⟨wkc ak af ac ad ae aa ab am ar ah⟩)) (zD.top (aw:=15) h1) ((zC _ _ _).rw.ld zAF (k:=1) rfl:zB Pg s1 22 ⟨Z.y,1,none⟩=some (.slice af ac ad)) (xH u1) ((zC _ _ _).rw.ldN zBG uC (k:=0) rfl rfl (nle rfl):zB Pg s1 25 ⟨Z.y,0,none⟩=some (.agg ⟨wkc ak af ac ad ae aa ab am ar ah⟩)) (zD.top (aw:=15) h2) (an6 h3 (zD.top (aw:=15) h4) (zD.top (aw:=15) h5) (vF u2) h6 (zD.top (aw:=15) h7) (an6 (zD.top (aw:=15) h8) (w64 u3) h9 h10 h11 (zD.top (aw:=15) h12) (an6 (zD.top (aw:=15) h13) (zD.top (aw:=15) h14) (vF u4) h15 (w64 u5) (zD.top (aw:=15) h16) (And.intro (And.intro (Eq.refl ([]:List Ans)) (Eq.refl Z49)) (And.intro tt (And.intro (arf (zBS Z.y q28 l28 c28 n31 q47 l47 c47 0)) (Eq.refl ([]:List Nat))))))))))
  hL (And.intro (fun (t:Bool) (g':Nat->Value) (Z':St) (q:Pr t Z')=>kr t Z' q g') (And.intro (fun (t:Unit) (g':Nat->Value) (Z':St) (q:P0 Z')=>k0 Z' q g') trivial))
theorem xGK {ak am ar ah duty n5 n6 n9 n10 n11 n12 n15 n16 n17 n22:Int} {af ae dd q2 q4 q7 q8 q13 q14 q19 q21 q24:Option Addr} {ac ad aa ab bx bI l2 c2 l4 c4 l7 c7 l8 c8 l13 c13 l14 c14 l19 c19 l21 c21 l24 c24:Nat} {Z3 Z18 Z20 Z23:St} {Z:St} {Q:Value->St->Prop} {Pr:Bool->St->Prop} {P0:St->Prop} (h1:zD Pg 36 [.agg ⟨wkc ak af ac ad ae aa ab am ar ah⟩] (Z.row (wkc ak af ac ad ae aa ab am ar ah) 6) (.bool true) (Z.row (wkc ak af ac ad ae aa ab am ar ah) 6)) (h2:zD Pg 39 [.agg ⟨wkc ak af ac ad ae aa ab am ar ah⟩,.slice dd bx bI] (Z.row (wkc ak af ac ad ae aa ab am ar ah) 6) (.slice q2 l2 c2) Z3) (h3:zB Pg Z3 22 ⟨Z.y,1,none⟩=some (.slice q4 l4 c4)) (h4:uE Pg .rem 3 (.tmp 51) (.tmp 54) (iV duty) (iV ((l4:Nat):Int))=some (iV n5)) (h5:zB Pg Z3 25 ⟨Z.y,0,none⟩=some (.agg ⟨wkc n6 q7 l7 c7 q8 l8 c8 n9 n10 n11⟩)) (h6:zD Pg 17 [.agg ⟨wkc n6 q7 l7 c7 q8 l8 c8 n9 n10 n11⟩] Z3 (.agg ⟨wkc n12 q13 l13 c13 q14 l14 c14 n15 n16 n17⟩) Z18) (h7:zD Pg 19 [.slice q2 l2 c2] Z18 (.slice q19 l19 c19) Z20) (h8:zD Pg 32 [.agg ⟨wkc n12 q13 l13 c13 q14 l14 c14 n15 n16 n17⟩,.slice q19 l19 c19,iV n5] Z20 (.tuple ⟨[.slice q21 l21 c21,iV n22]⟩) Z23) (h9:zB Pg Z23 23 ⟨Z.y,2,none⟩=some (.slice q24 l24 c24)) (h10:zD Pg 42 [.slice q21 l21 c21,iV 0,iV (((l24:Nat):Int)-1)] Z23 (.bool true) Z23) (hL:zLY Z.y q2 l2 c2 n5 q21 l21 c21 0 Z23 Pr P0) (kr:∀ t8_1' Z',Pr t8_1' Z'->zVD Z.y q2 l2 c2 n5 q21 l21 c21 t8_1' Z' Q) (k0:∀ Z',P0 Z'->zAT Z.y q2 l2 c2 n5 q21 l21 c21 Z' Q) (u1:¬ ((ac:Nat):Int)=0:=by omega) (u2:I6 duty:=by omega) (u3:n22=0:=by omega) (u4:I6 (((l24:Nat):Int)-1):=by omega):yCA Pg 15 12 [.agg ⟨wkc ak af ac ad ae aa ab am ar ah⟩,.slice dd bx bI,.int .u8 duty,.bool false] Z Q :=
 let s1:=Z.row (wkc ak af ac ad ae aa ab am ar ah) 6;xAL (cl:=zLX) (n0:=130) (n:=130) (l':=zBS Z.y q2 l2 c2 n5 q21 l21 c21 0) (ms':=[]) (altsL:=[zEW Z.y q2 l2 c2 n5 q21 l21 c21 Pr,zEX Z.y q2 l2 c2 n5 q21 l21 c21 P0]) (Z1:=Z23) [1,1,1,1,1,1,1,0,1,0] [.g,.g,.l (.agg ⟨wkc ak af ac ad ae aa ab am ar ah⟩),.c (.bool true) s1,.g,.g,.g,.l (.slice af ac ad),.g,.b false,.g,.l (.agg ⟨wkc ak af ac ad ae aa ab am ar ah⟩),.g,.c (.slice q2 l2 c2) Z3,.g,.g,.g,.n duty,.g,.l (.slice q4 l4 c4),.g,.v (iV n5),.g,.l (.agg ⟨wkc n6 q7 l7 c7 q8 l8 c8 n9 n10 n11⟩),.c (.agg ⟨wkc n12 q13 l13 c13 q14 l14 c14 n15 n16 n17⟩) Z18,.g,.c (.slice q19 l19 c19) Z20,.g,.c (.tuple ⟨[.slice q21 l21 c21,iV n22]⟩) Z23,.g,.g,.g,.g,.g,.g,.b false,.g,.g,.g,.l (.slice q24 l24 c24),.g,.n (((l24:Nat):Int)-1),.c (.bool true) Z23,.g,.g,.g] (by kernel_rfl) (by kernel_rfl)
  (kc (by kernel_rfl) (an5 ((zC _ _ _).rw.ldN zBG uC (k:=0) rfl rfl (nle rfl):zB Pg s1 25 ⟨Z.y,0,none⟩=some (.agg ⟨wkc ak af ac ad ae aa ab am ar ah⟩)) (zD.top (aw:=15) h1) ((zC _ _ _).rw.ld zAF (k:=1) rfl:zB Pg s1 22 ⟨Z.y,1,none⟩=some (.slice af ac ad)) (xH u1) ((zC _ _ _).rw.ldN zBG uC (k:=0) rfl rfl (nle rfl):zB Pg s1 25 ⟨Z.y,0,none⟩=some (.agg ⟨wkc ak af ac ad ae aa ab am ar ah⟩)) (an6 (zD.top (aw:=15) h2) (w64 u2) h3 h4 h5 (zD.top (aw:=15) h6) (an6 (zD.top (aw:=15) h7) (zD.top (aw:=15) h8) (vF u3) h9 (w64 u4) (zD.top (aw:=15) h10) (And.intro (And.intro (Eq.refl ([]:List Ans)) (Eq.refl Z23)) (And.intro tt (And.intro (arf (zBS Z.y q2 l2 c2 n5 q21 l21 c21 0)) (Eq.refl ([]:List Nat)))))))))
  hL (And.intro (fun (t:Bool) (g':Nat->Value) (Z':St) (q:Pr t Z')=>kr t Z' q g') (And.intro (fun (t:Unit) (g':Nat->Value) (Z':St) (q:P0 Z')=>k0 Z' q g') trivial))
section
variable {Z z:St} {w:Wk} {p q r pw:Option Addr} {l m c d rl rc lw cw:Nat} {xs ws ys:List Int}
theorem xKI {lo hi:Int} (h1:xs.Pairwise (· < ·)) (h2:∀ x∈xs,lo<=x/\x<=hi):wG xs lo hi=true:=by
 unfold wG;rw [zBL];intro i hi';have e1:xs.getD i 0=xs[i]:=by rw [List.getD_eq_getElem?_getD,List.getElem?_eq_getElem hi'];rfl
 rw [Bool.and_eq_true,vG,e1];refine ⟨h2 _ (List.getElem_mem hi'), ?_⟩
 cases i with
 | zero=>rfl
 | succ i =>
  have e2:xs.getD (i+1-1) 0=xs[i]:=by rw [Nat.add_sub_cancel,List.getD_eq_getElem?_getD,List.getElem?_eq_getElem (by omega:i<xs.length)];rfl
  rw [e2,Bool.or_eq_true,decide_eq_true_iff];exact .inr (List.pairwise_iff_getElem.1 h1 i (i+1) (by omega) hi' (by omega))
theorem zXZ {i j k:Nat}:(xE w ys i j).contains (k:Int)=(decide (k<j) && uX w (ys.set i (k:Int))):=by
 rw [Bool.eq_iff_iff,Bool.and_eq_true,decide_eq_true_iff,List.contains_iff_mem];unfold xE;rw [List.mem_map];constructor
 ·rintro ⟨k',h,e⟩;obtain ⟨h1,h2⟩:=List.mem_filter.1 h;have:k'=k:=by omega
  subst this;exact ⟨List.mem_range.1 h1,h2⟩
 ·rintro ⟨h1,h2⟩;exact ⟨k,List.mem_filter.2 ⟨List.mem_range.2 h1,h2⟩,rfl⟩
theorem zUC {i j:Nat}:wG (xE w ys i j) 0 ((j:Int)-1)=true:=by
 refine xKI ?_ fun x hx=>?_
 ·unfold xE;rw [List.pairwise_map];refine (List.Pairwise.filter _ List.pairwise_lt_range).imp fun h=>by omega
 ·unfold xE at hx;obtain ⟨k,hk,rfl⟩:=List.mem_map.1 hx;have:=List.mem_range.1 (List.mem_filter.1 hk).1;omega
theorem xNK (hs:Sane w l m) (hln:w.duties.length=l):zGH w (wL w)=true:=by
 refine yFV.2 ⟨by simp [wL],fun i hi=>?_⟩;have hi:i<w.duties.length:=by simpa [wL] using hi
 have:=hs.duty i (by omega);rw [yJY];show (dty w i).lo<=(dty w i).hi/\(dty w i).hi<=(dty w i).hi;omega
theorem xSJ {i k:Nat} (hi:i<ys.length) (hk:k<w.drivers.length) (hl:ys.length=w.duties.length) (hr:Ros w (zY ys)):zAC w (ys.set i (k:Int))=true:=by
 refine zBT.2 ⟨by simpa using hl,fun j hj=>?_⟩;rw [zPN hi];by_cases e:j=i
 ·rw [if_pos e];omega
 ·rw [if_neg e];exact hr.ros j (by simp at hj;omega)
theorem zXW {t1 s0:St} {qa:Addr} {q47:Option Addr} {cy c47 i:Nat} (h:WkP t1 92 76 w p l q m) (w1:Row t1 ⟨Z.y,0,none⟩ (wkc w.days p l c q m d w.rest w.run w.hours)) (hsh:zAG w) (hf:yY w=0) (hs:Sane w l m) (hln:w.duties.length=l) (hm:w.drivers.length=m) (h8:l<=8) (h4:m<=4)
  (L0:Le t1 s0) (iy:yD s0 (some qa) l ys) (hyr:Ros w (zY ys)) (hi:i<l) (i47:yD s0 q47 (xE w ys i m).length (xE w ys i m)) :
  zLY Z.y (some qa) l cy (i:Int) q47 (xE w ys i m).length c47 0 s0 (fun _ _=>False) (fun y=>Le s0 y):=by
 have eyl:=iy.len;have hyl:ys.length=w.duties.length:=by omega
 have hnx:=w1.lt;have ldw:∀ s,Le t1 s->zB Pg s 25 ⟨Z.y,0,none⟩=some (.agg ⟨wkc w.days p l c q m d w.rest w.run w.hours⟩):=fun s hs=>(w1.le hs).ldN zBG uC (k:=0) rfl rfl (nle rfl)
 have bn:∀ s,Le t1 s->Z.y<s.y:=fun s hs=>by have:=hs.y;have hnx:Z.y<t1.y:=hnx;omega
 have pab:∀ s,Le t1 s->∀ a,p=some a->a.block<s.y:=fun s hs=>xY (h.le hs).dty
 have qab:∀ s,Le t1 s->∀ a,q=some a->a.block<s.y:=fun s hs=>by obtain ⟨vs,g,_⟩:=(h.le hs).drv;exact xY g
 have bw':∀ s,Le t1 s->zI s.y [.agg ⟨wkc w.days p l c q m d w.rest w.run w.hours⟩]:=fun s hs=>(zE (zGN (pab s hs) (qab s hs)) zH)
 have b0':∀ s,Le t1 s->zI s.y [.pointer (some ⟨Z.y,0,none⟩)]:=fun s hs=>(zE (zP (bn s hs)) zH)
 have lw':∀ s,Le t1 s->((⟨Z.y,0,none⟩:Addr).block<s.y/\zM RD (.agg ⟨wkc w.days p l c q m d w.rest w.run w.hours⟩)=true)/\zB Pg s 25 ⟨Z.y,0,none⟩=some (.agg ⟨wkc w.days p l c q m d w.rest w.run w.hours⟩):=fun s hs=>⟨⟨bn s hs,rfl⟩,ldw s hs⟩
 have hspl:(xE w ys i m).length<=1000:=by
  unfold xE;rw [List.length_map];have:=List.length_filter_le (fun k:Nat=>uX w (ys.set i (k:Int))) (List.range m);rw [List.length_range] at this;omega
 refine yKC (Inv:=fun k i16 y=>∃ j:Nat,i16=(j:Int)/\j+k=m/\Le s0 y) ?_ m 0 s0 ⟨0,rfl,by omega,Le.refl _⟩;rintro k i16 y ⟨j,rfl,hk,hle⟩;have Ly:=L0.trans hle;have g1:zB Pg y 23 ⟨Z.y,2,none⟩=some (.slice q m d):=(w1.le Ly).ld zCZ rfl;by_cases hj:j<m;rotate_left
 ·exact yWN g1 hle (by omega)
 have g2:=ldw y Ly;obtain ⟨pa,ca,qb,da,sa,g3,Na,wa⟩:=yBZ (c:=c) (d:=d) (h.le Ly) (by omega) (by omega) hsh;have La:=Ly.trans Na.le;have iya:yD sa (some qa) l ys:=SlV.le iy (hle.trans Na.le);obtain ⟨pe,ce,se,g4,Ne,ie,_⟩:=xSV (c:=cy) (k:=(j:Int)) iya hi (by omega);have Le':=La.trans Ne.le;obtain ⟨pt,ct,st,g6,Nt,it,_⟩:=xEF (c:=c) (d:=d) (h.le Le') (by omega);have Lt:=Le'.trans Nt.le;have wt:=(wa.le Ne.le).le Nt.le;have iet:yD st pe l (ys.set i (j:Int)):=SlV.le ie Nt.le;have hz:zRE w (ys.set i (j:Int)) (wL w)=0:=by
  unfold zRE;rw [if_neg (by omega),xSJ (by omega) (by omega) hyl hyr,xNK hs hln];rfl
 obtain ⟨pb,cb,sb,g7,Nb,ib,_⟩:=xAE (c:=ca) (d:=da) (rc:=ce) (tc:=ct) wt hsh iet it (by omega) (by omega) hz;have Lb:=Lt.trans Nb.le;have L0b:Le s0 sb:=hle.trans (Na.le.trans (Ne.le.trans (Nt.le.trans Nb.le)));have g16:=xKV (c:=c47) (n:=(j:Int)) (SlV.le i47 L0b) (by omega);rw [zXZ,decide_eq_true hj,Bool.true_and] at g16;have b9:zI sa.y [.slice (some qa) l cy,iV (i:Int),iV (j:Int)]:=(zE (xA (xY iya)) (zE rfl (zE rfl zH)));have b12:zI st.y [.agg ⟨wkc w.days pa l ca qb m da w.rest w.run w.hours⟩,.slice pe l ce,.slice pt l ct]:=(zE (zGN (xY wt.dty) (by obtain ⟨vs,g,_⟩:=wt.drv;exact xY g)) (zE (xA (xY iet)) (zE (xA (xY it)) zH)));have nx:∃ k',k' < k/\∃ j':Nat,(j:Int)+1=(j':Int)/\j'+k'=m/\Le s0 sb:=⟨k-1,by omega,j+1,by omega,by omega,L0b⟩;have hlb:uX w (ys.set i (j:Int))=decide (zCI w (zY (ys.set i (j:Int))) (zY (wL w)) m=[]):=by unfold uX;rw [hm]
 by_cases he:zCI w (zY (ys.set i (j:Int))) (zY (wL w)) m=[]
 ·rw [hlb,decide_eq_true he] at g16;exact yWP g1 g2 g3 g4 (ldw se Le') g6 g7 (bw' y Ly) b9 (b0' se Le') (bw' se Le') b12 (ldw y Ly) (lw' sa La) (lw' se Le') g16 nx (by omega) rfl (by rw [he];rfl) ⟨by omega,by omega⟩ (bn y Ly)
 ·rw [hlb,decide_eq_false he] at g16;have hne:¬ (((zCI w (zY (ys.set i (j:Int))) (zY (wL w)) m).length:Nat):Int)=0:=fun e=>he (List.eq_nil_of_length_eq_zero (by omega))
  exact yWO g1 g2 g3 g4 (ldw se Le') g6 g7 (bw' y Ly) b9 (b0' se Le') (bw' se Le') b12 (ldw y Ly) (lw' sa La) (lw' se Le') g16 nx (by omega) rfl hne ⟨by omega,by omega⟩ (bn y Ly)
theorem yDZ {t1 s0 y:St} {qa:Addr} {q47:Option Addr} {cy c47 i:Nat} (h:WkP t1 92 76 w p l q m) (w1:Row t1 ⟨Z.y,0,none⟩ (wkc w.days p l c q m d w.rest w.run w.hours)) (hsh:zAG w) (hf:yY w=0) (hln:w.duties.length=l) (hm:w.drivers.length=m) (h8:l<=8) (h4:m<=4)
  (L0:Le t1 s0) (iy:yD s0 (some qa) l ys) (hyr:Ros w (zY ys)) (hi:i<l) (i47:yD s0 q47 (xE w ys i m).length (xE w ys i m)) (hle:Le s0 y) :
  zAT Z.y (some qa) l cy (i:Int) q47 (xE w ys i m).length c47 y (fun v _=>v=.bool true):=by
 have eyl:=iy.len;have hyl:ys.length=w.duties.length:=by omega
 have Ly:=L0.trans hle;have hgi:ys[i]?=some ys[i]:=List.getElem?_eq_getElem (by omega);have hri:=hyr.ros i (by omega);have ery:zY ys i=ys[i]:=by unfold zY;rw [List.getD_eq_getElem?_getD,hgi];rfl
 rw [ery] at hri;have hset:ys.set i ys[i]=ys:=List.set_getElem_self _;generalize ys[i]=x at hgi hri hset;have ldx:∀ s,Le s0 s->zB Pg s 3 (zL qa (Int.toNat (i:Int)*1))=some (iV x):=fun s hh=>(SlV.le iy hh).at rfl (by simp [hgi])
 by_cases hx:x<0
 ·exact yKB (ldx y hle) rfl ⟨by omega,by omega⟩ hx
 have ldw:∀ s,Le t1 s->zB Pg s 25 ⟨Z.y,0,none⟩=some (.agg ⟨wkc w.days p l c q m d w.rest w.run w.hours⟩):=fun s hs=>(w1.le hs).ldN zBG uC (k:=0) rfl rfl (nle rfl)
 obtain ⟨pa,ca,qb,da,sa,g3,Na,wa⟩:=yBZ (c:=c) (d:=d) (h.le Ly) (by omega) (by omega) hsh;obtain ⟨pb,cb,sb,g4,Nb,ib,_⟩:=zOH (c:=cy) (SlV.le iy (hle.trans Na.le)) (by omega);have L0b:Le s0 sb:=hle.trans (Na.le.trans Nb.le);have g5:=yDQ (c:=ca) (d:=da) (rc:=cb) (eM:=0) (wa.le Nb.le) hsh ib (by omega);have hspl:(xE w ys i m).length<=1000:=by
  unfold xE;rw [List.length_map];have:=List.length_filter_le (fun k:Nat=>uX w (ys.set i (k:Int))) (List.range m);rw [List.length_range] at this;omega
 cases e5:zFJ w ys 0 with
 | false =>
  rw [e5] at g5;exact yJZ (ldx y hle) (ldw y Ly) g3 g4 g5 rfl ⟨by omega,by omega⟩ hx
 | true =>
  rw [e5] at g5;obtain ⟨k,hk⟩:∃ k:Nat,x=(k:Int):=⟨x.toNat,by omega⟩;have g7:=xKV (c:=c47) (n:=x) (SlV.le i47 L0b) (by omega);have hleg:uX w ys=true:=by
   unfold uX;rw [yJY];exact decide_eq_true (yFU.2 ((xES hf).1 e5).2.1)
  have hh:(xE w ys i m).contains x=true:=by
   rw [hk,zXZ,<- hk,hset,hleg,decide_eq_true (by omega:k<m)];rfl
  rw [hh] at g7;exact yKA (ldx y hle) (ldw y Ly) g3 g4 g5 (ldx sb L0b) g7 rfl ⟨by omega,by omega⟩ hx
theorem yWM {dt:Int} {most:Bool} (h:WkP Z 92 76 w p l q m) (hw:SlV Pg Z 5 1 pw lw (ws.map xCN)) (hb:∀ x∈ws,0<=x/\x<=255) (hdt:0<=dt/\dt<=255):yCA Pg 15 12 [.agg ⟨wkc w.days p l c q m d w.rest w.run w.hours⟩,.slice pw lw cw,.int .u8 dt,.bool most] Z fun v _=>v=.bool true:=by
 have hln:=h.len.1;have hm:=h.len.2;obtain ⟨t1,ht1⟩:∃ t1,t1=Z.row (wkc w.days p l c q m d w.rest w.run w.hours) 6:=⟨_,rfl⟩;have L1:Le Z t1:=by rw [ht1];exact Le.row _ _ _
 have w1:Row t1 ⟨Z.y,0,none⟩ (wkc w.days p l c q m d w.rest w.run w.hours):=by rw [ht1];exact xJ _ _ _
 have k1:=xUD (c:=c) (d:=d) (h.le L1);cases b0:yAA w with
 | false =>
  rw [b0] at k1;subst ht1;exact xGJ k1 rfl
 | true =>
 rw [b0] at k1;obtain ⟨hsh,hf,h8,h4⟩:=yPF b0;rw [hln] at h8;rw [hm] at h4;by_cases hl0:l=0
 ·subst ht1;exact xGM k1 rfl (by omega)
 have hs:=Sane.of hf hsh hln hm;have ldw:∀ s,Le t1 s->zB Pg s 25 ⟨Z.y,0,none⟩=some (.agg ⟨wkc w.days p l c q m d w.rest w.run w.hours⟩):=fun s hs=>(w1.le hs).ldN zBG uC (k:=0) rfl rfl (nle rfl)
 have ldd:∀ s,Le t1 s->zB Pg s 22 ⟨Z.y,1,none⟩=some (.slice p l c):=fun s hs=>(w1.le hs).ld zAF rfl
 have ldv:∀ s,Le t1 s->zB Pg s 23 ⟨Z.y,2,none⟩=some (.slice q m d):=fun s hs=>(w1.le hs).ld zCZ rfl
 obtain ⟨i,hi,ei⟩:∃ i:Nat,i<l/\dt.tmod (l:Int)=(i:Int):=by
  have e2:dt.tmod (l:Int)=dt % (l:Int):=Int.tmod_eq_emod_of_nonneg (by omega);have e3:=Int.emod_nonneg dt (show (l:Int)≠0 by omega);have e4:=Int.emod_lt_of_pos dt (show 0<(l:Int) by omega);exact ⟨(dt % (l:Int)).toNat,by omega,by omega⟩
 have rm:uE Pg .rem 3 (.tmp 51) (.tmp 54) (iV dt) (iV ((l:Nat):Int))=some (iV (i:Int)):=by rw [yTU (by omega),ei]
 obtain ⟨out,p2,c2,s3,k2,N2,i2,hout⟩:=xWH (c:=c) (d:=d) (cw:=cw) (h.le L1) (SlV.le hw L1) hb (by omega) (by omega);have L3:Le t1 s3:=N2.le;have spz:∀ ys:List Int,ys.length=w.duties.length->Ros w (zY ys)->zPI w ys (i:Int)=0:=fun ys h1 h2=>by
  have hisr:zAC w ys=true:=zBT.2 ⟨h1,fun j hj=>h2.ros j (by omega)⟩;unfold zPI;rw [if_neg (by omega),hisr,vG.2 (by omega)];rfl
 cases most with
 | false =>
  have eol:=i2.len;have hor:Ros w (zY out):=(yIO (by omega)).2 (by rw [hm];exact hout);obtain ⟨a2,rfl,_⟩:=i2.some (by omega:0<l);obtain ⟨pa,ca,qb,da,sa,k6,Na,wa⟩:=yBZ (c:=c) (d:=d) ((h.le L1).le L3) (by omega) (by omega) hsh;obtain ⟨pb,cb,sb,k7,Nb,ib,_⟩:=zOH (c:=c2) (SlV.le i2 Na.le) (by omega);obtain ⟨pc,cc,sc,k8,Nc,ic,_⟩:=yCB (i:=(i:Int)) (c:=ca) (d:=da) (rc:=cb) (wa.le Nb.le) hsh ib (by omega) (by omega) (spz out (by omega) hor);rw [Int.toNat_natCast] at k8 ic;have Lc:Le t1 sc:=L3.trans (Na.le.trans (Nb.le.trans Nc.le));have k10:=zJJ (c:=cc) (lo:=0) (hi:=(m:Int)-1) ic (by
   unfold xE;rw [List.length_map];have:=List.length_filter_le (fun k:Nat=>uX w (out.set i (k:Int))) (List.range m);rw [List.length_range] at this;omega)
  rw [zUC] at k10;have iy:yD sc (some a2) l out:=SlV.le i2 (Na.le.trans (Nb.le.trans Nc.le));have hL:=zXW (Z:=Z) (cy:=c2) (c47:=cc) (h.le L1) w1 hsh hf hs hln hm h8 h4 Lc iy hor hi ic;have k0:=fun y hh=>yDZ (Z:=Z) (cy:=c2) (c47:=cc) (h.le L1) w1 hsh hf hln hm h8 h4 Lc iy hor hi ic (y:=y) hh
  have e3:=ldd s3 L3;have e5:=ldw s3 L3;have e9:=ldv sc Lc;subst ht1;exact xGK k1 k2 e3 rm e5 k6 k7 k8 e9 k10 hL (fun b y hh=>hh.elim) k0 (by omega) ⟨by omega,by omega⟩ rfl ⟨by omega,by omega⟩
 | true =>
  obtain ⟨p16,c16,q16,d16,s16,k4,N4,w4⟩:=yBZ (c:=c) (d:=d) ((h.le L1).le L3) (by omega) (by omega) hsh;obtain ⟨v,s20,k5,N5,bv⟩:=xZQ (c:=c16) (d:=d16) w4 hsh;obtain ⟨hf',_⟩ | ⟨_,rs,pr,cr,rfl,irs,B⟩:=bv
  ·exact absurd hf hf'
  have L20:Le t1 s20:=L3.trans (N4.le.trans N5.le);have erl:=irs.len;have hrl:rs.length=w.duties.length:=by omega
  have k7:=yNN (c:=c) (d:=d) (rc:=cr) ((h.le L1).le L20) irs (by omega) (by omega);have hisr:zAC w rs=true:=zBT.2 ⟨hrl,fun j hj=>B.ros.ros j (by omega)⟩;rw [hisr] at k7;obtain ⟨p29,c29,s29,k8,N8,i29,_⟩:=zOH (c:=cr) irs (by omega);have L29:=L20.trans N8.le;obtain ⟨a2,rfl,_⟩:=i29.some (by omega:0<l);obtain ⟨pa,ca,qb,da,sa,k12,Na,wa⟩:=yBZ (c:=c) (d:=d) ((h.le L1).le L29) (by omega) (by omega) hsh;obtain ⟨pb,cb,sb,k13,Nb,ib,_⟩:=zOH (c:=c29) (SlV.le i29 Na.le) (by omega);obtain ⟨pc,cc,sc,k14,Nc,ic,_⟩:=yCB (i:=(i:Int)) (c:=ca) (d:=da) (rc:=cb) (wa.le Nb.le) hsh ib (by omega) (by omega) (spz rs hrl B.ros);rw [Int.toNat_natCast] at k14 ic;have Lc:Le t1 sc:=L29.trans (Na.le.trans (Nb.le.trans Nc.le));have k16:=zJJ (c:=cc) (lo:=0) (hi:=(m:Int)-1) ic (by
   unfold xE;rw [List.length_map];have:=List.length_filter_le (fun k:Nat=>uX w (rs.set i (k:Int))) (List.range m);rw [List.length_range] at this;omega)
  rw [zUC] at k16;have iy:yD sc (some a2) l rs:=SlV.le i29 (Na.le.trans (Nb.le.trans Nc.le));have hL:=zXW (Z:=Z) (cy:=c29) (c47:=cc) (h.le L1) w1 hsh hf hs hln hm h8 h4 Lc iy B.ros hi ic;have k0:=fun y hh=>yDZ (Z:=Z) (cy:=c29) (c47:=cc) (h.le L1) w1 hsh hf hln hm h8 h4 Lc iy B.ros hi ic (y:=y) hh
  have e3:=ldw s3 L3;have e6:=ldw s20 L20;have e9:=ldd s29 L29;have e11:=ldw s29 L29;have e15:=ldv sc Lc;subst ht1;exact xGL k1 k2 e3 k4 k5 e6 k7 k8 e9 rm e11 k12 k13 k14 e15 k16 hL (fun b y hh=>hh.elim) k0 (by omega) rfl ⟨by omega,by omega⟩ rfl ⟨by omega,by omega⟩
end
section
variable {Z:St}
theorem zBI {n:Nat} {cs:List Value} (h:WT Pg Z (n+1) 3 cs):∃ i,cs=[zZ i]:=by
 unfold WT at h;simp only [Tryz.underlying3] at h;obtain ⟨i,h,_⟩:=h;exact ⟨i,h⟩
theorem zOZ {n:Nat} {t e:TypeId} {cs:List Value} {k:Nat} (hu:Pg.underlying t=some (.slice e)) (hk:Pg.cellsOf e=k) (h:WT Pg Z (n+1) t cs) :
  ∃ p len cap rs,cs=[.slice p len cap]/\len<=maxLen/\SlP Z k p len rs/\rs.length=len*k/\∀ i,i<len->WT Pg Z n e ((rs.drop (i*k)).take k):=by
 unfold WT at h;simp only [hu,hk] at h;rcases h with rfl | ⟨b,len,cap,rs,rfl,h1,h2,h3,h4,h5,h6⟩
 ·exact ⟨none,0,0,[],rfl,by decide,SlP.nil _ _,by simp,fun i hi=>by omega⟩
 ·refine ⟨_,len,cap,rs,rfl,h1,⟨h3, ?_,h5⟩,h3,h6⟩
  simp only [yP,h4,yB,wV,Nat.zero_add,List.drop_zero,List.take_length];show (bif Nat.ble rs.length rs.length then some rs else none)=some rs;rw [show Nat.ble rs.length rs.length=true from by simp];rfl
theorem zYX {α:Type} {k:Nat} {Q:List Value->Prop} {f:α->List Value} (hq:∀ cs,Q cs->∃ x,cs=f x):∀ (len:Nat) (rs:List Value),rs.length=len*k->(∀ i,i<len->Q ((rs.drop (i*k)).take k))->∃ xs:List α,xs.length=len/\rs=xs.flatMap f
 | 0,rs,hl,_=>⟨[],rfl,by simpa using hl⟩
 | len+1,rs,hl,h=>by
  obtain ⟨x,hx⟩:=hq _ (h 0 (by omega));obtain ⟨xs,h1,h2⟩:=zYX (k:=k) hq len (rs.drop k) (by simp [hl,Nat.add_mul]) (fun i hi=>by
   have:=h (i+1) (by omega);rwa [Nat.add_mul,Nat.one_mul,Nat.add_comm (i*k),<- List.drop_drop] at this)
  refine ⟨x::xs,by simp [h1], ?_⟩
  simp only [List.flatMap_cons,<- h2,<- hx];simp
theorem yGV {α:Type} (f:α->List Value) (xs:List α):wI (xs.map fun x=>.agg ⟨f x⟩)=xs.flatMap f:=by
 induction xs with
 | nil=>rfl
 | cons x xs ih=>rw [List.map_cons,List.flatMap_cons,<- ih];simp [wI,Value.cells]
theorem xPA (xs:List Int):wI (xs.map zZ)=xs.flatMap fun x=>[zZ x]:=by
 induction xs with
 | nil=>rfl
 | cons x xs ih=>rw [List.map_cons,List.flatMap_cons,<- ih];rfl
theorem xWJ {n:Nat} {cs:List Value} (h:WT Pg Z (n+1) 5 cs):∃ i:Int,cs=[.int .u8 i]/\0<=i/\i<=255:=by
 unfold WT at h;simp only [Tryz.underlying5] at h;obtain ⟨i,h,hk⟩:=h;refine ⟨i,h, ?_⟩
 rw [show IntKind.u8.min=0 by decide,show IntKind.u8.max=255 by decide] at hk;exact hk
theorem ySN {n:Nat} {t e:TypeId} {p:Option Addr} {l c k:Nat} (hu:Pg.underlying t=some (.slice e)) (hk:Pg.cellsOf e=k) (h:WT Pg Z (n+1) t [.slice p l c]):zTT Z k p l c:=by
 unfold WT at h;simp only [hu,hk] at h;rcases h with h | ⟨b,len,cap,rs,h1,h2,h3,h4,h5,h6,h7⟩
 ·obtain ⟨rfl,rfl,rfl⟩:p=none/\l=0/\c=0:=by simpa using h
  exact .inl ⟨rfl,rfl,rfl⟩
 ·obtain ⟨rfl,rfl,rfl⟩:p=some ⟨b,0,none⟩/\l=len/\c=cap:=by simpa using h1
  exact .inr ⟨b,rs,1,true,rfl,by rw [<- zTE h3.2];exact h3.1,h3.2,h5,h4,h6⟩
theorem xRW {n:Nat} {cs:List Value} (h:WT Pg Z (n+1) 4 cs):∃ b,cs=[.bool b]:=by
 unfold WT at h;simp only [Tryz.underlying4] at h;exact h
theorem yIE {n:Nat} {cs:List Value} (h:WT Pg Z (n+2) 26 cs):∃ p l c xs,cs=[.slice p l c]/\yD Z p l xs/\zTT Z 1 p l c:=by
 obtain ⟨p,l,c,rs,e1,_,s1,l1,w1⟩:=zOZ Tryz.underlying26 (k:=1) (by kernel_rfl) h;subst e1;have ha:=ySN Tryz.underlying26 (k:=1) (by kernel_rfl) h;obtain ⟨xs,n1,rfl⟩:=zYX (f:=fun x:Int=>[zZ x]) (fun cs h=>zBI h) l rs l1 w1;refine ⟨p,l,c,xs,rfl,⟨by rw [xPA];exact s1,by simpa using n1,fun v hv=>?_⟩,ha⟩
 obtain ⟨x,_,rfl⟩:=List.mem_map.1 hv;exact vW x
theorem xJC {n:Nat} {cs:List Value} (h:WT Pg Z (n+2) 63 cs):∃ p l c,∃ xs:List Int,cs=[.slice p l c]/\SlV Pg Z 5 1 p l (xs.map fun x=>.int .u8 x)/\∀ x∈xs,0<=x/\x<=255:=by
 obtain ⟨p,l,c,rs,e1,_,s1,l1,w1⟩:=zOZ Tryz.underlying63 (k:=1) (by kernel_rfl) h;obtain ⟨xs,n1,rfl⟩:=zYX (f:=fun x:{x:Int // 0<=x/\x<=255}=>[Value.int .u8 x.1]) (fun cs h=>by
  obtain ⟨i,e,h⟩:=xWJ h;exact ⟨⟨i,h⟩,e⟩) l rs l1 w1
 have hf:wI ((xs.map (·.1)).map fun x=>Value.int .u8 x)=xs.flatMap fun x=>[Value.int .u8 x.1]:=by
  clear n1 s1 l1 w1;induction xs with
  | nil=>rfl
  | cons x xs ih=>rw [List.map_cons,List.map_cons,List.flatMap_cons,<- ih];rfl
 refine ⟨p,l,c,xs.map (·.1),e1,⟨by rw [hf];exact s1,by simpa using n1,fun v hv=>?_⟩,fun x hx=>?_⟩
 ·obtain ⟨x,_,rfl⟩:=List.mem_map.1 hv;exact .inl ⟨xWB,rfl,rfl⟩
 ·obtain ⟨x,_,rfl⟩:=List.mem_map.1 hx;exact x.2
theorem xXD {n:Nat} {cs:List Value} (h:WT Pg Z (n+3) 92 cs):∃ x:Dty,cs=zF x.day x.on x.lo x.hi x.route:=by
 unfold WT at h;simp only [Tryz.underlying92] at h;obtain ⟨hl,h⟩:=h;have hl:cs.length=5:=hl.trans (by kernel_rfl);obtain ⟨c1,c2,c3,c4,c5,rfl⟩:∃ c1 c2 c3 c4 c5,cs=[c1,c2,c3,c4,c5]:=by
  match cs,hl with
  | [c1,c2,c3,c4,c5],_=>exact ⟨_,_,_,_,_,rfl⟩
 have k3:Pg.cellsOf 3=1:=by kernel_rfl
 have k90:Pg.cellsOf 90=2:=by kernel_rfl
 simp only [List.mem_cons,List.not_mem_nil,or_false,forall_eq_or_imp,forall_eq,k3,k90] at h;obtain ⟨⟨_,h1⟩,⟨_,h2⟩,⟨_,h3⟩,⟨_,h5⟩⟩:=h;obtain ⟨x1,h1⟩:=zBI h1;obtain ⟨x2,h2⟩:=zBI h2;obtain ⟨x5,h5⟩:=zBI h5;unfold WT at h3;simp only [Tryz.underlying90] at h3;obtain ⟨_,h3⟩:=h3;simp only [List.mem_cons,List.not_mem_nil,or_false,forall_eq_or_imp,forall_eq,k3] at h3;obtain ⟨⟨_,h3⟩,⟨_,h4⟩⟩:=h3;obtain ⟨x3,h3⟩:=zBI h3;obtain ⟨x4,h4⟩:=zBI h4;obtain rfl:c1=zZ x1:=by simpa using h1
 obtain rfl:c2=zZ x2:=by simpa using h2
 obtain rfl:c3=zZ x3:=by simpa using h3
 obtain rfl:c4=zZ x4:=by simpa using h4
 obtain rfl:c5=zZ x5:=by simpa using h5
 exact ⟨⟨x1,x2,x3,x4,x5⟩,rfl⟩
theorem xRU {n:Nat} {cs:List Value} (h:WT Pg Z (n+4) 22 cs):∃ p l c xs,cs=[.slice p l c]/\yCM Z 92 p l xs/\zTT Z 5 p l c:=by
 obtain ⟨p,l,c,rs,e1,_,s1,l1,w1⟩:=zOZ Tryz.underlying22 (k:=5) (by kernel_rfl) h;subst e1;have ha:=ySN Tryz.underlying22 (k:=5) (by kernel_rfl) h;obtain ⟨xs,n1,rfl⟩:=zYX (f:=fun x:Dty=>zF x.day x.on x.lo x.hi x.route) (fun cs h=>xXD h) l rs l1 w1;refine ⟨p,l,c,xs,rfl,⟨?_,by simpa using n1,fun v hv=>?_⟩,ha⟩
 ·rw [yGV fun x:Dty=>zF x.day x.on x.lo x.hi x.route];exact s1
 ·obtain ⟨x,_,rfl⟩:=List.mem_map.1 hv;exact .inr ⟨wBA,zJA,_,rfl,rfl⟩
def xZS (Z:St) (v:Value) (x:Drv):Prop:=∃ p l c q m d r n e,v=.agg ⟨zO p l c q m d r n e x.off x.row x.used⟩/\(yD Z p l x.knows/\zTT Z 1 p l c)/\(yD Z q m x.leave/\zTT Z 1 q m d)/\yD Z r n x.wish
theorem xZS.v {v:Value} {x:Drv} (h:xZS Z v x):zWH Z v x:=by
 obtain ⟨p,l,c,q,m,d,r,n,e,h1,h2,h3,h4⟩:=h;exact ⟨p,l,c,q,m,d,r,n,e,h1,h2.1,h3.1,h4⟩
theorem xXE {n:Nat} {cs:List Value} (h:WT Pg Z (n+3) 76 cs):∃ (x:Drv) (p q r:Option Addr) (l c m d j e:Nat),cs=zO p l c q m d r j e x.off x.row x.used/\(yD Z p l x.knows/\zTT Z 1 p l c)/\(yD Z q m x.leave/\zTT Z 1 q m d)/\yD Z r j x.wish:=by
 unfold WT at h;simp only [Tryz.underlying76] at h;obtain ⟨hl,h⟩:=h;have hl:cs.length=6:=hl.trans (by kernel_rfl);obtain ⟨c1,c2,c3,c4,c5,c6,rfl⟩:∃ c1 c2 c3 c4 c5 c6,cs=[c1,c2,c3,c4,c5,c6]:=by
  match cs,hl with
  | [c1,c2,c3,c4,c5,c6],_=>exact ⟨_,_,_,_,_,_,rfl⟩
 have k3:Pg.cellsOf 3=1:=by kernel_rfl
 have k26:Pg.cellsOf 26=1:=by kernel_rfl
 simp only [List.mem_cons,List.not_mem_nil,or_false,forall_eq_or_imp,forall_eq,k3,k26] at h;obtain ⟨⟨_,h1⟩,⟨_,h2⟩,⟨_,h3⟩,⟨_,h4⟩,⟨_,h5⟩,⟨_,h6⟩⟩:=h;obtain ⟨p1,l1,e1,x1,h1,i1,a1⟩:=yIE h1;obtain ⟨p2,l2,e2,x2,h2,i2,a2⟩:=yIE h2;obtain ⟨p3,l3,e3,x3,h3,i3,_⟩:=yIE h3;obtain ⟨x4,h4⟩:=zBI h4;obtain ⟨x5,h5⟩:=zBI h5;obtain ⟨x6,h6⟩:=zBI h6;obtain rfl:c1=.slice p1 l1 e1:=by simpa using h1
 obtain rfl:c2=.slice p2 l2 e2:=by simpa using h2
 obtain rfl:c3=.slice p3 l3 e3:=by simpa using h3
 obtain rfl:c4=zZ x4:=by simpa using h4
 obtain rfl:c5=zZ x5:=by simpa using h5
 obtain rfl:c6=zZ x6:=by simpa using h6
 exact ⟨⟨x1,x2,x3,x4,x5,x6⟩,p1,p2,p3,l1,e1,l2,e2,l3,e3,rfl,⟨i1,a1⟩,⟨i2,a2⟩,i3⟩
structure DrvsA (Z:St) (p:Option Addr) (l c:Nat) (xs:List Drv):Prop where
 vs:∃ vs:List Value,SlV Pg Z 76 6 p l vs/\xs.length=l/\∀ (i:Nat) (x:Drv),xs[i]?=some x->∃ v,vs[i]?=some v/\xZS Z v x
 arg:zTT Z 6 p l c
theorem DrvsA.p {p:Option Addr} {l c:Nat} {xs:List Drv} (h:DrvsA Z p l c xs):zVZ Z 76 p l xs:=by
 obtain ⟨vs,h1,h2,h3⟩:=h.vs;exact ⟨vs,h1,h2,fun i x hx=>by obtain ⟨v,g1,g2⟩:=h3 i x hx;exact ⟨v,g1,g2.v⟩⟩
theorem xRV {n:Nat} {cs:List Value} (h:WT Pg Z (n+4) 23 cs):∃ p l c xs,cs=[.slice p l c]/\DrvsA Z p l c xs:=by
 obtain ⟨p,l,c,rs,e1,_,s1,l1,w1⟩:=zOZ Tryz.underlying23 (k:=6) (by kernel_rfl) h;subst e1;have ha:=ySN Tryz.underlying23 (k:=6) (by kernel_rfl) h;obtain ⟨xs,n1,rfl⟩:=zYX (f:=fun x:{x:List Value × Drv // ∃ p q r l c m d j e,x.1=zO p l c q m d r j e x.2.off x.2.row x.2.used/\(yD Z p l x.2.knows/\zTT Z 1 p l c)/\(yD Z q m x.2.leave/\zTT Z 1 q m d)/\yD Z r j x.2.wish}=>x.1.1) (fun cs h=>by
  obtain ⟨x,p,q,r,l,c,m,d,j,e,h1,h2⟩:=xXE h;exact ⟨⟨⟨cs,x⟩,p,q,r,l,c,m,d,j,e,h1,h2⟩,rfl⟩) l rs l1 w1
 refine ⟨p,l,c,xs.map fun x=>x.1.2,rfl,⟨⟨xs.map fun x=>.agg ⟨x.1.1⟩,⟨?_,by simpa using n1,fun v hv=>?_⟩,by simpa using n1,fun i x hx=>?_⟩,ha⟩⟩
 ·have:wI (xs.map fun x=>Value.agg ⟨x.1.1⟩)=xs.flatMap fun x=>x.1.1:=yGV (fun x:{x:List Value × Drv // ∃ p q r l c m d j e,x.1=zO p l c q m d r j e x.2.off x.2.row x.2.used/\(yD Z p l x.2.knows/\zTT Z 1 p l c)/\(yD Z q m x.2.leave/\zTT Z 1 q m d)/\yD Z r j x.2.wish}=>x.1.1) xs
  rw [this];exact s1
 ·obtain ⟨x,_,rfl⟩:=List.mem_map.1 hv;obtain ⟨p,q,r,l,c,m,d,j,e,h1,_⟩:=x.2;exact .inr ⟨xQV,zAI,_,rfl,by rw [h1];rfl⟩
 ·rw [List.getElem?_map] at hx;cases hy:xs[i]? with
  | none=>rw [hy] at hx;cases hx
  | some y =>
   rw [hy] at hx;obtain rfl:y.1.2=x:=by simpa using hx
   obtain ⟨p,q,r,l,c,m,d,j,e,h1,h2⟩:=y.2;exact ⟨.agg ⟨y.1.1⟩,by rw [List.getElem?_map,hy];rfl,p,l,c,q,m,d,r,j,e,by rw [h1],h2⟩
theorem xRT {n:Nat} {cs:List Value} (h:WT Pg Z (n+5) 25 cs):∃ (w:Wk) (p q:Option Addr) (l c m d:Nat),cs=wkc w.days p l c q m d w.rest w.run w.hours/\WkP Z 92 76 w p l q m/\zTT Z 5 p l c/\DrvsA Z q m d w.drivers:=by
 unfold WT at h;simp only [Tryz.underlying25] at h;obtain ⟨hl,h⟩:=h;have hl:cs.length=6:=hl.trans (by kernel_rfl);obtain ⟨c1,c2,c3,c4,c5,c6,rfl⟩:∃ c1 c2 c3 c4 c5 c6,cs=[c1,c2,c3,c4,c5,c6]:=by
  match cs,hl with
  | [c1,c2,c3,c4,c5,c6],_=>exact ⟨_,_,_,_,_,_,rfl⟩
 have k3:Pg.cellsOf 3=1:=by kernel_rfl
 have k22:Pg.cellsOf 22=1:=by kernel_rfl
 have k23:Pg.cellsOf 23=1:=by kernel_rfl
 simp only [List.mem_cons,List.not_mem_nil,or_false,forall_eq_or_imp,forall_eq,k3,k22,k23] at h;obtain ⟨⟨_,h1⟩,⟨_,h2⟩,⟨_,h3⟩,⟨_,h4⟩,⟨_,h5⟩,⟨_,h6⟩⟩:=h;obtain ⟨x1,h1⟩:=zBI h1;obtain ⟨p,l,c,xs,h2,i2,a2⟩:=xRU h2;obtain ⟨q,m,d,ys,h3,i3⟩:=xRV h3;obtain ⟨x4,h4⟩:=zBI h4;obtain ⟨x5,h5⟩:=zBI h5;obtain ⟨x6,h6⟩:=zBI h6;obtain rfl:c1=zZ x1:=by simpa using h1
 obtain rfl:c2=.slice p l c:=by simpa using h2
 obtain rfl:c3=.slice q m d:=by simpa using h3
 obtain rfl:c4=zZ x4:=by simpa using h4
 obtain rfl:c5=zZ x5:=by simpa using h5
 obtain rfl:c6=zZ x6:=by simpa using h6
 exact ⟨⟨x1,xs,ys,x4,x5,x6⟩,p,q,l,c,m,d,rfl,⟨i2,i3.p⟩,a2,i3⟩
theorem yJT {U:Inj} {av v:Value} (h:VR U av v) (hv:∀ cs,v≠.agg cs):∀ cs,av≠.agg cs:=by
 rintro cs rfl;cases h with
 | atom h=>simp [uJ] at h
 | agg _ _=>exact hv _ rfl
theorem xXI {W:World} {t e:TypeId} {v:Value} (hu:Pg.underlying t=some (.slice e)) (h:Value.okWide Pg W .any 0 t v):∀ cs,v≠.agg cs:=by
 rintro cs rfl;unfold Value.okWide at h;rw [hu] at h;simp [Cell.okWide,Cell.ok,hu] at h
theorem xUF {W:World} {t:TypeId} {k:IntKind} {v:Value} (hu:Pg.underlying t=some (.int k)) (h:Value.okWide Pg W .any 0 t v):∀ cs,v≠.agg cs:=by
 rintro cs rfl;unfold Value.okWide at h;rw [hu] at h;simp [Cell.okWide,Cell.ok,hu] at h
theorem yRI {v:Value} {p:Option Addr} {l c:Nat} (h:v.cells.toList=[.slice p l c]) (hn:∀ cs,v≠.agg cs):v=.slice p l c:=by
 cases v with
 | agg cs=>exact absurd rfl (hn cs)
 | _=>first | (simp [Value.cells] at h;done) | simpa [Value.cells] using h
theorem xPX {W:World} {t:TypeId} {v:Value} (hu:Pg.underlying t=some .bool) (h:Value.okWide Pg W .any 0 t v):∀ cs,v≠.agg cs:=by
 rintro cs rfl;unfold Value.okWide at h;rw [hu] at h;simp [Cell.okWide,Cell.ok,hu] at h
theorem yYI {v:Value} {x:Bool} (h:v.cells.toList=[.bool x]) (hn:∀ cs,v≠.agg cs):v=.bool x:=by
 cases v with
 | agg cs=>exact absurd rfl (hn cs)
 | _=>first | (simp [Value.cells] at h;done) | simpa [Value.cells] using h
theorem xHZ {v:Value} {k:IntKind} {x:Int} (h:v.cells.toList=[.int k x]) (hn:∀ cs,v≠.agg cs):v=.int k x:=by
 cases v with
 | agg cs=>exact absurd rfl (hn cs)
 | _=>first | (simp [Value.cells] at h;done) | simpa [Value.cells] using h
end
end Go.Proofs.YtgfiniccfpfplaaGreat
