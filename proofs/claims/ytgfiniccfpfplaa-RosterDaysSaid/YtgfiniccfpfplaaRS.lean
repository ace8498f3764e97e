import Derived.Test.YtgfiniccfpfplaaRK
import Derived.Test.YtgfiniccfpfplaaTy
import Derived.Test.YtgfiniccfpfplaaLayD
set_option linter.unusedVariables false
set_option linter.unusedSimpArgs false
set_option maxRecDepth 20000
namespace Go.Proofs.Ytgfiniccfpfplaa
open Go Go.Lay
open Try renaming prog → Pg
abbrev zFF (s : Std) : List Value := zP s.free s.row s.used s.day
def stL (f : Nat → Std) : List Value := zFF (f 0) ++ (zFF (f 1) ++ (zFF (f 2) ++ (zFF (f 3) ++ (zFF (f 4) ++ zFF (f 5)))))
def zRI : List Value := [yO 0, yO 0, yO 0, yO 0, yO 0, yO 0, yO 0, yO 0, yO 0, yO 0, yO 0, yO 0, yO 0, yO 0, yO 0, yO 0, yO 0, yO 0, yO 0, yO 0, yO 0, yO 0, yO 0, yO 0]
def yXK : Std := ⟨0, 0, 0, 0⟩
section
variable {σ : St} {b n : Nat} {f : Nat → Std}
theorem yXR (o : Own σ b (stL f) n) {i : Nat} (hi : i < 6) : zB Try.prog σ 87 ⟨b, 0 + Int.toNat (i : Int) * 4, none⟩ = some (yRX (f i)) := by
 rw [Int.toNat_natCast]
 match i, hi with
 | 0, _ => exact o.ldN (k := 0) zCG xU (ds := zFF (f 0)) rfl rfl (by simp [stL])
 | 1, _ => exact o.ldN (k := 4) zCG xU (ds := zFF (f 1)) rfl rfl (by simp [stL])
 | 2, _ => exact o.ldN (k := 8) zCG xU (ds := zFF (f 2)) rfl rfl (by simp [stL])
 | 3, _ => exact o.ldN (k := 12) zCG xU (ds := zFF (f 3)) rfl rfl (by simp [stL])
 | 4, _ => exact o.ldN (k := 16) zCG xU (ds := zFF (f 4)) rfl rfl (by simp [stL])
 | 5, _ => exact o.ldN (k := 20) zCG xU (ds := zFF (f 5)) rfl rfl (by simp [stL])
theorem yXP (o : Own σ b (stL f) n) {i : Nat} (hi : i < 6) : zB Try.prog σ 3 ⟨b, 0 + Int.toNat (i : Int) * 4 + 2, none⟩ = some (yO (f i).used) := by
 rw [Int.toNat_natCast]
 match i, hi with
 | 0, _ => exact o.ld (k := 2) rfl zK rfl
 | 1, _ => exact o.ld (k := 6) rfl zK rfl
 | 2, _ => exact o.ld (k := 10) rfl zK rfl
 | 3, _ => exact o.ld (k := 14) rfl zK rfl
 | 4, _ => exact o.ld (k := 18) rfl zK rfl
 | 5, _ => exact o.ld (k := 22) rfl zK rfl
theorem yPM (o : Own σ b (stL f) n) : zB Try.prog σ 89 ⟨b, 0, none⟩ = some (.agg ⟨stL f⟩) := o.ldN (k := 0) xKF yXW (ds := stL f) rfl rfl (by simp [stL])
theorem yXQ (o : Own σ b (stL f) n) {i : Nat} (hi : i < 6) (s : Std) : zL Try.prog (evL [.pointer (some ⟨b, 0 + Int.toNat (i : Int) * 4, none⟩), yRX s]) σ (.store 87 (.tmp 0) (.tmp 1)) = some (undef, σ.own b (stL (upd f i s)) n) := by
 rw [Int.toNat_natCast]
 match i, hi with
 | 0, _ => exact o.store (k := 0) (vs := zFF s) rfl xU rfl (by simp [stL]) rfl
 | 1, _ => exact o.store (k := 4) (vs := zFF s) rfl xU rfl (by simp [stL]) rfl
 | 2, _ => exact o.store (k := 8) (vs := zFF s) rfl xU rfl (by simp [stL]) rfl
 | 3, _ => exact o.store (k := 12) (vs := zFF s) rfl xU rfl (by simp [stL]) rfl
 | 4, _ => exact o.store (k := 16) (vs := zFF s) rfl xU rfl (by simp [stL]) rfl
 | 5, _ => exact o.store (k := 20) (vs := zFF s) rfl xU rfl (by simp [stL]) rfl
theorem yPL (o : Own σ b (stL f) n) (g : Nat → Std) : zL Try.prog (evL [.pointer (some ⟨b, 0, none⟩), .agg ⟨stL g⟩]) σ (.store 89 (.tmp 0) (.tmp 1)) = some (undef, σ.own b (stL g) n) :=
 o.store (k := 0) (vs := stL g) rfl yXW rfl (by simp [stL]) rfl
def st0 (w : Wk) (j : Nat) : Nat → Std := fun k => if k < j then before (drv w k) else yXK
theorem xJD {w : Wk} {j : Nat} : upd (st0 w j) j (before (drv w j)) = st0 w (j + 1) := by
 funext k
 unfold upd st0
 by_cases e : k = j
 ·subst e; rw [if_pos rfl, if_pos (by omega)]
 ·rw [if_neg e]
  by_cases h : k < j
  ·rw [if_pos h, if_pos (by omega)]
  ·rw [if_neg h, if_neg (by omega)]
variable {w : Wk} {p q : Option Addr} {l m c d : Nat}
theorem yRU (h : WkP σ 69 61 w p l q m) (hm : m ≤ 6) : zD Try.prog 45 [.agg ⟨wkc w.M p l c q m d w.rest w.run w.j⟩] σ (.agg ⟨stL (st0 w m)⟩) σ := by
 have hmm := h.len.2
 obtain ⟨σ1, hσ1⟩ : ∃ σ1, σ1 = (σ.re.row (wkc w.M p l c q m d w.rest w.run w.j) 6).row zRI 4 := ⟨_, rfl⟩
 have N1 : New σ.re σ1 := by rw [hσ1]; exact (New.row _ _ _).row'
 have L1 : Le σ σ1 := (le0 σ).trans N1.le
 have o1 : Own σ1 (σ.y + 1) (stL (st0 w 0)) 4 := by
  rw [hσ1]
  exact zC (σ.re.row (wkc w.M p l c q m d w.rest w.run w.j) 6) zRI 4
 have hr : zQ RD (.agg ⟨stL (st0 w m)⟩) = true := rfl
 refine zI.pure (hv := hr) (yJK (zWA (Inv := fun k i τ => New σ.re τ ∧ ∃ j : Nat, i = j ∧ j + k = m ∧ Own τ (σ.y + 1) (stL (st0 w j)) 4) (Q0 := fun τ => New σ.re τ ∧ Own τ (σ.y + 1) (stL (st0 w m)) 4) ?_ m 0 σ1 ⟨N1, 0, rfl, by omega, o1⟩ |> fun h => by rw [hσ1] at h; exact h) ?_)
 ·rintro k i τ ⟨hN, j, rfl, hk, o⟩
  by_cases hj : j < m
  rotate_left
  ·have : j = m := by omega
   subst this
   exact yDK ⟨hN, o⟩ (by omega)
  have LL := (le0 σ).trans hN.le
  obtain ⟨a, rfl, p', l', c', r', n', d', s', j', e', lx, _, _, _, _⟩ := (h.le LL).vld yII zMV hj
  have hN2 : New σ.re ((τ.row (zG none 0 0 none 0 0 none 0 0 0 0 0) 6).own τ.y (zG p' l' c' r' n' d' s' j' e' (drv w j).off (drv w j).row (drv w j).used) 6) := hN.row'.own hN.le.y
  have o2 : Own ((τ.row (zG none 0 0 none 0 0 none 0 0 0 0 0) 6).own τ.y (zG p' l' c' r' n' d' s' j' e' (drv w j).off (drv w j).row (drv w j).used) 6) (σ.y + 1) (stL (st0 w j)) 4 := o.row.own (by have := o.lt; omega)
  refine yDL lx (yXQ o2 (i := j) (by omega) (before (drv w j))) ⟨k - 1, by omega, hN2.own (by show σ.y ≤ σ.y + 1; omega), j + 1, by omega, by omega, ?_⟩ (by omega) (by omega) (by omega) (by omega)
  rw [← xJD]
  exact o2.put
 ·rintro τ ⟨hN, o⟩
  exact zVZ (yPM o) (yPL o _) (yPM o.put) ⟨rfl, (hN.own (by show σ.y ≤ σ.y + 1; omega)).lw⟩
theorem yEN : ∃ b σ', zD Try.prog 47 [] σ (.slice (some ⟨b, 0, none⟩) 5 5) σ' ∧ New σ σ' ∧ σ.y ≤ b ∧ Row σ' ⟨b, 0, none⟩ [.int .u8 0, .func (.func 64) ⟨[]⟩ ⟨[]⟩, .int .u8 1, .func (.func 65) ⟨[]⟩ ⟨[]⟩, .int .u8 2, .func (.func 66) ⟨[]⟩ ⟨[]⟩, .int .u8 3, .func (.func 67) ⟨[]⟩ ⟨[]⟩, .int .u8 4, .func (.func 68) ⟨[]⟩ ⟨[]⟩] := by
 obtain ⟨v, σ', h1, h2, b, rfl, h3, h4⟩ := zI.new (σ := σ) (P := Try.prog) (f := 47) (args := []) (Q := fun v s => ∃ b, v = .slice (some ⟨b, 0, none⟩) 5 5 ∧ σ.y ≤ b ∧ Row s ⟨b, 0, none⟩ [.int .u8 0, .func (.func 64) ⟨[]⟩ ⟨[]⟩, .int .u8 1, .func (.func 65) ⟨[]⟩ ⟨[]⟩, .int .u8 2, .func (.func 66) ⟨[]⟩ ⟨[]⟩, .int .u8 3, .func (.func 67) ⟨[]⟩ ⟨[]⟩, .int .u8 4, .func (.func 68) ⟨[]⟩ ⟨[]⟩])
  (yAX ⟨New.row _ _ _, σ.re.y, rfl, Nat.le_refl _, xC _ _ _⟩) (by rintro v s s' ⟨b, rfl, g1, g2⟩ hle; exact ⟨b, rfl, g1, g2.le hle⟩) (by rintro v s hr ⟨b, rfl, _⟩; cases hr)
 exact ⟨b, σ', h1, h2, h3, h4⟩
end
section
variable {P : Program}
end
structure Key where
 day : Int
 l : List Std
 h : l.length = 6
 deriving DecidableEq
section
variable {σ : St}
end
section
variable {BA BC BB BD BE lo lW cY db BG lM cN lX cT lY cU lJB cGB lKB cHB lLB cUB lI cI lJ cJ ac ad aa ab dL dM dW dX lO lMB cIB lNB cJB cVB lOB cKB lPB cLB lDB cZ l l1 c1:Nat} {ak bL y aA aM ax ay aC nQ dj nO nZ nFB nIB nBL nBM nBN nBO nBP nBQ nBR nBS nBT nBU nBh nBi nBj nBk nBl nBm nBn nBo nBp nBq nBr nBs nBt nBu nI nB nD nF ar au am cr nY nGB bE nE nA:Int} {Inv:Nat→Int→St→Prop} {Q0 P0:(List Nat)→St→Prop} {fD fC:FuncId} {d8 dO cs1:List Value} {qQ_a qJ_a qFB_a v1 q1_a v0:Addr} {g:Nat→Value} {τ σ σQB σRB σSB σTB σC σ2 σUB σVB σV σWB s_end:St} {Qn Q4 P4 Pn Q6 P6 Qr Pr:St→Prop} {qJ qR qS qDB qEB qF qG ah ag roster eC qGB qHB qSB qIB qJB qW q1:Option Addr} {Nx:Int→St→Prop} {dQ ms dU:List Nat} {Q:Value→St→Prop}
noncomputable def zOE:Code:=(Code.part [1,1,0,1,0,0] (zO Pg 28))
def zDM (BA BC BB BD BE:Nat) (ak bL:Int) (dQ:List Nat):List (Nat × Value):=[(3,.pointer (some ⟨BA,0,none⟩)),(4,.pointer (some ⟨BC,0,none⟩)),(5,.pointer (some ⟨BB,0,none⟩)),(6,.pointer (some ⟨BD,0,none⟩)),(7,.pointer (some ⟨BE,0,none⟩)),(18,iV ak),(19,iV bL)]
def zVC (BA BC BB BD BE:Nat) (ak:Int) (Q:Int→(List Nat)→St→Prop):Alt:=⟨Int × (List Nat),.normal,fun t=>zDM BA BC BB BD BE ak t.1 t.2,fun t=>t.2,fun t σ=>Q t.1 t.2 σ⟩
def zPY (BA BC BB BD BE:Nat) (ak:Int) (dQ:List Nat):List (Nat × Value):=[(3,.pointer (some ⟨BA,0,none⟩)),(6,.pointer (some ⟨BD,0,none⟩)),(7,.pointer (some ⟨BE,0,none⟩))]
def zCE (BA BC BB BD BE:Nat) (ak:Int) (Q:(List Nat)→St→Prop):Alt:=⟨(List Nat),(.exit 0),fun t=>zPY BA BC BB BD BE ak t,fun t=>t,fun t σ=>Q t σ⟩
def zOI (BA BC BB BD BE:Nat) (ak bL:Int) (dQ:List Nat) (σ:St) (Nx:Int→(List Nat)→St→Prop) (Q0:(List Nat)→St→Prop):Prop:=yJ Pg (zS Pg) none zOE 92 (zDM BA BC BB BD BE ak bL dQ) dQ [zVC BA BC BB BD BE ak Nx,zCE BA BC BB BD BE ak Q0] σ
def zOH (BA BC BB BD BE:Nat) (ak bL:Int) (dQ:List Nat) (σ:St) (Q0:(List Nat)→St→Prop):Prop:=yR Pg (zS Pg) none zOE 92 (zDM BA BC BB BD BE ak bL dQ) dQ [zCE BA BC BB BD BE ak Q0] σ
theorem yCL {Inv:Nat→Int→(List Nat)→St→Prop} (hb:∀ k bL dQ σ,Inv k bL dQ σ→zOI BA BC BB BD BE ak bL dQ σ (NX2 Inv k) Q0):∀ k bL dQ σ,Inv k bL dQ σ→zOH BA BC BB BD BE ak bL dQ σ Q0 :=
 zNL (ai (wA 0) trivial) hb
noncomputable def uJ:Code:=(Code.part [1,1,0,1,0,0,1,1,0,0,1,1,0,0] (zO Pg 28))
noncomputable def vL:Code:=(Code.part [1,1,0,1,0,0,1,1,0,0,1,1,0,1] (zO Pg 28))
def uA (BA BC BB BD BE:Nat) (ak bL:Int) (fD:FuncId) (d8:List Value):List (Nat × Value):=[(3,.pointer (some ⟨BA,0,none⟩)),(4,.pointer (some ⟨BC,0,none⟩)),(5,.pointer (some ⟨BB,0,none⟩)),(6,.pointer (some ⟨BD,0,none⟩)),(7,.pointer (some ⟨BE,0,none⟩)),(18,iV ak),(19,iV bL),(24,.func (.func fD) ⟨[]⟩ ⟨d8⟩)]
noncomputable def zAG (BA BC BB BD BE:Nat) (ak bL:Int) (fD:FuncId) (d8:List Value) (g:Nat→Value) (st:LoopState) (pend:Option Code) (db:Nat):Blk:=.loop (Fm 92 (ov (uA BA BC BB BD BE ak bL fD d8) g)) [25,26] uJ vL st pend db
def zZK (BA BC BB BD BE:Nat) (ak bL:Int) (fD:FuncId) (d8:List Value) (σ:St) (Qn:St→Prop):Prop:=zVS Pg (zS Pg) (.tmp 24) ⟨[25,26]⟩ uJ vL 92 (uA BA BC BB BD BE ak bL fD d8) [(.normal,Qn)] σ
theorem yNU (hl:yC τ.heap lo=some (zAG BA BC BB BD BE ak bL fD d8 g .ready none db)) (hl1:yC ((τ.re.row (zE 0 0 0 0 0) 5).own (τ.re.y) (zE aA aM ax ay aC) 5).heap lo=some (zAG BA BC BB BD BE ak bL fD d8 g .ready none db)) (hσ:σ=((τ.re.row (zE 0 0 0 0 0) 5).own (τ.re.y) (zE aA aM ax ay aC) 5).put lo (zAG BA BC BB BD BE ak bL fD d8 g .busy none db)) (h1:zB Pg σ 29 ⟨BC,0,none⟩=some (.slice (some qQ_a) lW cY)) (h2:zB Pg σ 3 (zH qQ_a (Int.toNat y*1))=some (iV nQ)) (nx:Qn σ) (u1:Ix y lW:=by omega) (u2:nQ=(-1):=by omega):zHO Pg lo [iV y,.agg ⟨zE aA aM ax ay aC⟩] τ (Fm 92 (ov (uA BA BC BB BD BE ak bL fD d8) g)) [25,26] uJ vL db [⟨Unit,.normal,fun _=>[],fun _=>[],fun _ σ=>Qn σ⟩] :=
 zWQ hl rfl hl1 hσ [.g,.g,.e undef ((τ.re.row (zE 0 0 0 0 0) 5).own (τ.re.y) (zE aA aM ax ay aC) 5),.l (.slice (some qQ_a) lW cY),.g,.i,.l (iV nQ),.g,.g,.b true,.fin ⟨Unit,.normal,fun _=>[],fun _=>[],fun _ σ=>Qn σ⟩ ()] (kc (by kernel_rfl) (ai ((zC _ _ _).store (vs:=(zE aA aM ax ay aC)) rfl uT rfl (nle rfl) rfl:zL Pg (evL [.pointer (some ⟨τ.re.y,0,none⟩),.agg ⟨zE aA aM ax ay aC⟩]) (τ.re.row (zE 0 0 0 0 0) 5) (.store 69 (.tmp 0) (.tmp 1))=some (undef,((τ.re.row (zE 0 0 0 0 0) 5).own (τ.re.y) (zE aA aM ax ay aC) 5))) (ai (ai (rfl:Exit.normal=Exit.normal) (rfl:((τ.re.row (zE 0 0 0 0 0) 5).own (τ.re.y) (zE aA aM ax ay aC) 5)=((τ.re.row (zE 0 0 0 0 0) 5).own (τ.re.y) (zE aA aM ax ay aC) 5))) (ai h1 (ai u1 (ai h2 (ai (wJ u2) (xJL (alts:=[⟨Unit,.normal,fun _=>[],fun _=>[],fun _ σ=>Qn σ⟩]) ⟨Unit,.normal,fun _=>[],fun _=>[],fun _ σ=>Qn σ⟩ () nx in0))))))))
noncomputable def zZJ:Code:=(Code.part [1,1,0,1,0,0,1,1,0,0,1,1,0,1,0,1,1,0,1,0,0] (zO Pg 28))
def zDL (lo BA BB BD BE:Nat) (y:Int) (BG:Nat) (nQ:Int) (qJ:Option Addr) (lM cN:Nat) (dj:Int):List (Nat × Value):=[(3,.pointer (some ⟨BA,0,none⟩)),(5,.pointer (some ⟨BB,0,none⟩)),(6,.pointer (some ⟨BD,0,none⟩)),(7,.pointer (some ⟨BE,0,none⟩)),(9,iV y),(10,.pointer (some ⟨BG,0,none⟩)),(11,iV nQ),(33,.slice qJ lM cN),(34,iV ((lM:Nat):Int)),(35,iV dj)]
def yOE (lo BA BB BD BE:Nat) (y:Int) (BG:Nat) (nQ:Int) (qJ:Option Addr) (lM cN:Nat) (Q:Int→St→Prop):Alt:=⟨Int,.normal,fun t=>zDL lo BA BB BD BE y BG nQ qJ lM cN t,fun t=>[],fun t σ=>Q t σ⟩
def zPX (lo BA BB BD BE:Nat) (y:Int) (BG:Nat) (nQ:Int) (qJ:Option Addr) (lM cN:Nat):List (Nat × Value):=[(5,.pointer (some ⟨BB,0,none⟩)),(7,.pointer (some ⟨BE,0,none⟩)),(9,iV y),(10,.pointer (some ⟨BG,0,none⟩)),(11,iV nQ)]
def zHC (lo BA BB BD BE:Nat) (y:Int) (BG:Nat) (nQ:Int) (qJ:Option Addr) (lM cN:Nat) (Q:St→Prop):Alt:=⟨Unit,(.exit 4),fun t=>zPX lo BA BB BD BE y BG nQ qJ lM cN,fun t=>[],fun t σ=>Q σ⟩
def zIK (lo BA BB BD BE:Nat) (y:Int) (BG:Nat) (nQ:Int) (qJ:Option Addr) (lM cN:Nat) (dj:Int) (σ:St) (Nx:Int→St→Prop) (Q4:St→Prop):Prop:=yJ Pg (zS Pg) (some lo) zZJ 92 (zDL lo BA BB BD BE y BG nQ qJ lM cN dj) [] [yOE lo BA BB BD BE y BG nQ qJ lM cN Nx,zHC lo BA BB BD BE y BG nQ qJ lM cN Q4] σ
def zOG (lo BA BB BD BE:Nat) (y:Int) (BG:Nat) (nQ:Int) (qJ:Option Addr) (lM cN:Nat) (dj:Int) (σ:St) (Q4:St→Prop):Prop:=yR Pg (zS Pg) (some lo) zZJ 92 (zDL lo BA BB BD BE y BG nQ qJ lM cN dj) [] [zHC lo BA BB BD BE y BG nQ qJ lM cN Q4] σ
theorem yCK (hb:∀ k dj σ,Inv k dj σ→zIK lo BA BB BD BE y BG nQ qJ lM cN dj σ (NX1 Inv k) Q4):∀ k dj σ,Inv k dj σ→zOG lo BA BB BD BE y BG nQ qJ lM cN dj σ Q4 :=
 yV (ai (wA 4) trivial) hb
theorem yOA (h1:zB Pg σ 98 (zH qJ_a (Int.toNat dj*2))=some (.agg ⟨[.int .u8 nO,.func (.func fC) ⟨[]⟩ ⟨dO⟩]⟩)) (h2:zB Pg ((σ.row [.int .u8 0,.nilFunc] 2).own σ.y [.int .u8 nO,.func (.func fC) ⟨[]⟩ ⟨dO⟩] 2) 43 ⟨BA,0,none⟩=some (.agg ⟨wkc nZ qR lX cT qS lY cU nFB nIB nBL⟩)) (h3:zB Pg ((σ.row [.int .u8 0,.nilFunc] 2).own σ.y [.int .u8 nO,.func (.func fC) ⟨[]⟩ ⟨dO⟩] 2) 69 ⟨BG,0,none⟩=some (.agg ⟨zE nBM nBN nBO nBP nBQ⟩)) (h4:zB Pg ((σ.row [.int .u8 0,.nilFunc] 2).own σ.y [.int .u8 nO,.func (.func fC) ⟨[]⟩ ⟨dO⟩] 2) 87 ⟨BE,0+Int.toNat nQ*4,none⟩=some (.agg ⟨zP nBR nBS nBT nBU⟩)) (h5:zD Pg fC (.agg ⟨wkc nZ qR lX cT qS lY cU nFB nIB nBL⟩::iV nQ::.agg ⟨zE nBM nBN nBO nBP nBQ⟩::.agg ⟨zP nBR nBS nBT nBU⟩::dO) ((σ.row [.int .u8 0,.nilFunc] 2).own σ.y [.int .u8 nO,.func (.func fC) ⟨[]⟩ ⟨dO⟩] 2) (.bool true) ((σ.row [.int .u8 0,.nilFunc] 2).own σ.y [.int .u8 nO,.func (.func fC) ⟨[]⟩ ⟨dO⟩] 2)) (nx:Nx (dj+1) ((σ.row [.int .u8 0,.nilFunc] 2).own σ.y [.int .u8 nO,.func (.func fC) ⟨[]⟩ ⟨dO⟩] 2)) (u1:dj<((lM:Nat):Int):=by omega) (u2:Ix dj lM:=by omega) (u3:Ix nQ 6:=by omega) (u4:I6 (dj+1):=by omega):zIK lo BA BB BD BE y BG nQ (some qJ_a) lM cN dj σ Nx Q4 :=
 let s1:=σ.row [.int .u8 0,.nilFunc] 2;let s2:=s1.own σ.y [.int .u8 nO,.func (.func fC) ⟨[]⟩ ⟨dO⟩] 2;kO 0 (dj+1) [.b true,.i,.l (.agg ⟨[.int .u8 nO,.func (.func fC) ⟨[]⟩ ⟨dO⟩]⟩),.g,.e undef s2,.g,.l (.func (.func fC) ⟨[]⟩ ⟨dO⟩),.l (.agg ⟨wkc nZ qR lX cT qS lY cU nFB nIB nBL⟩),.g,.l (.agg ⟨zE nBM nBN nBO nBP nBQ⟩),.g,.i,.l (.agg ⟨zP nBR nBS nBT nBU⟩),.c (.bool true) s2,.g,.n (dj+1),.g] (fun _ f=>(an5 (zJ u1) u2 h1 ((zC _ _ _).store (vs:=[.int .u8 nO,.func (.func fC) ⟨[]⟩ ⟨dO⟩]) rfl zJQ rfl (nle rfl) rfl:zL Pg (evL [.pointer (some ⟨σ.y,0,none⟩),.agg ⟨[.int .u8 nO,.func (.func fC) ⟨[]⟩ ⟨dO⟩]⟩]) s1 (.store 98 (.tmp 0) (.tmp 1))=some (undef,s2)) ((zC _ _ _).put.rw.ld xHA (k:=1) rfl:zB Pg s2 96 ⟨σ.y,1,none⟩=some (.func (.func fC) ⟨[]⟩ ⟨dO⟩)) (an6 h2 h3 u3 h4 h5 (w64 u4) f))) nx
theorem yNZ (h1:zB Pg σ 98 (zH qJ_a (Int.toNat dj*2))=some (.agg ⟨[.int .u8 nO,.func (.func fC) ⟨[]⟩ ⟨dO⟩]⟩)) (h2:zB Pg ((σ.row [.int .u8 0,.nilFunc] 2).own σ.y [.int .u8 nO,.func (.func fC) ⟨[]⟩ ⟨dO⟩] 2) 43 ⟨BA,0,none⟩=some (.agg ⟨wkc nZ qR lX cT qS lY cU nFB nIB nBL⟩)) (h3:zB Pg ((σ.row [.int .u8 0,.nilFunc] 2).own σ.y [.int .u8 nO,.func (.func fC) ⟨[]⟩ ⟨dO⟩] 2) 69 ⟨BG,0,none⟩=some (.agg ⟨zE nBM nBN nBO nBP nBQ⟩)) (h4:zB Pg ((σ.row [.int .u8 0,.nilFunc] 2).own σ.y [.int .u8 nO,.func (.func fC) ⟨[]⟩ ⟨dO⟩] 2) 87 ⟨BE,0+Int.toNat nQ*4,none⟩=some (.agg ⟨zP nBR nBS nBT nBU⟩)) (h5:zD Pg fC (.agg ⟨wkc nZ qR lX cT qS lY cU nFB nIB nBL⟩::iV nQ::.agg ⟨zE nBM nBN nBO nBP nBQ⟩::.agg ⟨zP nBR nBS nBT nBU⟩::dO) ((σ.row [.int .u8 0,.nilFunc] 2).own σ.y [.int .u8 nO,.func (.func fC) ⟨[]⟩ ⟨dO⟩] 2) (.bool false) ((σ.row [.int .u8 0,.nilFunc] 2).own σ.y [.int .u8 nO,.func (.func fC) ⟨[]⟩ ⟨dO⟩] 2)) (h6:zB Pg ((σ.row [.int .u8 0,.nilFunc] 2).own σ.y [.int .u8 nO,.func (.func fC) ⟨[]⟩ ⟨dO⟩] 2) 36 ⟨BD,0,none⟩=some (.slice qDB lJB cGB)) (h7:zZ Pg 36 36 (.slice qDB lJB cGB) (.slice (some ⟨(σ.y+1),0,none⟩) 1 1) (((σ.row [.int .u8 0,.nilFunc] 2).own σ.y [.int .u8 nO,.func (.func fC) ⟨[]⟩ ⟨dO⟩] 2).row (rcd nO nQ y) 3)=some (.slice qEB lKB cHB,σQB)) (h8:zL Pg (evL [.pointer (some ⟨BD,0,none⟩),.slice qEB lKB cHB]) σQB (.store 36 (.tmp 0) (.tmp 1))=some (undef,σRB)) (nx:Nx (dj+1) σRB) (u1:dj<((lM:Nat):Int):=by omega) (u2:Ix dj lM:=by omega) (u3:Ix nQ 6:=by omega) (u4:I6 (dj+1):=by omega):zIK lo BA BB BD BE y BG nQ (some qJ_a) lM cN dj σ Nx Q4 :=
 let s1:=σ.row [.int .u8 0,.nilFunc] 2;let s2:=s1.own σ.y [.int .u8 nO,.func (.func fC) ⟨[]⟩ ⟨dO⟩] 2;kO 0 (dj+1) [.b true,.i,.l (.agg ⟨[.int .u8 nO,.func (.func fC) ⟨[]⟩ ⟨dO⟩]⟩),.g,.e undef s2,.g,.l (.func (.func fC) ⟨[]⟩ ⟨dO⟩),.l (.agg ⟨wkc nZ qR lX cT qS lY cU nFB nIB nBL⟩),.g,.l (.agg ⟨zE nBM nBN nBO nBP nBQ⟩),.g,.i,.l (.agg ⟨zP nBR nBS nBT nBU⟩),.c (.bool false) s2,.g,.l (.slice qDB lJB cGB),.g,.l (.int .u8 nO),.g,.g,.g,.g,.e (.slice qEB lKB cHB) σQB,.e undef σRB,.n (dj+1),.g] (fun _ f=>(an3 (zJ u1) u2 h1 (an6 ((zC _ _ _).store (vs:=[.int .u8 nO,.func (.func fC) ⟨[]⟩ ⟨dO⟩]) rfl zJQ rfl (nle rfl) rfl:zL Pg (evL [.pointer (some ⟨σ.y,0,none⟩),.agg ⟨[.int .u8 nO,.func (.func fC) ⟨[]⟩ ⟨dO⟩]⟩]) s1 (.store 98 (.tmp 0) (.tmp 1))=some (undef,s2)) ((zC _ _ _).put.rw.ld xHA (k:=1) rfl:zB Pg s2 96 ⟨σ.y,1,none⟩=some (.func (.func fC) ⟨[]⟩ ⟨dO⟩)) h2 h3 u3 h4 (an6 h5 h6 ((zC _ _ _).put.rw.ld yWP (k:=0) rfl:zB Pg s2 5 ⟨σ.y,0,none⟩=some (.int .u8 nO)) h7 h8 (w64 u4) f)))) nx
theorem yNY (nx:Q4 σ) (u1:¬ dj<((lM:Nat):Int):=by omega):zIK lo BA BB BD BE y BG nQ qJ lM cN dj σ Nx Q4 :=
 kO 1 () [.b false] (fun _ f=>(ai (zM u1) f)) nx
def zHE (lo BA BB BD BE:Nat) (y:Int) (BG:Nat) (nQ:Int) (qJ:Option Addr) (lM cN:Nat) (σ:St) (Qn:St→Prop):Prop:=∀ g:Nat→Value,∃ an,Hid (kAt Pg (zS Pg) (some lo) vL [0,1,1,0,1,0] (xDL [⟨Unit,.normal,fun _=>[],fun _=>[],fun _ σ=>Qn σ⟩]) (.exit 4) ⟨Fm 92 (ov (zPX lo BA BB BD BE y BG nQ qJ lM cN) g),[]⟩ σ an)
theorem yNT (hl:yC τ.heap lo=some (zAG BA BC BB BD BE ak bL fD d8 g .ready none db)) (hl1:yC ((τ.re.row (zE 0 0 0 0 0) 5).own (τ.re.y) (zE aA aM ax ay aC) 5).heap lo=some (zAG BA BC BB BD BE ak bL fD d8 g .ready none db)) (hσ:σ=((τ.re.row (zE 0 0 0 0 0) 5).own (τ.re.y) (zE aA aM ax ay aC) 5).put lo (zAG BA BC BB BD BE ak bL fD d8 g .busy none db)) (h1:zB Pg σ 29 ⟨BC,0,none⟩=some (.slice (some qQ_a) lW cY)) (h2:zB Pg σ 3 (zH qQ_a (Int.toNat y*1))=some (iV nQ)) (h3:zD Pg 47 [] σ (.slice qJ lM cN) σSB) (hL:zOG lo BA BB BD BE y (τ.re.y) nQ qJ lM cN 0 σSB P4) (k4:∀ σ',P4 σ'→zHE lo BA BB BD BE y (τ.re.y) nQ qJ lM cN σ' Qn) (u1:Ix y lW:=by omega) (u2:¬ nQ=(-1):=by omega):zHO Pg lo [iV y,.agg ⟨zE aA aM ax ay aC⟩] τ (Fm 92 (ov (uA BA BC BB BD BE ak bL fD d8) g)) [25,26] uJ vL db [⟨Unit,.normal,fun _=>[],fun _=>[],fun _ σ=>Qn σ⟩] :=
 zWQ hl rfl hl1 hσ [.g,.g,.e undef ((τ.re.row (zE 0 0 0 0 0) 5).own (τ.re.y) (zE aA aM ax ay aC) 5),.l (.slice (some qQ_a) lW cY),.g,.i,.l (iV nQ),.g,.g,.b false,.c (.slice qJ lM cN) σSB,.g,.g,.lf 92 (zDL lo BA BB BD BE y (τ.re.y) nQ qJ lM cN 0) [zHC lo BA BB BD BE y (τ.re.y) nQ qJ lM cN P4]] (kc (by kernel_rfl) (ai ((zC _ _ _).store (vs:=(zE aA aM ax ay aC)) rfl uT rfl (nle rfl) rfl:zL Pg (evL [.pointer (some ⟨τ.re.y,0,none⟩),.agg ⟨zE aA aM ax ay aC⟩]) (τ.re.row (zE 0 0 0 0 0) 5) (.store 69 (.tmp 0) (.tmp 1))=some (undef,((τ.re.row (zE 0 0 0 0 0) 5).own (τ.re.y) (zE aA aM ax ay aC) 5))) (ai (ai (rfl:Exit.normal=Exit.normal) (rfl:((τ.re.row (zE 0 0 0 0 0) 5).own (τ.re.y) (zE aA aM ax ay aC) 5)=((τ.re.row (zE 0 0 0 0 0) 5).own (τ.re.y) (zE aA aM ax ay aC) 5))) (ai h1 (ai u1 (ai h2 (ai (xB u2) (ai h3 (ai (ai tt (ai (arf (zDL lo BA BB BD BE y (τ.re.y) nQ qJ lM cN 0)) hL)) (ai (kz0 k4) trivial))))))))))
theorem yCG (h1:zB Pg σ 87 ⟨BE,0+Int.toNat nQ*4,none⟩=some (.agg ⟨zP nBh nBi nBj nBk⟩)) (h2:zB Pg σ 69 ⟨BG,0,none⟩=some (.agg ⟨zE nBl nBm nBn nBo nBp⟩)) (h3:zB Pg σ 29 ⟨BB,0,none⟩=some (.slice (some qFB_a) lLB cUB)) (h4:zB Pg σ 3 (zH qFB_a (Int.toNat y*1))=some (iV nBq)) (h5:zD Pg 48 [.agg ⟨zP nBh nBi nBj nBk⟩,.agg ⟨zE nBl nBm nBn nBo nBp⟩,iV nBq] σ (.agg ⟨zP nBr nBs nBt nBu⟩) σ) (h6:zL Pg (evL [.pointer (some ⟨BE,0+Int.toNat nQ*4,none⟩),.agg ⟨zP nBr nBs nBt nBu⟩]) σ (.store 87 (.tmp 0) (.tmp 1))=some (undef,σTB)) (nx:Qn σTB) (u1:Ix nQ 6:=by omega) (u2:Ix y lLB:=by omega):zHE lo BA BB BD BE y BG nQ qJ lM cN σ Qn :=
 sK [.g,.g,.i,.l (.agg ⟨zP nBh nBi nBj nBk⟩),.l (.agg ⟨zE nBl nBm nBn nBo nBp⟩),.l (.slice (some qFB_a) lLB cUB),.g,.i,.l (iV nBq),.c (.agg ⟨zP nBr nBs nBt nBu⟩) σ,.i,.e undef σTB,.fin ⟨Unit,.normal,fun _=>[],fun _=>[],fun _ σ=>Qn σ⟩ ()] (an3 u1 h1 h2 (an6 h3 u2 h4 h5 u1 h6 (xJL (alts:=[⟨Unit,.normal,fun _=>[],fun _=>[],fun _ σ=>Qn σ⟩]) ⟨Unit,.normal,fun _=>[],fun _=>[],fun _ σ=>Qn σ⟩ () nx in0)))
def zQA (BA BC BB BD BE:Nat) (ak bL:Int) (fD:FuncId) (d8:List Value) (ms:List Nat) (σ:St) (Nx:Int→(List Nat)→St→Prop) (Q0:(List Nat)→St→Prop):Prop:=∀ g:Nat→Value,∃ an,Hid (kAt Pg (zS Pg) none zOE [1,1,0,0,1,1,0] (zDP 92 [zVC BA BC BB BD BE ak Nx,zCE BA BC BB BD BE ak Q0]) .normal ⟨Fm 92 (ov (uA BA BC BB BD BE ak bL fD d8) g),ms⟩ σ an)
theorem yOC {Nx:Int→(List Nat)→St→Prop} (h1:zB Pg σ 43 ⟨BA,0,none⟩=some (.agg ⟨wkc nI qF lI cI qG lJ cJ nB nD nF⟩)) (h2:zD Pg 46 [.agg ⟨wkc nI qF lI cI qG lJ cJ nB nD nF⟩,iV bL] σ (.func (.func fD) ⟨[]⟩ ⟨d8⟩) σC) (hL:zZK BA BC BB BD BE ak bL fD d8 σC Pn) (kn:∀ σ',Pn σ'→zQA BA BC BB BD BE ak bL fD d8 (σC.y::dQ) σ' Nx Q0) (u1:bL<ak:=by omega):zOI BA BC BB BD BE ak bL dQ σ Nx Q0 :=
 zBG [.b true,.g,.g,.l (.agg ⟨wkc nI qF lI cI qG lJ cJ nB nD nF⟩),.g,.c (.func (.func fD) ⟨[]⟩ ⟨d8⟩) σC,.rf 92 (uA BA BC BB BD BE ak bL fD d8) [(.normal,Pn)]] (fun g=>kd (an3 (zJ u1) h1 h2 (ai (ai tt (ai (arf (uA BA BC BB BD BE ak bL fD d8)) hL)) (ai (kz kn) trivial))))
theorem yOB {Nx:Int→(List Nat)→St→Prop} (nx:Q0 dQ σ) (u1:¬ bL<ak:=by omega):zOI BA BC BB BD BE ak bL dQ σ Nx Q0 :=
 kO 1 dQ [.b false] (fun _ f=>(ai (zM u1) f)) nx
theorem yCH {Nx:Int→(List Nat)→St→Prop} (nx:Nx (bL+1) ms σ) (u1:I6 (bL+1):=by omega):zQA BA BC BB BD BE ak bL fD d8 ms σ Nx Q0 :=
 sF 0 (bL+1,ms) [.n (bL+1),.g] (fun _ f=>(ai (w64 u1) f)) nx
def zQB (BA BC BB BD BE:Nat) (ak:Int) (dQ:List Nat) (σ:St) (Q:Value→St→Prop):Prop:=∀ g:Nat→Value,∃ an,Hid (kAt Pg (zS Pg) none (zO Pg 28) [1,1,0,1,0] (kFn Pg 28 Q) (.exit 0) ⟨Fm 92 (ov (zPY BA BC BB BD BE ak dQ) g),dQ⟩ σ an)
theorem yVX (h1:zD Pg 45 [.agg ⟨wkc ak ah ac ad ag aa ab ar au am⟩] ((((σ.row (wkc ak ah ac ad ag aa ab ar au am) 6).row [.slice roster dL dM] 1).row [.slice eC dW dX] 1).row [.slice none 0 0] 1) (.agg ⟨cs1⟩) ((((σ.row (wkc ak ah ac ad ag aa ab ar au am) 6).row [.slice roster dL dM] 1).row [.slice eC dW dX] 1).row [.slice none 0 0] 1)) (h2:zL Pg (evL [.pointer (some ⟨(σ.y+4),0,none⟩),.agg ⟨cs1⟩]) (((((σ.row (wkc ak ah ac ad ag aa ab ar au am) 6).row [.slice roster dL dM] 1).row [.slice eC dW dX] 1).row [.slice none 0 0] 1).row [iV 0,iV 0,iV 0,iV 0,iV 0,iV 0,iV 0,iV 0,iV 0,iV 0,iV 0,iV 0,iV 0,iV 0,iV 0,iV 0,iV 0,iV 0,iV 0,iV 0,iV 0,iV 0,iV 0,iV 0] 4) (.store 89 (.tmp 0) (.tmp 1))=some (undef,σ2)) (h3:zB Pg σ2 3 ⟨σ.y,0,none⟩=some (iV ak)) (hL:zOH σ.y (σ.y+1) (σ.y+2) (σ.y+3) (σ.y+4) ak 0 [] σ2 P0) (k0:∀ ms_1' σ',P0 ms_1' σ'→zQB σ.y (σ.y+1) (σ.y+2) (σ.y+3) (σ.y+4) ak ms_1' σ' Q):zI Pg 28 [.agg ⟨wkc ak ah ac ad ag aa ab ar au am⟩,.slice roster dL dM,.slice eC dW dX] σ Q :=
 let s1:=σ.row (wkc ak ah ac ad ag aa ab ar au am) 6;let s2:=s1.row [.slice roster dL dM] 1;let s3:=s2.row [.slice eC dW dX] 1;let s4:=s3.row [.slice none 0 0] 1;let s5:=σ.y+4;let s6:=σ.y+3;let s7:=σ.y+2;let s8:=σ.y+1;zF [.g,.g,.g,.g,.l (.agg ⟨wkc ak ah ac ad ag aa ab ar au am⟩),.c (.agg ⟨cs1⟩) s4,.g,.e undef σ2,.g,.l (iV ak),.g,.lf 92 (zDM σ.y s8 s7 s6 s5 ak 0 []) [zCE σ.y s8 s7 s6 s5 ak P0]] (kd (an4 ((zC _ _ _).row.row.row.rw.ldN zCH vO (k:=0) rfl rfl (nle rfl):zB Pg s4 43 ⟨σ.y,0,none⟩=some (.agg ⟨wkc ak ah ac ad ag aa ab ar au am⟩)) h1 h2 h3 (ai (ai tt (ai (arf (zDM σ.y s8 s7 s6 s5 ak 0 [])) hL)) (ai (kz1 k0) trivial))))
noncomputable def zZI:Code:=(Code.part [1,1,1,0,1,0,0] (zO Pg 28))
def zDK (BA BD BE lO:Nat) (dU:List Nat) (cr:Int):List (Nat × Value):=[(3,.pointer (some ⟨BA,0,none⟩)),(6,.pointer (some ⟨BD,0,none⟩)),(7,.pointer (some ⟨BE,0,none⟩)),(72,iV ((lO:Nat):Int)),(73,iV cr)]
def yOD (BA BD BE lO:Nat) (dU:List Nat) (Q:Int→St→Prop):Alt:=⟨Int,.normal,fun t=>zDK BA BD BE lO dU t,fun t=>dU,fun t σ=>Q t σ⟩
def zPW (BA BD BE lO:Nat) (dU:List Nat):List (Nat × Value):=[(6,.pointer (some ⟨BD,0,none⟩))]
def zHB (BA BD BE lO:Nat) (dU:List Nat) (Q:St→Prop):Alt:=⟨Unit,(.exit 6),fun t=>zPW BA BD BE lO dU,fun t=>dU,fun t σ=>Q σ⟩
def zIJ (BA BD BE lO:Nat) (dU:List Nat) (cr:Int) (σ:St) (Nx:Int→St→Prop) (Q6:St→Prop):Prop:=yJ Pg (zS Pg) none zZI 92 (zDK BA BD BE lO dU cr) dU [yOD BA BD BE lO dU Nx,zHB BA BD BE lO dU Q6] σ
def zOF (BA BD BE lO:Nat) (dU:List Nat) (cr:Int) (σ:St) (Q6:St→Prop):Prop:=yR Pg (zS Pg) none zZI 92 (zDK BA BD BE lO dU cr) dU [zHB BA BD BE lO dU Q6] σ
theorem yCJ (hb:∀ k cr σ,Inv k cr σ→zIJ BA BD BE lO dU cr σ (NX1 Inv k) Q6):∀ k cr σ,Inv k cr σ→zOF BA BD BE lO dU cr σ Q6 :=
 yV (ai (wA 6) trivial) hb
theorem yNX (h1:zB Pg σ 3 ⟨BE,0+Int.toNat cr*4+2,none⟩=some (iV nY)) (h2:zB Pg σ 3 ⟨BA,5,none⟩=some (iV nGB)) (h3:zB Pg σ 36 ⟨BD,0,none⟩=some (.slice qGB lMB cIB)) (h4:zZ Pg 36 36 (.slice qGB lMB cIB) (.slice (some ⟨σ.y,0,none⟩) 1 1) (σ.row (rcd 5 cr 0) 3)=some (.slice qHB lNB cJB,σUB)) (h5:zL Pg (evL [.pointer (some ⟨BD,0,none⟩),.slice qHB lNB cJB]) σUB (.store 36 (.tmp 0) (.tmp 1))=some (undef,σVB)) (nx:Nx (cr+1) σVB) (u1:cr<((lO:Nat):Int):=by omega) (u2:Ix cr 6:=by omega) (u3:nGB<nY:=by omega) (u4:I6 (cr+1):=by omega):zIJ BA BD BE lO dU cr σ Nx Q6 :=
 kO 0 (cr+1) [.b true,.g,.g,.g,.i,.g,.l (iV nY),.g,.l (iV nGB),.b true,.l (.slice qGB lMB cIB),.g,.g,.g,.e (.slice qHB lNB cJB) σUB,.e undef σVB,.n (cr+1),.g] (fun _ f=>(an3 (zJ u1) u2 h1 (an6 h2 (zJ u3) h3 h4 h5 (w64 u4) f))) nx
theorem yNW (h1:zB Pg σ 3 ⟨BE,0+Int.toNat cr*4+2,none⟩=some (iV nY)) (h2:zB Pg σ 3 ⟨BA,5,none⟩=some (iV nGB)) (nx:Nx (cr+1) σ) (u1:cr<((lO:Nat):Int):=by omega) (u2:Ix cr 6:=by omega) (u3:¬ nGB<nY:=by omega) (u4:I6 (cr+1):=by omega):zIJ BA BD BE lO dU cr σ Nx Q6 :=
 kO 0 (cr+1) [.b true,.g,.g,.g,.i,.g,.l (iV nY),.g,.l (iV nGB),.b false,.n (cr+1),.g] (fun _ f=>(an6 (zJ u1) u2 h1 h2 (zM u3) (w64 u4) f)) nx
theorem yNV (nx:Q6 σ) (u1:¬ cr<((lO:Nat):Int):=by omega):zIJ BA BD BE lO dU cr σ Nx Q6 :=
 kO 1 () [.b false] (fun _ f=>(ai (zM u1) f)) nx
def zHD (BA BD BE lO:Nat) (dU:List Nat) (σ:St) (Q:Value→St→Prop):Prop:=∀ g:Nat→Value,∃ an,Hid (kAt Pg (zS Pg) none (zO Pg 28) [1,1,1,0,1,0] (kFn Pg 28 Q) (.exit 6) ⟨Fm 92 (ov (zPW BA BD BE lO dU) g),dU⟩ σ an)
theorem yCI (h1:zB Pg σ 41 ⟨BA,2,none⟩=some (.slice qSB lO cVB)) (hL:zOF BA BD BE lO dQ 0 σ P6) (k6:∀ σ',P6 σ'→zHD BA BD BE lO dQ σ' Q):zQB BA BC BB BD BE ak dQ σ Q :=
 sK [.g,.l (.slice qSB lO cVB),.g,.g,.lf 92 (zDK BA BD BE lO dQ 0) [zHB BA BD BE lO dQ P6]] (ai h1 (ai (ai tt (ai (arf (zDK BA BD BE lO dQ 0)) hL)) (ai (kz0 k6) trivial)))
theorem zMM (h1:zB Pg σ 36 ⟨BD,0,none⟩=some (.slice qIB lOB cKB)) (h2:zD Pg 49 [.slice qIB lOB cKB,.func (.func 50) ⟨[]⟩ ⟨[]⟩] σ (.tuple ⟨[]⟩) σV) (h3:zB Pg σV 36 ⟨BD,0,none⟩=some (.slice qJB lPB cLB)) (h4:zL Pg (evL [.pointer (some ⟨BD,0,none⟩),.slice qJB lPB cLB]) σV (.store 36 (.tmp 0) (.tmp 1))=some (undef,σWB)) (h5:xDK dU σWB s_end) (h6:zB Pg s_end 36 ⟨BD,0,none⟩=some (.slice qW lDB cZ)) (nx:Q (.slice qW lDB cZ) s_end):zHD BA BD BE lO dU σ Q :=
 sK [.l (.slice qIB lOB cKB),.c (.tuple ⟨[]⟩) σV,.l (.slice qJB lPB cLB),.e undef σWB,.l (.slice qW lDB cZ)] (an4 h1 h2 h3 h4 (zRO (K:=(fun s_end=>zB Pg s_end 36 ⟨BD,0,none⟩=some (.slice qW lDB cZ)∧Q (.slice qW lDB cZ) s_end)) h5 (ai h6 nx)))
noncomputable def yZX:Code:=(Code.part [1,0,0] (zO Pg 63))
def zTI (l:Nat) (v1:Addr) (q1:Option Addr) (l1 c1:Nat) (bE:Int):List (Nat × Value):=[(0,.func (.yield l) ⟨[]⟩ ⟨[]⟩),(2,.pointer (some v1)),(7,.slice q1 l1 c1),(8,iV ((l1:Nat):Int)),(9,iV bE)]
def xEW (l:Nat) (v1:Addr) (q1:Option Addr) (l1 c1:Nat) (Q:Int→St→Prop):Alt:=⟨Int,.normal,fun t=>zTI l v1 q1 l1 c1 t,fun t=>[],fun t σ=>Q t σ⟩
def yFU (l:Nat) (v1:Addr) (q1:Option Addr) (l1 c1:Nat):List (Nat × Value):=[]
def zTJ (l:Nat) (v1:Addr) (q1:Option Addr) (l1 c1:Nat) (Q:St→Prop):Alt:=⟨Unit,.ret,fun t=>yFU l v1 q1 l1 c1,fun t=>[],fun t σ=>Q σ⟩
def yFV (l:Nat) (v1:Addr) (q1:Option Addr) (l1 c1:Nat):List (Nat × Value):=[]
def zTK (l:Nat) (v1:Addr) (q1:Option Addr) (l1 c1:Nat) (Q:St→Prop):Alt:=⟨Unit,(.exit 0),fun t=>yFV l v1 q1 l1 c1,fun t=>[],fun t σ=>Q σ⟩
def yBK (l:Nat) (v1:Addr) (q1:Option Addr) (l1 c1:Nat) (bE:Int) (σ:St) (Nx:Int→St→Prop) (Qr:St→Prop) (Q0:St→Prop):Prop:=yJ Pg (zS Pg) none yZX 26 (zTI l v1 q1 l1 c1 bE) [] [xEW l v1 q1 l1 c1 Nx,zTJ l v1 q1 l1 c1 Qr,zTK l v1 q1 l1 c1 Q0] σ
def yZY (l:Nat) (v1:Addr) (q1:Option Addr) (l1 c1:Nat) (bE:Int) (σ:St) (Qr:St→Prop) (Q0:St→Prop):Prop:=yR Pg (zS Pg) none yZX 26 (zTI l v1 q1 l1 c1 bE) [] [zTJ l v1 q1 l1 c1 Qr,zTK l v1 q1 l1 c1 Q0] σ
theorem yUK {Q0:St→Prop} (hb:∀ k bE σ,Inv k bE σ→yBK l v1 q1 l1 c1 bE σ (NX1 Inv k) Qr Q0):∀ k bE σ,Inv k bE σ→yZY l v1 q1 l1 c1 bE σ Qr Q0 :=
 yV (ai zAQ (ai (wA 0) trivial)) hb
theorem xEU {Q0:St→Prop} (h1:zB Pg σ 69 (zH q1_a (Int.toNat bE*5))=some (.agg ⟨zE nI nE nA nB nD⟩)) (h2:zB Pg ((σ.row (zE 0 0 0 0 0) 5).own σ.y (zE nI nE nA nB nD) 5) 3 v1=some (iV nF)) (h3:yPD Pg l [iV bE,.agg ⟨zE nI nE nA nB nD⟩] ((σ.row (zE 0 0 0 0 0) 5).own σ.y (zE nI nE nA nB nD) 5) (.bool true) σC) (nx:Nx (bE+1) σC) (u1:bE<((l1:Nat):Int):=by omega) (u2:Ix bE l1:=by omega) (u3:nI=nF:=by omega) (u4:I6 (bE+1):=by omega):yBK l v1 (some q1_a) l1 c1 bE σ Nx Qr Q0 :=
 let s1:=σ.row (zE 0 0 0 0 0) 5;let s2:=s1.own σ.y (zE nI nE nA nB nD) 5;kO 0 (bE+1) [.b true,.g,.i,.l (.agg ⟨zE nI nE nA nB nD⟩),.g,.g,.e undef s2,.g,.l (iV nI),.l (iV nF),.b true,.g,.g,.g,.l (.agg ⟨zE nI nE nA nB nD⟩),.c (.bool true) σC,.g,.g,.n (bE+1),.g] (fun _ f=>(an4 (zJ u1) u2 h1 ((zC _ _ _).store (vs:=(zE nI nE nA nB nD)) rfl uT rfl (nle rfl) rfl:zL Pg (evL [.pointer (some ⟨σ.y,0,none⟩),.agg ⟨zE nI nE nA nB nD⟩]) s1 (.store 69 (.tmp 0) (.tmp 1))=some (undef,s2)) (an6 ((zC _ _ _).put.rw.ld zK (k:=0) rfl:zB Pg s2 3 ⟨σ.y,0,none⟩=some (iV nI)) h2 (wJ u3) ((zC _ _ _).put.rw.ldN zQF uT (k:=0) rfl rfl (nle rfl):zB Pg s2 69 ⟨σ.y,0,none⟩=some (.agg ⟨zE nI nE nA nB nD⟩)) h3 (w64 u4) f))) nx
theorem xET {Q0:St→Prop} (h1:zB Pg σ 69 (zH q1_a (Int.toNat bE*5))=some (.agg ⟨zE nI nE nA nB nD⟩)) (h2:zB Pg ((σ.row (zE 0 0 0 0 0) 5).own σ.y (zE nI nE nA nB nD) 5) 3 v1=some (iV nF)) (nx:Nx (bE+1) ((σ.row (zE 0 0 0 0 0) 5).own σ.y (zE nI nE nA nB nD) 5)) (u1:bE<((l1:Nat):Int):=by omega) (u2:Ix bE l1:=by omega) (u3:¬ nI=nF:=by omega) (u4:I6 (bE+1):=by omega):yBK l v1 (some q1_a) l1 c1 bE σ Nx Qr Q0 :=
 let s1:=σ.row (zE 0 0 0 0 0) 5;let s2:=s1.own σ.y (zE nI nE nA nB nD) 5;kO 0 (bE+1) [.b true,.g,.i,.l (.agg ⟨zE nI nE nA nB nD⟩),.g,.g,.e undef s2,.g,.l (iV nI),.l (iV nF),.b false,.g,.g,.n (bE+1),.g] (fun _ f=>(an2 (zJ u1) u2 (an6 h1 ((zC _ _ _).store (vs:=(zE nI nE nA nB nD)) rfl uT rfl (nle rfl) rfl:zL Pg (evL [.pointer (some ⟨σ.y,0,none⟩),.agg ⟨zE nI nE nA nB nD⟩]) s1 (.store 69 (.tmp 0) (.tmp 1))=some (undef,s2)) ((zC _ _ _).put.rw.ld zK (k:=0) rfl:zB Pg s2 3 ⟨σ.y,0,none⟩=some (iV nI)) h2 (xB u3) (w64 u4) f))) nx
theorem xES {Q0:St→Prop} (nx:Q0 σ) (u1:¬ bE<((l1:Nat):Int):=by omega):yBK l v1 q1 l1 c1 bE σ Nx Qr Q0 :=
 kO 2 () [.b false] (fun _ f=>(ai (zM u1) f)) nx
def yZZ (l:Nat) (v1:Addr) (q1:Option Addr) (l1 c1:Nat) (σ:St) (Q:Value→St→Prop):Prop:=∀ g:Nat→Value,∃ an,Hid (kAt Pg (zS Pg) none (zO Pg 63) [1,0] (kFn Pg 63 Q) .ret ⟨Fm 26 (ov (yFU l v1 q1 l1 c1) g),[]⟩ σ an)
def yFW (l:Nat) (v1:Addr) (q1:Option Addr) (l1 c1:Nat) (σ:St) (Q:Value→St→Prop):Prop:=∀ g:Nat→Value,∃ an,Hid (kAt Pg (zS Pg) none (zO Pg 63) [1,0] (kFn Pg 63 Q) (.exit 0) ⟨Fm 26 (ov (yFV l v1 q1 l1 c1) g),[]⟩ σ an)
theorem xIA {P0:St→Prop} (h1:zB Pg σ 40 (zH v0 1)=some (.slice q1 l1 c1)) (hL:yZY l v1 q1 l1 c1 0 σ Pr P0) (kr:∀ σ',Pr σ'→yZZ l v1 q1 l1 c1 σ' Q) (k0:∀ σ',P0 σ'→yFW l v1 q1 l1 c1 σ' Q):zI Pg 63 [.func (.yield l) ⟨[]⟩ ⟨[]⟩,.pointer (some v0),.pointer (some v1)] σ Q :=
 zF [.g,.l (.slice q1 l1 c1),.g,.g,.lf 26 (zTI l v1 q1 l1 c1 0) [zTJ l v1 q1 l1 c1 Pr,zTK l v1 q1 l1 c1 P0]] (kd (ai h1 (ai (ai tt (ai (arf (zTI l v1 q1 l1 c1 0)) hL)) (ai (kz0 kr) (ai (kz0 k0) trivial)))))
theorem yUJ (nx:Q (.tuple ⟨[]⟩) σ):yFW l v1 q1 l1 c1 σ Q :=
 sK [] nx
end
theorem yHX : AppT Try.prog 36 36 47 3 := zRE (by kernel_rfl)
theorem yHF (b : Bch) : zIQ Try.prog 47 3 (uK b) := .inr ⟨xCU, yAH, _, rfl, rfl⟩
structure J (σ : St) (wl : List Value) (rv tv : Value) (X : Nat → Prop) (f : Nat → Std) (A : List Bch) (τ : St) : Prop where
 new : New σ.re τ
 wk : Row τ ⟨σ.y, 0, none⟩ wl
 ro : Row τ ⟨σ.y + 1, 0, none⟩ [rv]
 tr : Row τ ⟨σ.y + 2, 0, none⟩ [tv]
 nw : Own τ (σ.y + 4) (stL f) 4
 out : ∃ po co, Own τ (σ.y + 3) [.slice po A.length co] 1 ∧ Gr Try.prog τ (σ.y + 5) 47 3 po A.length co (A.map uK) ∧ ∀ b, AtP po b → ¬ X b
section
variable {σ τ τ' : St} {wl : List Value} {rv tv : Value} {X : Nat → Prop} {f : Nat → Std} {A : List Bch}
theorem J.le (h : J σ wl rv tv X f A τ) (k : Le τ τ') (n : New σ.re τ') : J σ wl rv tv X f A τ' := by
 obtain ⟨po, co, h1, h2, h3⟩ := h.out
 exact ⟨n, h.wk.le k, h.ro.le k, h.tr.le k, h.nw.le k, po, co, h1.le k, h2.le k, h3⟩
theorem J.mono {Y : Nat → Prop} (h : J σ wl rv tv X f A τ) (k : ∀ b, b < τ.y → σ.y + 5 ≤ b → Y b → X b) : J σ wl rv tv Y f A τ := by
 obtain ⟨po, co, h1, h2, h3⟩ := h.out
 exact ⟨h.new, h.wk, h.ro, h.tr, h.nw, po, co, h1, h2, fun b hb hy => h3 b hb (k b (h2.bd hb).2 (h2.bd hb).1 hy)⟩
theorem J.push (h : J σ wl rv tv X f A τ) (k : Le τ τ') (n : New σ.re τ') (b : Bch) (hA : A.length ≤ 1000) (hX3 : ¬ X (σ.y + 3)) (hX : ∀ x, X x → x < τ.y) :
    ∃ po co, zB Try.prog τ' 36 ⟨σ.y + 3, 0, none⟩ = some (.slice po A.length co) ∧ ∃ p' c' τ2, zZ Try.prog 36 36 (.slice po A.length co) (.slice (some ⟨τ'.y, 0, none⟩) 1 1) (τ'.row (rcd b.kind b.drv b.dut) 3) = some (.slice p' (A ++ [b]).length c', τ2) ∧
      zL Try.prog (evL [.pointer (some ⟨σ.y + 3, 0, none⟩), .slice p' (A ++ [b]).length c']) τ2 (.store 36 (.tmp 0) (.tmp 1)) = some (undef, τ2.own (σ.y + 3) [.slice p' (A ++ [b]).length c'] 1) ∧
      J σ wl rv tv X f (A ++ [b]) (τ2.own (σ.y + 3) [.slice p' (A ++ [b]).length c'] 1) ∧ Only (fun x => ¬ X x) τ' (τ2.own (σ.y + 3) [.slice p' (A ++ [b]).length c'] 1) := by
  obtain ⟨po, co, o, hg, hf⟩ := h.out
  have hnx : σ.y + 5 ≤ τ.y := by have := h.nw.lt; omega
  obtain ⟨p', c', τ2, g1, g2, g3, g4⟩ := yQX (uK b) yHX hg k (yHF b) (by omega) hnx
  have el : (A ++ [b]).length = A.length + 1 := by simp
  rw [← el] at g1
  have g2' : Gr Try.prog τ2 (σ.y + 5) 47 3 p' (A ++ [b]).length c' ((A ++ [b]).map uK) := by rw [el, List.map_append]; exact g2
  have hpo : ∀ x, AtP po x → σ.y + 5 ≤ x := fun x hx => (hg.bd hx).1
  have O1 : Only (AtP po) τ' τ2 := (Only.row τ' _ _).trans' g3 (fun b _ hb => .inl hb)
  have o' : Own τ' (σ.y + 3) [.slice po A.length co] 1 := o.le k
  have o2 : Own τ2 (σ.y + 3) [.slice po A.length co] 1 := O1.own' o' (fun hx => by have := hpo _ hx; omega)
  have hp' : ∀ x, AtP p' x → σ.y + 5 ≤ x := fun x hx => (g2'.bd hx).1
  have nkeep : ∀ {a : Addr} {cs : List Value}, Row τ a cs → a.block < σ.y + 3 → Row (τ2.own (σ.y + 3) [.slice p' (A ++ [b]).length c'] 1) a cs := fun hr hlt => (O1.rw' (hr.le k) (fun hx => by have := hpo _ hx; omega)).own (by omega)
  have O2 : Only (fun x => ¬ X x) τ' (τ2.own (σ.y + 3) [.slice p' (A ++ [b]).length c'] 1) := by
    refine (O1.mono (T := fun x => ¬ X x) (fun x _ hx => hf x hx)).trans' (Only.own (S := (· = σ.y + 3)) (.inr rfl)) ?_
    rintro x _ rfl
    exact .inl hX3
  refine ⟨po, co, o'.ld (k := 0) rfl yIJ rfl, p', c', τ2, g1, o2.store (k := 0) (vs := [.slice p' (A ++ [b]).length c']) rfl yJP rfl (by simp) rfl, ⟨?_, nkeep h.wk (by show σ.y < _; omega), nkeep h.ro (by show σ.y + 1 < _; omega), nkeep h.tr (by show σ.y + 2 < _; omega), ?_, p', c', o2.put, ?_, ?_⟩, O2⟩
  · exact (n.of_only O1 (fun x hx => by have := hpo x hx; show σ.y ≤ x; omega)).own (by show σ.y ≤ σ.y + 3; omega)
  · exact (O1.own' (h.nw.le k) (fun hx => by have := hpo _ hx; omega)).own (by omega)
  · exact g2'.only (Only.own (S := (· = σ.y + 3)) (.inr rfl)) (fun x hx e => by have := hp' x hx; omega)
  · intro x hx hXx
    rcases g4 x hx with h1 | h1
    · exact hf x h1 hXx
    · have := hX x hXx
      have := k.y
      omega
theorem J.take (h : J σ wl rv tv X f A τ) {i : Nat} (hi : i < 6) (s : Std) (hX4 : ¬ X (σ.y + 4)) :
    zL Try.prog (evL [.pointer (some ⟨σ.y + 4, 0 + Int.toNat (i : Int) * 4, none⟩), yRX s]) τ (.store 87 (.tmp 0) (.tmp 1)) = some (undef, τ.own (σ.y + 4) (stL (upd f i s)) 4) ∧
      J σ wl rv tv X (upd f i s) A (τ.own (σ.y + 4) (stL (upd f i s)) 4) ∧ Only (fun x => ¬ X x) τ (τ.own (σ.y + 4) (stL (upd f i s)) 4) := by
  obtain ⟨po, co, o, hg, hf⟩ := h.out
  refine ⟨yXQ h.nw hi s, ⟨h.new.own (by show σ.y ≤ σ.y + 4; omega), h.wk.own (by show σ.y ≠ _; omega), h.ro.own (by show σ.y + 1 ≠ _; omega), h.tr.own (by show σ.y + 2 ≠ _; omega), h.nw.put, po, co, o.own (by omega), ?_, hf⟩, ?_⟩
  · exact hg.only (Only.own (S := (· = σ.y + 4)) (.inr rfl)) (fun x hx e => by have := (hg.bd hx).1; omega)
  · exact (Only.own (S := (· = σ.y + 4)) (.inr rfl)).mono (fun x _ e => by rw [e]; exact hX4)
end
def zJJ (w : Wk) (k i : Nat) (s : Std) (j : Nat) : List Bch := (List.range j).filterMap fun n => if holds w n (drv w k) (dty w i) s then none else some ⟨n, k, i⟩
theorem xFX {w : Wk} {k i : Nat} {s : Std} {j : Nat} : zJJ w k i s (j + 1) = zJJ w k i s j ++ (if holds w j (drv w k) (dty w i) s then [] else [⟨j, k, i⟩]) := by
 unfold zJJ
 rw [List.range_succ, List.filterMap_append]
 simp only [List.filterMap_cons, List.filterMap_nil]
 split <;> simp_all
theorem yVW {w : Wk} {k i : Nat} {s : Std} {j : Nat} : (zJJ w k i s j).length ≤ j := by
 unfold zJJ
 have := List.length_filterMap_le (fun n => if holds w n (drv w k) (dty w i) s = true then none else some (⟨n, k, i⟩ : Bch)) (List.range j)
 simpa using this
abbrev yYP : List Value := [.int .u8 0, .func (.func 64) ⟨[]⟩ ⟨[]⟩, .int .u8 1, .func (.func 65) ⟨[]⟩ ⟨[]⟩, .int .u8 2, .func (.func 66) ⟨[]⟩ ⟨[]⟩, .int .u8 3, .func (.func 67) ⟨[]⟩ ⟨[]⟩, .int .u8 4, .func (.func 68) ⟨[]⟩ ⟨[]⟩]
section
variable {σ τ : St} {w : Wk} {p q : Option Addr} {l m c d : Nat} {rv tv : Value} {X : Nat → Prop} {f : Nat → Std} {A : List Bch}
theorem yPQ {b j : Nat} (h : Row τ ⟨b, 0, none⟩ yYP) (hj : j < 5) : zB Try.prog τ 98 (zH ⟨b, 0, none⟩ (Int.toNat (j : Int) * 2)) = some (.agg ⟨[.int .u8 (j : Int), .func (.func (64 + j)) ⟨[]⟩ ⟨[]⟩]⟩) := by
 rw [Int.toNat_natCast]
 match j, hj with
 | 0, _ => exact h.loadN (k := 0) yIH zJQ rfl rfl (by simp)
 | 1, _ => exact h.loadN (k := 2) yIH zJQ rfl rfl (by simp)
 | 2, _ => exact h.loadN (k := 4) yIH zJQ rfl rfl (by simp)
 | 3, _ => exact h.loadN (k := 6) yIH zJQ rfl rfl (by simp)
 | 4, _ => exact h.loadN (k := 8) yIH zJQ rfl rfl (by simp)
theorem xCJ {lo B3 bq k i : Nat} (h : WkP σ 69 61 w p l q m) (hsh : zFD w) (hm : m ≤ 6) (hk : k < m) (hi : i < l) (hs : StOk (f k)) (hx : DtOk (dty w i)) (hA : A.length ≤ 500)
  (hJ : J σ (wkc w.M p l c q m d w.rest w.run w.j) rv tv X f A τ) (hB : Row τ ⟨B3, 0, none⟩ (zE (dty w i).day (dty w i).on (dty w i).lo (dty w i).hi (dty w i).route)) (hq : Row τ ⟨bq, 0, none⟩ yYP)
  (hXB : X B3) (hXq : X bq) (hX3 : ¬ X (σ.y + 3)) (hX : ∀ x, X x → x < τ.y) :
  zOG lo σ.y (σ.y + 2) (σ.y + 3) (σ.y + 4) (i : Int) B3 (k : Int) (some ⟨bq, 0, none⟩) 5 5 0 τ (fun z => J σ (wkc w.M p l c q m d w.rest w.run w.j) rv tv X f (A ++ zJJ w k i (f k) 5) z ∧ Only (fun x => ¬ X x) τ z) := by
 refine yCK (Inv := fun k' i35 z => ∃ j : Nat, i35 = j ∧ j + k' = 5 ∧ J σ (wkc w.M p l c q m d w.rest w.run w.j) rv tv X f (A ++ zJJ w k i (f k) j) z ∧ Only (fun x => ¬ X x) τ z) ?_ 5 0 τ ⟨0, rfl, rfl, by simpa [zJJ] using hJ, Only.refl _ _⟩
 rintro k' i35 z ⟨j, rfl, hk', hJz, O⟩
 by_cases hj : j < 5
 rotate_left
 ·have : j = 5 := by omega
  subst this
  exact yNY ⟨hJz, O⟩ (by omega)
 have hqz : Row z ⟨bq, 0, none⟩ yYP := O.rw' hq (fun hh => hh hXq)
 have hBz := O.rw' hB (fun hh => hh hXB)
 obtain ⟨z1, hz1⟩ : ∃ z1, z1 = (z.row [.int .u8 0, .nilFunc] 2).own z.y [.int .u8 (j : Int), .func (.func (64 + j)) ⟨[]⟩ ⟨[]⟩] 2 := ⟨_, rfl⟩
 have L1 : Le z z1 := by rw [hz1]; exact (Le.row z [.int .u8 0, .nilFunc] 2).own (Nat.le_refl _)
 have N1 : New σ.re z1 := by rw [hz1]; exact hJz.new.row'.own hJz.new.le.y
 have O1 : Only (fun x => ¬ X x) z z1 := by
  have : New z z1 := by rw [hz1]; exact (New.row z [.int .u8 0, .nilFunc] 2).own (Nat.le_refl _)
  exact this.only
 have J1 := hJz.le L1 N1
 have LS : Le σ z1 := (le0 σ).trans N1.le
 have lw : zB Try.prog z1 43 ⟨σ.y, 0, none⟩ = some (.agg ⟨wkc w.M p l c q m d w.rest w.run w.j⟩) := J1.wk.ldN (k := 0) zCH vO (ds := wkc w.M p l c q m d w.rest w.run w.j) rfl rfl (by simp)
 have lb : zB Try.prog z1 69 ⟨B3, 0, none⟩ = some (vC (dty w i)) := (hBz.le L1).ldN (k := 0) zQF uT (ds := zE (dty w i).day (dty w i).on (dty w i).lo (dty w i).hi (dty w i).route) rfl rfl (by simp)
 have ls := yXR J1.nw (i := k) (by omega)
 have ca := xKD (c := c) (d := d) (h.le LS) hsh hk hs hx hj
 have es := xFX (w := w) (k := k) (i := i) (s := f k) (j := j)
 have hcl := yVW (w := w) (k := k) (i := i) (s := f k) (j := j)
 cases hb : holds w j (drv w k) (dty w i) (f k) with
 | true =>
  rw [hb] at ca es
  rw [if_pos rfl, List.append_nil] at es
  rw [hz1] at lw lb ls ca J1 O1
  refine yOA (yPQ hqz hj) lw lb ls ca ⟨k' - 1, by omega, j + 1, by omega, by omega, ?_, O.trans' O1 (fun b _ hb => .inl hb)⟩ (by omega) (by omega) (by omega) (by omega)
  rw [es]; exact J1
 | false =>
  rw [hb] at ca es
  rw [if_neg (by simp)] at es
  obtain ⟨po, co, g1, p', c', z2, g2, g3, g4, g5⟩ := hJz.push L1 N1 ⟨j, k, i⟩ (by rw [List.length_append]; omega) hX3 (fun x hx => Nat.lt_of_lt_of_le (hX x hx) O.y)
  rw [hz1] at lw lb ls ca g1 g2 O1 g5
  refine yNZ (yPQ hqz hj) lw lb ls ca g1 g2 g3 ⟨k' - 1, by omega, j + 1, by omega, by omega, ?_, (O.trans' O1 (fun b _ hb => .inl hb)).trans' g5 (fun b _ hb => .inl hb)⟩ (by omega) (by omega) (by omega) (by omega)
  rw [es, ← List.append_assoc]; exact g4
end
@[reducible] def xJF (w : Wk) (p : Option Addr) (l c : Nat) (q : Option Addr) (m d : Nat) (leaves : Bool) (wfv : Value) (bm : Nat) : List Value := [iV w.M, .slice p l c, .slice q m d, iV w.rest, iV w.run, iV w.j, .bool leaves, wfv, .map (some bm)]
section
variable {σ : St} {b n : Nat} {f : Nat → Std}
end
section
variable {σ : St} {w : Wk} {p q : Option Addr} {l m c d Bp bm : Nat} {leaves : Bool} {wfv : Value}
end
section
variable {σ τ : St} {w : Wk} {p q t : Option Addr} {l m c d tc : Nat} {rv : Value} {X : Nat → Prop} {f : Nat → Std} {A : List Bch} {ts : List Int}
theorem yRW {lo B3 bq k i : Nat} {wl : List Value} {qc qd : Nat} (ht : yP σ t l ts) (hk : k < 6) (hi : i < l) (hs : StOk (f k)) (hx : DtOk (dty w i)) (hu : -1000000 ≤ zT ts i ∧ zT ts i ≤ 1000000)
  (hJ : J σ wl rv (.slice t l tc) X f A τ) (hB : Row τ ⟨B3, 0, none⟩ (zE (dty w i).day (dty w i).on (dty w i).lo (dty w i).hi (dty w i).route)) (hX4 : ¬ X (σ.y + 4)) {Qn : St → Prop}
  (hQ : ∀ z, J σ wl rv (.slice t l tc) X (upd f k (take (f k) (dty w i) (zT ts i))) A z → Only (fun x => ¬ X x) τ z → Qn z) :
  zHE lo σ.y (σ.y + 2) (σ.y + 3) (σ.y + 4) (i : Int) B3 (k : Int) (some ⟨bq, 0, none⟩) qc qd τ Qn := by
 have L : Le σ τ := (le0 σ).trans hJ.new.le
 obtain ⟨a, rfl, x, hxi, l4⟩ := wU (SlV.le ht L) hi
 have gx : zT ts i = x := yD hxi
 rw [gx] at hu hQ
 have l3 : zB Try.prog τ 29 ⟨σ.y + 2, 0, none⟩ = some (.slice (some a) l tc) := hJ.tr.ld yT rfl
 have lb : zB Try.prog τ 69 ⟨B3, 0, none⟩ = some (vC (dty w i)) := hB.ldN (k := 0) zQF uT (ds := zE (dty w i).day (dty w i).on (dty w i).lo (dty w i).hi (dty w i).route) rfl rfl (by simp)
 obtain ⟨g1, g2, g3⟩ := hJ.take hk (take (f k) (dty w i) x) hX4
 exact yCG (yXR hJ.nw hk) lb l3 l4 (yPK hs hx hu) g1 (hQ _ g2 g3) (by omega) (by omega)
end
structure Same (n0 : Nat) (z z' : St) : Prop where
 y : z.y ≤ z'.y
 get : ∀ y, y < z.y → (∀ tm ps a b st pend db, yC z.heap y ≠ some (.loop tm ps a b st pend db)) → yC z'.heap y = yC z.heap y
 old : ∀ y, y < n0 → yC z'.heap y = yC z.heap y
theorem Same.own {n0 : Nat} {z z' : St} {b n : Nat} {cs : List Value} (h : Same n0 z z') (k : Own z b cs n) : Own z' b cs n := k.at_ (h.get b k.lt (fun _ _ _ _ _ _ _ e => by rw [k.get] at e; cases e)) h.y
theorem Same.of_le {n0 : Nat} {z z' : St} (h : Le z z') (hn : n0 ≤ z.y) : Same n0 z z' := ⟨h.y, fun y hy _ => h.get y hy, fun y hy => h.get y (by omega)⟩
theorem Same.rw {n0 : Nat} {z z' : St} {a : Addr} {cs : List Value} (h : Same n0 z z') (k : Row z a cs) : Row z' a cs := by
 refine ⟨?_, Nat.lt_of_lt_of_le k.lt h.y⟩
 have := k.rd
 unfold yH at this ⊢
 rw [h.get a.block k.lt (fun tm ps x y st pend db e => by rw [e] at this; simp at this)]
 exact this
theorem Same.gr {n0 m0 t n len c : Nat} {p : Option Addr} {vs : List Value} {z z' : St} (h : Same n0 z z') (k : Gr Pg z m0 t n p len c vs) : Gr Pg z' m0 t n p len c vs := by
 have key : ∀ {v : Value} {cs : List Value}, App z m0 n v len cs → App z' m0 n v len cs := by
  intro v cs ka
  cases ka with
  | nil => exact .nil
  | more g1 g2 g3 g4 g5 g6 g7 => exact .more (by rw [h.get _ g4 (fun _ _ _ _ _ _ _ e => by rw [g1] at e; cases e)]; exact g1) g2 g3 (Nat.lt_of_lt_of_le g4 h.y) g5 g6 g7
 exact ⟨key k.app, k.len_eq, k.el⟩
abbrev xKB (x : Dty) : List Value := zE x.day x.on x.lo x.hi x.route
abbrev zZZ (z : St) (x : Dty) : St := (z.row (zE 0 0 0 0 0) 5).own z.y (xKB x) 5
theorem zQN (z : St) (x : Dty) : Le z (zZZ z x) := (Le.row z (zE 0 0 0 0 0) 5).own (Nat.le_refl _)
theorem xEV {σ : St} {w : Wk} {p q : Option Addr} {l m c d lo a1 a2 D : Nat} (r1 : Row σ ⟨a1, 0, none⟩ (wkc w.M p l c q m d w.rest w.run w.j)) (hl : l ≤ 100000) {K : Nat → St → Prop} (h0 : K 0 σ)
  (hT : ∀ s z, K s z → Row z ⟨a2, 0, none⟩ [yO D] ∧ yIT z 69 p l w.N) (hJ : ∀ s z, s < l → K s z → if (dty w s).day = (D : Int) then ∃ z', yPD Pg lo [iV (s : Int), vC (dty w s)] (zZZ z (dty w s)) (.bool true) z' ∧ K (s + 1) z' else K (s + 1) (zZZ z (dty w s))) :
  zI Pg 63 [.func (.yield lo) ⟨[]⟩ ⟨[]⟩, .pointer (some ⟨a1, 0, none⟩), .pointer (some ⟨a2, 0, none⟩)] σ fun v s => v = .tuple ⟨[]⟩ ∧ K l s := by
 have hn : w.N.length = l := by have := (hT 0 σ h0).2.2.1; simpa using this
 refine xIA (Pr := fun _ => False) (P0 := fun τ => K l τ) (r1.load1 uB (k := 1) rfl)
  (yUK (Inv := fun k i τ => ∃ s : Nat, i = s ∧ s + k = l ∧ K s τ) (Qr := fun _ => False) (Q0 := fun τ => K l τ) ?_ l 0 σ ⟨0, rfl, by omega, h0⟩) (fun _ h => h.elim) (fun τ h => yUJ ⟨rfl, h⟩)
 rintro k i τ ⟨s, rfl, hk, hj⟩
 by_cases hs : s < l
 rotate_left
 ·have : s = l := by omega
  subst this
  exact xES hj (by omega)
 obtain ⟨ra, hd⟩ := hT s τ hj
 obtain ⟨a, rfl, x, hx, lx⟩ := wU hd hs
 have ex : x = dty w s := by
  unfold dty
  rw [List.getD_eq_getElem?_getD, hx]; rfl
 subst ex
 have l2 : zB Pg (zZZ τ (dty w s)) 3 ⟨a2, 0, none⟩ = some (iV (D : Int)) := (ra.le (zQN τ (dty w s))).ld zK rfl
 have h := hJ s τ hs hj
 by_cases ht : (dty w s).day = (D : Int)
 ·rw [if_pos ht] at h
  obtain ⟨τ', h1, h2⟩ := h
  exact xEU lx l2 h1 ⟨k - 1, by omega, s + 1, by omega, by omega, h2⟩ (by omega) (by omega) ht (by omega)
 ·rw [if_neg ht] at h
  exact xET lx l2 ⟨k - 1, by omega, s + 1, by omega, by omega, h⟩ (by omega) (by omega) ht (by omega)
theorem yHH {zf : St → Dty → St} (hzf : ∀ (z : St) (x : Dty), Le z (zf z x)) (hzl : ∀ (z : St) (x : Dty), z.y ≤ (zf z.re x).low) {w : Wk} {pp q : Option Addr} {l m c d D : Nat} {gx : Operand} {ps : Array Tmp} {a b : Code} {n : Nat} {l0 : List (Nat × Value)} {Qn : St → Prop} {τ : St} {a1 a2 n0 : Nat} {J : Nat → St → Prop}
  (hg : ∀ g0, zW (Fm n (ov l0 g0)) gx = .func (.func 63) ⟨[]⟩ ⟨[.pointer (some ⟨a1, 0, none⟩), .pointer (some ⟨a2, 0, none⟩)]⟩) (r1 : Row τ ⟨a1, 0, none⟩ (wkc w.M pp l c q m d w.rest w.run w.j)) (hl : l ≤ 100000) (hn0 : n0 ≤ τ.y)
  (hT : ∀ s z, J s z → Row z ⟨a2, 0, none⟩ [yO D] ∧ yIT z 69 pp l w.N) (h0 : J 0 τ) (hJ : ∀ s z z', J s z → Same n0 z z' → J s z') (hskip : ∀ s z, s < l → (dty w s).day ≠ (D : Int) → J s z → J (s + 1) z)
  (hR : ∀ s z z1 lo g0 db, s < l → (dty w s).day = (D : Int) → lo = τ.y + 1 → yC z.heap lo = some (.loop (Fm n (ov l0 g0)) ps.toList a b .ready none db) → z1 = (zf z.re (dty w s)).put lo (.loop (Fm n (ov l0 g0)) ps.toList a b .busy none db) → J s z → τ.y + 2 ≤ z.y →
   ∃ z4, zHO Pg lo [iV (s : Int), vC (dty w s)] z (Fm n (ov l0 g0)) ps.toList a b db [⟨Unit, .normal, fun _ => [], fun _ => [], fun _ z => z = z4⟩] ∧ J (s + 1) z4 ∧ ∃ S, Only S z1 z4 ∧ ∀ y, S y → n0 ≤ y ∧ y ≠ τ.y ∧ y ≠ τ.y + 1)
  (hQ : ∀ z, J l z → yC z.heap τ.y = some .defd → τ.y < z.y → (∀ m, m ≤ n0 → m ≤ τ.low → m ≤ z.low) → Qn z) : zVS Pg (zS Pg) gx ps a b n l0 [(.normal, Qn)] τ := by
 refine ySP (fs := [.pointer (some ⟨a1, 0, none⟩), .pointer (some ⟨a2, 0, none⟩)]) (f := 63) hg (fun g0 => ?_)
 obtain ⟨τa, hτa⟩ : ∃ τa, τa = (τ.add .defd).add (.loop (Fm n (ov l0 g0)) ps.toList a b .ready none τ.y) := ⟨_, rfl⟩
 have hN : New τ τa := by rw [hτa]; exact (New.add _ _).trans (New.add _ _)
 have nxa : τa.y = τ.y + 2 := by rw [hτa]; rfl
 have Ld : yC τa.heap τ.y = some .defd := by rw [hτa, St.add_get, if_neg (by simp), St.add_get, if_pos rfl]
 have Ll : yC τa.heap (τ.y + 1) = some (.loop (Fm n (ov l0 g0)) ps.toList a b .ready none τ.y) := by rw [hτa, St.add_get, if_pos (by simp)]
 have sm_re : ∀ z : St, Same n0 z z.re := fun z => ⟨Nat.le_refl _, fun _ _ _ => rfl, fun _ _ => rfl⟩
 let K : Nat → St → Prop := fun s z => J s z ∧ yC z.heap τ.y = some .defd ∧ yC z.heap (τ.y + 1) = some (.loop (Fm n (ov l0 g0)) ps.toList a b .ready none τ.y) ∧ τa.y ≤ z.y ∧ n0 ≤ z.low ∧ ((J s τa.re ∧ New τa.re z) ∨ z.low ≤ τ.y + 1)
 have J0 : J 0 τa.re := hJ _ _ _ (hJ _ _ _ h0 (Same.of_le hN.le hn0)) (sm_re τa)
 have hrun : zI Pg 63 [.func (.yield (τ.y + 1)) ⟨[]⟩ ⟨[]⟩, .pointer (some ⟨a1, 0, none⟩), .pointer (some ⟨a2, 0, none⟩)] τa.re fun v s => v = .tuple ⟨[]⟩ ∧ K l s := by
  refine xEV (w := w) (p := pp) (D := D) ((r1.le hN.le).le (le0 _)) hl (K := K) ⟨J0, Ld, Ll, Nat.le_refl _, by show n0 ≤ τa.y; omega, .inl ⟨J0, New.refl _⟩⟩ (fun s z h => hT s z h.1) ?_
  rintro s z hs ⟨j1, j2, j3, j4, j5, j6⟩
  have zl := zQN z (dty w s)
  have zn : New z (zZZ z (dty w s)) := (New.row z (zE 0 0 0 0 0) 5).own (Nat.le_refl _)
  have kz : K s (zZZ z (dty w s)) := ⟨hJ _ _ _ j1 (Same.of_le zl (by omega)), by rw [zl.get _ (by omega)]; exact j2, by rw [zl.get _ (by omega)]; exact j3, by have := zl.y; omega, zn.low _ j5 (by omega), j6.imp (fun h => ⟨h.1, h.2.trans zn⟩) (fun h => Nat.le_trans (Nat.min_le_left _ _) h)⟩
  by_cases ht : (dty w s).day = (D : Int)
  rotate_left
  ·rw [if_neg ht]
   obtain ⟨k1, k2, k3, k4, k5, k6⟩ := kz
   exact ⟨hskip s _ hs ht k1, k2, k3, k4, k5, k6.imp (fun h => ⟨hskip s _ hs ht h.1, h.2⟩) id⟩
  rw [if_pos ht]
  obtain ⟨j1, j2, j3, j4, j5, j6⟩ := kz
  obtain ⟨z, hz⟩ : ∃ z', z' = zZZ z (dty w s) := ⟨_, rfl⟩
  rw [← hz] at j1 j2 j3 j4 j5 j6 ⊢
  obtain ⟨z1, hz1⟩ : ∃ z1, z1 = (zf z.re (dty w s)).put (τ.y + 1) (.loop (Fm n (ov l0 g0)) ps.toList a b .busy none τ.y) := ⟨_, rfl⟩
  have zl1 := hzf z.re (dty w s)
  have s0 : Same n0 z (zf z.re (dty w s)) := ⟨zl1.y, fun y hy _ => zl1.get y hy, fun y hy => zl1.get y (by show y < z.y; omega)⟩
  have j3' : yC (zf z.re (dty w s)).heap (τ.y + 1) = some (.loop (Fm n (ov l0 g0)) ps.toList a b .ready none τ.y) := by rw [zl1.get _ (by show _ < z.y; omega)]; exact j3
  have s1 : Same n0 z z1 := ⟨by rw [hz1]; exact zl1.y, fun y hy hne => by
   rw [hz1, St.put_get, if_neg (fun e => by subst e; exact hne _ _ _ _ _ _ _ j3)]; exact zl1.get y hy, fun y hy => by rw [hz1, St.put_get, if_neg (by omega)]; exact zl1.get y (by show y < z.y; omega)⟩
  have nx1 : z.y ≤ z1.y := by rw [hz1]; exact zl1.y
  have L1 : yC z1.heap (τ.y + 1) = some (.loop (Fm n (ov l0 g0)) ps.toList a b .busy none τ.y) := by rw [hz1, St.put_get, if_pos rfl]
  have D1 : yC z1.heap τ.y = some .defd := by rw [hz1, St.put_get, if_neg (by omega), zl1.get _ (by show _ < z.y; omega)]; exact j2
  obtain ⟨z4, hr, k1, S, k2, k3⟩ := hR s z z1 (τ.y + 1) g0 τ.y hs ht rfl j3 hz1 j1 (by omega)
  have L4 : yC z4.heap (τ.y + 1) = some (.loop (Fm n (ov l0 g0)) ps.toList a b .busy none τ.y) := by
   rw [k2.get _ (by omega) (fun h => (k3 _ h).2.2 rfl)]; exact L1
  have D4 : yC z4.heap τ.y = some .defd := by
   rw [k2.get _ (by omega) (fun h => (k3 _ h).2.1 rfl)]; exact D1
  have n4 := k2.y
  obtain ⟨e, z', ⟨al, hal, rfl, t, hq⟩, hc⟩ := hr
  simp only [In, or_false] at hal
  subst hal
  have hq : z' = z4 := hq
  subst hq
  have hcy := hc (.inl rfl) (by omega) L4 (by omega)
  have hlow : n0 ≤ z'.low := k2.low n0 (by have := hzl z (dty w s); rw [hz1]; show n0 ≤ min (zf z.re (dty w s)).low (τ.y + 1); omega) (by omega) (fun y _ hy => (k3 y hy).1)
  refine ⟨_, hcy, hJ _ _ _ k1 ⟨Nat.le_refl _, fun y hy hne => ?_, fun y hy => ?_⟩, ?_, ?_, ?_, ?_, .inr ?_⟩
  ·show yC (z'.put _ _).heap y = _
   rw [St.put_get, if_neg (fun e => by subst e; exact hne _ _ _ _ _ _ _ L4)]
  ·show yC (z'.put _ _).heap y = _
   rw [St.put_get, if_neg (by omega)]
  ·show yC (z'.put _ _).heap _ = _
   rw [St.put_get, if_neg (by omega)]; exact D4
  ·show yC (z'.put _ _).heap _ = _
   rw [St.put_get, if_pos rfl]; rfl
  ·show τa.y ≤ z'.y; omega
  ·show n0 ≤ min _ _; omega
  ·show min _ _ ≤ _; omega
 obtain ⟨v, s, h1, rfl, j1, j2, j3, j4, j5, j6⟩ := hrun
 have fin : ∀ u z : St, J l u → yC u.heap τ.y = some .defd → yC u.heap (τ.y + 1) = some (.loop (Fm n (ov l0 g0)) ps.toList a b .ready none τ.y) → τa.y ≤ u.y → z.heap = u.heap → z.y = u.y → (∀ m, m ≤ n0 → m ≤ τ.low → m ≤ z.low) → yIN [(.normal, Qn)] (xBP none) (z.put (τ.y + 1) (.loop (Fm n (ov l0 g0)) ps.toList a b .exhausted none τ.y)) := by
  intro u z i1 i2 i3 i4 e1 e2 e3
  refine .inl ⟨rfl, hQ _ (hJ _ _ _ i1 ⟨by show u.y ≤ z.y; omega, fun y hy hne => ?_, fun y hy => ?_⟩) ?_ (by show τ.y < z.y; omega) (fun m h1 h2 => ?_)⟩
  ·rw [St.put_get, if_neg (fun e => by subst e; exact hne _ _ _ _ _ _ _ i3), e1]
  ·rw [St.put_get, if_neg (by omega), e1]
  ·rw [St.put_get, if_neg (by omega), e1]; exact i2
  ·have := e3 m h1 h2; show m ≤ min _ _; omega
 by_cases hlw : s.low ≤ τ.y + 1
 ·refine ⟨_, ⟨s.heap, s.y, min τa.low s.low⟩, .ready, none, by rw [← hτa]; exact xGT h1 j4 (by omega), j3, .inl ⟨rfl, rfl⟩, fin s _ j1 j2 j3 j4 rfl rfl (fun m h1 h2 => ?_)⟩
  have := hN.low m h2 (by omega)
  show m ≤ min _ _; omega
 ·rcases j6 with ⟨g1, g2⟩ | e
  rotate_left
  ·exact absurd e hlw
  refine ⟨_, τa, .ready, none, by rw [← hτa]; exact zNB h1 (by omega) rfl, Ll, .inl ⟨rfl, rfl⟩, fin τa.re τa g1 Ld Ll (Nat.le_refl _) rfl rfl (fun m h1 h2 => hN.low m h2 (by omega))⟩
theorem yNG {w : Wk} {pp q : Option Addr} {l m c d D : Nat} {gx : Operand} {ps : Array Tmp} {a b : Code} {n : Nat} {l0 : List (Nat × Value)} {Qn : St → Prop} {τ : St} {a1 a2 n0 : Nat} {J : Nat → St → Prop}
  (hg : ∀ g0, zW (Fm n (ov l0 g0)) gx = .func (.func 63) ⟨[]⟩ ⟨[.pointer (some ⟨a1, 0, none⟩), .pointer (some ⟨a2, 0, none⟩)]⟩) (r1 : Row τ ⟨a1, 0, none⟩ (wkc w.M pp l c q m d w.rest w.run w.j)) (hl : l ≤ 100000) (hn0 : n0 ≤ τ.y)
  (hT : ∀ s z, J s z → Row z ⟨a2, 0, none⟩ [yO D] ∧ yIT z 69 pp l w.N) (h0 : J 0 τ) (hJ : ∀ s z z', J s z → Same n0 z z' → J s z') (hskip : ∀ s z, s < l → (dty w s).day ≠ (D : Int) → J s z → J (s + 1) z)
  (hR : ∀ s z z1 lo g0 db, s < l → (dty w s).day = (D : Int) → lo = τ.y + 1 → yC z.heap lo = some (.loop (Fm n (ov l0 g0)) ps.toList a b .ready none db) → z1 = (zZZ z.re (dty w s)).put lo (.loop (Fm n (ov l0 g0)) ps.toList a b .busy none db) → J s z → τ.y + 2 ≤ z.y →
   ∃ z4, zHO Pg lo [iV (s : Int), vC (dty w s)] z (Fm n (ov l0 g0)) ps.toList a b db [⟨Unit, .normal, fun _ => [], fun _ => [], fun _ z => z = z4⟩] ∧ J (s + 1) z4 ∧ ∃ S, Only S z1 z4 ∧ ∀ y, S y → n0 ≤ y ∧ y ≠ τ.y ∧ y ≠ τ.y + 1)
  (hQ : ∀ z, J l z → yC z.heap τ.y = some .defd → τ.y < z.y → (∀ m, m ≤ n0 → m ≤ τ.low → m ≤ z.low) → Qn z) : zVS Pg (zS Pg) gx ps a b n l0 [(.normal, Qn)] τ :=
 yHH zQN (fun z x => by show z.y ≤ min z.y z.y; omega) hg r1 hl hn0 hT h0 hJ hskip hR hQ
section
variable {w : Wk} {ros tru : Nat → Int} {l m : Nat}
structure StB (s : Std) (n : Nat) : Prop where
 free : -10080 ≤ s.free ∧ s.free ≤ 100000
 day : -1 ≤ s.day ∧ s.day ≤ 6
 row : 0 ≤ s.row ∧ s.row ≤ 15 + s.day
 used : 0 ≤ s.used ∧ s.used ≤ 20000 + 1440 * n
theorem StB.ok {s : Std} {n : Nat} (h : StB s n) (hn : n ≤ 200) : StOk s := by
 have h1 := h.free; have h2 := h.day; have h3 := h.row; have h4 := h.used
 exact ⟨by omega, by omega, by omega, by omega⟩
theorem StB.mono {s : Std} {n n' : Nat} (h : StB s n) (hn : n ≤ n') : StB s n' := ⟨h.free, h.day, h.row, by have := h.used; omega⟩
theorem StB.take {s : Std} {x : Dty} {e : Int} {n : Nat} (h : StB s n) (hx : 0 ≤ x.day ∧ x.day ≤ 6) (he : x.on ≤ e ∧ e ≤ x.on + 1440) (ho : 0 ≤ x.on ∧ x.on ≤ 1439) (hd : s.day ≤ x.day) : StB (take s x e) (n + 1) := by
 have h1 := h.free; have h2 := h.day; have h3 := h.row; have h4 := h.used
 unfold Go.Proofs.Ytgfiniccfpfplaa.take
 by_cases e1 : s.day = x.day
 ·rw [if_pos e1]
  exact ⟨h1, h2, h3, by simp only; omega⟩
 ·rw [if_neg e1]
  refine ⟨by simp only; omega, ⟨by simp only; omega, hx.2⟩, ?_, by simp only; omega⟩
  simp only
  by_cases e2 : s.day = x.day - 1
  ·rw [if_pos e2]; omega
  ·rw [if_neg e2]; omega
theorem zWC {k D j : Nat} : (xD w ros tru k D j).day ≤ (D : Int) := by
 obtain ⟨h1, h2⟩ := zRT (w := w) (ros := ros) (tru := tru) (k := k) (D := D) (j := j)
 by_cases e : onL w ros k D j = []
 ·rw [h2 e, (zHW (w := w) (ros := ros) (tru := tru) (k := k) (D := D)).2.2]
  have := zDF (w := w) (ros := ros) (k := k) (D := D)
  omega
 ·rw [h1.2 e]; exact Int.le_refl _
theorem yXL (hs : Sane w l m) (hl : w.N.length = l) (ht : ∀ i, i < l → (dty w i).on ≤ tru i ∧ tru i ≤ (dty w i).on + 1440) {k : Nat} (hk : k < m) : ∀ {D j : Nat}, j ≤ l → StB (xD w ros tru k D j) (D * l + j) := by
 have step : ∀ {D j : Nat}, j < l → StB (xD w ros tru k D j) (D * l + j) → StB (xD w ros tru k D (j + 1)) (D * l + (j + 1)) := by
  intro D j hj h
  rw [zLG]
  split
  ·rename_i hh
   unfold his at hh
   simp only [Bool.and_eq_true, decide_eq_true_eq] at hh
   have hd := hs.duty j hj
   have := zWC (w := w) (ros := ros) (tru := tru) (k := k) (D := D) (j := j)
   exact h.take ⟨hd.1, hd.2.1⟩ (ht j hj) ⟨hd.2.2.1, hd.2.2.2.1⟩ (by omega)
  ·exact h.mono (by omega)
 have day : ∀ {D : Nat}, StB (xD w ros tru k D 0) (D * l + 0) → ∀ {j : Nat}, j ≤ l → StB (xD w ros tru k D j) (D * l + j) := by
  intro D h0 j
  induction j with
  | zero => intro _; exact h0
  | succ j ih => intro hj; exact step (by omega) (ih (by omega))
 intro D
 induction D with
 | zero =>
  intro j hj
  refine day ?_ hj
  have := hs.dr k hk
  show StB (before (drv w k)) _
  exact ⟨⟨this.1, by show (drv w k).off ≤ _; omega⟩, ⟨Int.le_refl _, by show (-1 : Int) ≤ 6; omega⟩, ⟨this.2.2.1, by show (drv w k).row ≤ 15 + (-1 : Int); omega⟩, ⟨this.2.2.2.2.1, by show (drv w k).used ≤ _; omega⟩⟩
 | succ D ih =>
  intro j hj
  refine day ?_ hj
  have h := ih (Nat.le_refl l)
  have e : xD w ros tru k (D + 1) 0 = xD w ros tru k D l := by
   rw [← hl]; rfl
  rw [e, Nat.add_mul, Nat.one_mul]
  exact h
def stF (w : Wk) (ros tru : Nat → Int) (m D j : Nat) : Nat → Std := fun k => if k < m then xD w ros tru k D j else yXK
theorem yXT {D : Nat} : stF w ros tru m (D + 1) 0 = stF w ros tru m D w.N.length := rfl
theorem yDS {D j : Nat} (h : ¬ ((dty w j).day = (D : Int) ∧ 0 ≤ ros j)) : stF w ros tru m D (j + 1) = stF w ros tru m D j := by
 funext k
 unfold stF
 split
 ·rw [zLG, if_neg]
  unfold his
  simp only [Bool.and_eq_true, decide_eq_true_eq]
  rintro ⟨h1, h2⟩
  exact h ⟨h2, by omega⟩
 ·rfl
theorem yXS {D j k : Nat} (hk : k < m) (hd : (dty w j).day = (D : Int)) (hr : ros j = (k : Int)) : stF w ros tru m D (j + 1) = upd (stF w ros tru m D j) k (take (stF w ros tru m D j k) (dty w j) (tru j)) := by
 funext i
 unfold stF upd
 by_cases e : i = k
 ·subst e
  rw [if_pos hk, if_pos rfl, if_pos hk, zLG, if_pos (by unfold his; simp [hd, hr])]; rfl
 ·rw [if_neg e]
  show (if i < m then xD w ros tru i D (j + 1) else yXK) = if i < m then xD w ros tru i D j else yXK
  have e2 : xD w ros tru i D (j + 1) = xD w ros tru i D j := by rw [zLG, if_neg (by unfold his; simp [hd, hr]; omega)]
  rw [e2]
theorem zZF {D j : Nat} (h : ¬ ((dty w j).day = (D : Int) ∧ ros j ≠ -1)) : zBW w ros tru D (j + 1) = zBW w ros tru D j := by
 rw [yNI]
 split
 ·rename_i hd
  have : ros j = -1 := Decidable.not_not.1 fun e => h ⟨hd, e⟩
  unfold zJI
  rw [if_pos this, List.append_nil]
 ·rw [List.append_nil]
theorem yVP {D j k : Nat} (hk : k < m) (hd : (dty w j).day = (D : Int)) (hr : ros j = (k : Int)) : zBW w ros tru D (j + 1) = zBW w ros tru D j ++ zJJ w k j (stF w ros tru m D j k) 5 := by
 rw [yNI, if_pos hd]
 congr 1
 unfold zJI zJJ stF
 rw [if_neg (by omega), if_pos hk, show (ros j).toNat = k by omega]
end
structure JL (σ : St) (wl : List Value) (rv tv : Value) (X : Nat → Prop) (f : Nat → Std) (A : List Bch) (τ : St) : Prop where
 le : Le σ.re τ
 wk : Row τ ⟨σ.y, 0, none⟩ wl
 ro : Row τ ⟨σ.y + 1, 0, none⟩ [rv]
 tr : Row τ ⟨σ.y + 2, 0, none⟩ [tv]
 nw : Own τ (σ.y + 4) (stL f) 4
 out : ∃ po co, Own τ (σ.y + 3) [.slice po A.length co] 1 ∧ Gr Try.prog τ (σ.y + 5) 47 3 po A.length co (A.map uK) ∧ ∀ b, AtP po b → ¬ X b
section
variable {σ τ τ' : St} {wl : List Value} {rv tv : Value} {X : Nat → Prop} {f : Nat → Std} {A : List Bch}
theorem J.dn (h : J σ wl rv tv X f A τ) : JL σ wl rv tv X f A τ := ⟨h.new.le, h.wk, h.ro, h.tr, h.nw, h.out⟩
theorem JL.up (h : JL σ wl rv tv X f A τ) (hl : σ.y ≤ τ.low) : J σ wl rv tv X f A τ := ⟨⟨h.le, fun m _ h2 => Nat.le_trans h2 hl⟩, h.wk, h.ro, h.tr, h.nw, h.out⟩
theorem JL.mono {Y : Nat → Prop} (h : JL σ wl rv tv X f A τ) (k : ∀ b, b < τ.y → σ.y + 5 ≤ b → Y b → X b) : JL σ wl rv tv Y f A τ := by
 obtain ⟨po, co, h1, h2, h3⟩ := h.out
 exact ⟨h.le, h.wk, h.ro, h.tr, h.nw, po, co, h1, h2, fun b hb hy => h3 b hb (k b (h2.bd hb).2 (h2.bd hb).1 hy)⟩
theorem JL.same {n0 : Nat} (h : JL σ wl rv tv X f A τ) (k : Same n0 τ τ') (hn : σ.y ≤ n0) : JL σ wl rv tv X f A τ' := by
 obtain ⟨po, co, h1, h2, h3⟩ := h.out
 exact ⟨⟨Nat.le_trans h.le.y k.y, fun b hb => (k.old b (Nat.lt_of_lt_of_le hb hn)).trans (h.le.get b hb)⟩, k.rw h.wk, k.rw h.ro, k.rw h.tr, k.own h.nw, po, co, k.own h1, k.gr h2, h3⟩
theorem yJS {lo : Nat} {args : List Value} {z : St} {tm : Tm} {ps : List Tmp} {a b : Code} {db : Nat} {Q : St → Prop} (h : zHO Try.prog lo args z tm ps a b db [⟨Unit, .normal, fun _ => [], fun _ => [], fun _ z => Q z⟩]) : ∃ z4, Q z4 ∧ zHO Try.prog lo args z tm ps a b db [⟨Unit, .normal, fun _ => [], fun _ => [], fun _ z => z = z4⟩] := by
 obtain ⟨e, z', ⟨al, hal, rfl, t, hq⟩, hc⟩ := h
 simp only [In, or_false] at hal
 subst hal
 exact ⟨z', hq, _, z', ⟨_, .inl rfl, rfl, (), rfl⟩, hc⟩
variable {w : Wk} {p q r t : Option Addr} {l m c d rc tc D : Nat} {rs ts : List Int}
theorem xFL {wd i19 : Int} {a1 a2 : Nat} (h : WkP σ 69 61 w p l q m) (hs : Sane w l m) (hsh : zFD w) (hr : yP σ r l rs) (ht : yP σ t l ts) (hro : ∀ i, i < l → -1 ≤ zT rs i ∧ zT rs i < (m : Int))
  (hts : ∀ i, i < l → (dty w i).on ≤ zT ts i ∧ zT ts i ≤ (dty w i).on + 1440) (hA : ∀ j, j ≤ l → (zAU w (zT rs) (zT ts) D ++ zBW w (zT rs) (zT ts) D j).length ≤ 450) (hD : D ≤ 6)
  (r1 : Row τ ⟨a1, 0, none⟩ (wkc w.M p l c q m d w.rest w.run w.j)) (r2 : Row τ ⟨a2, 0, none⟩ [yO D]) (ha2 : σ.y + 5 ≤ a2) {ms : List Nat} (hms : ∀ y ∈ ms, yC τ.heap y = some .defd ∧ σ.y + 5 ≤ y ∧ y < τ.y)
  (hJ : J σ (wkc w.M p l c q m d w.rest w.run w.j) (.slice r l rc) (.slice t l tc) (fun x => x = a2 ∨ x ∈ ms) (stF w (zT rs) (zT ts) m D 0) (zAU w (zT rs) (zT ts) D) τ) {Qn : St → Prop}
  (hQ : ∀ z, JL σ (wkc w.M p l c q m d w.rest w.run w.j) (.slice r l rc) (.slice t l tc) (fun x => x ∈ τ.y :: ms) (stF w (zT rs) (zT ts) m (D + 1) 0) (zAU w (zT rs) (zT ts) (D + 1)) z → (∀ y ∈ τ.y :: ms, yC z.heap y = some .defd) → τ.y < z.y → σ.y ≤ z.low → Qn z) :
  zZK σ.y (σ.y + 1) (σ.y + 2) (σ.y + 3) (σ.y + 4) wd i19 63 [.pointer (some ⟨a1, 0, none⟩), .pointer (some ⟨a2, 0, none⟩)] τ Qn := by
 have hn := h.len.1
 have hm6 := hs.m6
 have hl12 := hs.l12
 have hτ5 : σ.y + 5 ≤ τ.y := by have := hJ.nw.lt; omega
 obtain ⟨X, hX⟩ : ∃ X : Nat → Prop, X = fun x => x < σ.y ∨ x = a2 ∨ x = τ.y ∨ x = τ.y + 1 ∨ x ∈ ms := ⟨_, rfl⟩
 have hX3 : ¬ X (σ.y + 3) := by
  rw [hX]; rintro (g | g | g | g | g)
  ·omega
  ·omega
  ·omega
  ·omega
  ·have := (hms _ g).2.1; omega
 have hX4 : ¬ X (σ.y + 4) := by
  rw [hX]; rintro (g | g | g | g | g)
  ·omega
  ·omega
  ·omega
  ·omega
  ·have := (hms _ g).2.1; omega
 refine yNG (w := w) (pp := p) (q := q) (l := l) (m := m) (c := c) (d := d) (D := D) (a1 := a1) (a2 := a2) (n0 := σ.y) (J := fun s z => JL σ (wkc w.M p l c q m d w.rest w.run w.j) (.slice r l rc) (.slice t l tc) X (stF w (zT rs) (zT ts) m D s) (zAU w (zT rs) (zT ts) D ++ zBW w (zT rs) (zT ts) D s) z ∧ Row z ⟨a2, 0, none⟩ [yO D] ∧ (∀ y ∈ ms, yC z.heap y = some .defd) ∧ τ.y ≤ z.y)
  (fun g0 => rfl) r1 (by omega) (by omega) (fun s z hz => ⟨hz.2.1, SlV.le h.dty ((le0 σ).trans hz.1.le)⟩) ⟨?_, r2, fun y hy => (hms y hy).1, Nat.le_refl _⟩ (fun s z z' hz hk => ⟨hz.1.same hk (Nat.le_refl _), hk.rw hz.2.1, fun y hy => by rw [hk.get y (by have := (hms y hy).2.2; have := hz.2.2.2; omega) (fun _ _ _ _ _ _ _ e => by rw [hz.2.2.1 y hy] at e; cases e)]; exact hz.2.2.1 y hy, Nat.le_trans hz.2.2.2 hk.y⟩) ?_ ?_ ?_
 ·have e : zAU w (zT rs) (zT ts) D ++ zBW w (zT rs) (zT ts) D 0 = zAU w (zT rs) (zT ts) D := by simp [zBW]
  rw [e]
  refine hJ.dn.mono ?_
  rw [hX]
  rintro b hb hb2 (h1 | h1 | h1 | h1 | h1)
  ·omega
  ·exact .inl h1
  ·omega
  ·omega
  ·exact .inr h1
 ·rintro s z hsl hd ⟨hz, hz2⟩
  rw [yDS (fun e => hd e.1), zZF (fun e => hd e.1)]
  exact ⟨hz, hz2⟩
 ·rintro s z z1 lo g0 db hsl hd hlo hlp hz1 ⟨hz, hz2, hz3, hz4⟩ hnx
  have zl := zQN z.re (dty w s)
  have hlt : lo < z.y := by omega
  have hl1 : yC (zZZ z.re (dty w s)).heap lo = some (zAG σ.y (σ.y + 1) (σ.y + 2) (σ.y + 3) (σ.y + 4) wd i19 63 [.pointer (some ⟨a1, 0, none⟩), .pointer (some ⟨a2, 0, none⟩)] g0 .ready none db) := by
   rw [zl.get _ hlt]; exact hlp
  have s1 : Same σ.y z z1 := ⟨by rw [hz1]; exact zl.y, fun y hy hne => by
   rw [hz1, St.put_get, if_neg (fun e => by subst e; exact hne _ _ _ _ _ _ _ hlp)]; exact zl.get y hy, fun y hy => by rw [hz1, St.put_get, if_neg (by omega)]; exact zl.get y (by show y < z.y; omega)⟩
  have hm1 : ∀ y ∈ ms, yC z1.heap y = some .defd := fun y hy => by rw [s1.get y (by have := (hms y hy).2.2; omega) (fun _ _ _ _ _ _ _ e => by rw [hz3 y hy] at e; cases e)]; exact hz3 y hy
  have hlw : σ.y ≤ z1.low := by rw [hz1]; show σ.y ≤ min (min z.y z.y) lo; omega
  have Jz := (hz.mono (Y := fun x => X x ∨ z.y ≤ x) (fun b h1 _ h3 => h3.elim id (fun h4 => by omega)))
  have J1 := (Jz.same s1 (Nat.le_refl _)).up hlw
  have rB : Row z1 ⟨z.re.y, 0, none⟩ (xKB (dty w s)) := by
   rw [hz1]
   exact (Only.put (S := (· = lo)) (.inr rfl)).rw' ((zC z.re (zE 0 0 0 0 0) 5).put).rw (fun e => by have e : z.y = lo := e; omega)
  have LS : Le σ z1 := (le0 σ).trans J1.new.le
  obtain ⟨a, rfl, x, hx, lx⟩ := wU (SlV.le hr LS) hsl
  have gx : zT rs s = x := yD hx
  have l26 : zB Try.prog z1 29 ⟨σ.y + 1, 0, none⟩ = some (.slice (some a) l rc) := J1.ro.ld yT rfl
  have hrs := hro s hsl
  by_cases e1 : x = -1
  ·refine ⟨z1, yNU hlp hl1 hz1 l26 lx rfl (by omega) e1, ?_, fun _ => False, Only.refl _ _, fun y hy => hy.elim⟩
   rw [yDS (fun e => by omega), zZF (fun e => by omega)]
   exact ⟨hz.same s1 (Nat.le_refl _), s1.rw hz2, hm1, Nat.le_trans hz4 s1.y⟩
  obtain ⟨k, hkx⟩ : ∃ k : Nat, x = (k : Int) := ⟨x.toNat, by omega⟩
  have hk : k < m := by omega
  have hrk : zT rs s = (k : Int) := by rw [gx, hkx]
  obtain ⟨bq, s2, cq, nq, hbq, rowq⟩ := yEN (σ := z1)
  obtain ⟨X2, hX2⟩ : ∃ X2 : Nat → Prop, X2 = fun x => X x ∨ x = z.y ∨ x = bq := ⟨_, rfl⟩
  have nz1 := s1.y
  have J2 : J σ (wkc w.M p l c q m d w.rest w.run w.j) (.slice (some a) l rc) (.slice t l tc) X2 (stF w (zT rs) (zT ts) m D s) (zAU w (zT rs) (zT ts) D ++ zBW w (zT rs) (zT ts) D s) s2 := by
   refine (J1.le nq.le (J1.new.trans nq)).mono ?_
   rw [hX2]
   rintro b _ _ (g | g | g)
   ·exact .inl g
   ·exact .inr (by omega)
   ·exact .inr (by omega)
  have ha2z : a2 < τ.y := r2.lt
  have hz12 : z.y < s2.y := by have := nq.le.y; have := rB.lt; have e : z.re.y < z1.y := this; have : z.y < z1.y := e; omega
  have hXlt : ∀ x, X2 x → x < s2.y := by
   rw [hX2, hX]
   rintro x ((g | g | g | g | g) | g | g)
   ·omega
   ·omega
   ·omega
   ·omega
   ·have := (hms _ g).2.2; omega
   ·omega
   ·have := rowq.lt; rw [g]; exact this
  have hX23 : ¬ X2 (σ.y + 3) := by
   rw [hX2]; rintro (g | g | g)
   ·exact hX3 g
   ·omega
   ·have := J1.nw.lt; omega
  have hX24 : ¬ X2 (σ.y + 4) := by
   rw [hX2]; rintro (g | g | g)
   ·exact hX4 g
   ·omega
   ·have := J1.nw.lt; omega
  have hXB : X2 z.re.y := by rw [hX2]; exact .inr (.inl rfl)
  have hXq : X2 bq := by rw [hX2]; exact .inr (.inr rfl)
  have hfk : stF w (zT rs) (zT ts) m D s k = xD w (zT rs) (zT ts) k D s := by unfold stF; rw [if_pos hk]
  have hDl : D * l ≤ 6 * 12 := Nat.mul_le_mul hD hl12
  have hso : StOk (stF w (zT rs) (zT ts) m D s k) := by rw [hfk]; exact (yXL hs hn hts hk (by omega)).ok (by omega)
  have hdt := hs.duty s hsl
  have hdo : DtOk (dty w s) := ⟨⟨hdt.1, hdt.2.1⟩, ⟨hdt.2.2.1, hdt.2.2.2.1⟩⟩
  have hAs := hA s (by omega)
  have ask := xCJ (lo := lo) (c := c) (d := d) h hsh hm6 hk hsl hso hdo (by omega) J2 (rB.le nq.le) rowq hXB hXq hX23 hXlt
  have hu := hts s hsl
  have rd : zHO Try.prog lo [iV (s : Int), vC (dty w s)] z (Fm 92 (ov (uA σ.y (σ.y + 1) (σ.y + 2) (σ.y + 3) (σ.y + 4) wd i19 63 [.pointer (some ⟨a1, 0, none⟩), .pointer (some ⟨a2, 0, none⟩)]) g0)) [25, 26] uJ vL db
    [⟨Unit, .normal, fun _ => [], fun _ => [], fun _ z4 => J σ (wkc w.M p l c q m d w.rest w.run w.j) (.slice (some a) l rc) (.slice t l tc) X2 (stF w (zT rs) (zT ts) m D (s + 1)) (zAU w (zT rs) (zT ts) D ++ zBW w (zT rs) (zT ts) D (s + 1)) z4 ∧ Only (fun x => ¬ X2 x) s2 z4⟩] := by
   refine yNT hlp hl1 hz1 l26 (hkx ▸ lx) cq ask ?_ (by omega) (by omega)
   rintro z3 ⟨J3, O3⟩
   refine yRW ht (by omega) hsl hso hdo (by omega) J3 (O3.rw' (rB.le nq.le) (fun hh => hh hXB)) hX24 ?_
   intro z4 J4 O4
   rw [yXS hk hd hrk, yVP (m := m) hk hd hrk, ← List.append_assoc]
   exact ⟨J4, O3.trans' O4 (fun b _ hb => .inl hb)⟩
  obtain ⟨z4, ⟨J4, O4⟩, rd4⟩ := yJS rd
  refine ⟨z4, rd4, ⟨J4.dn.mono (fun b _ _ hb => by rw [hX2]; exact .inl hb), ?_, ?_, ?_⟩, fun y => σ.y ≤ y ∧ y ≠ τ.y ∧ y ≠ τ.y + 1, (nq.only).trans' (O4.mono (T := fun y => σ.y ≤ y ∧ y ≠ τ.y ∧ y ≠ τ.y + 1) ?_) (fun b _ hb => .inl hb), fun y hy => hy⟩
  ·refine O4.rw' ((s1.rw hz2).le nq.le) (fun hh => hh ?_)
   rw [hX2, hX]; exact .inl (.inr (.inl rfl))
  ·intro y hy
   have hys : y < s2.y := hXlt y (by rw [hX2, hX]; exact .inl (.inr (.inr (.inr (.inr hy)))))
   rw [O4.get y hys (fun hh => hh (by rw [hX2, hX]; exact .inl (.inr (.inr (.inr (.inr hy)))))), nq.le.get y (by have := (hms y hy).2.2; omega)]
   exact hm1 y hy
  ·have := O4.y; have := nq.le.y; omega
  ·intro b _ hb
   rw [hX2, hX] at hb
   refine ⟨?_, ?_, ?_⟩
   ·rcases Nat.lt_or_ge b σ.y with g | g
    ·exact absurd (.inl (.inl g)) hb
    ·exact g
   ·intro e; exact hb (.inl (.inr (.inr (.inl e))))
   ·intro e; exact hb (.inl (.inr (.inr (.inr (.inl e)))))
 ·rintro z ⟨hz, _, hz3, _⟩ h1 h2 h3
  refine hQ z ?_ (fun y hy => by rcases List.mem_cons.1 hy with e | e; exact e ▸ h1; exact hz3 y e) h2 (h3 σ.y (Nat.le_refl _) ?_)
  ·have e : zAU w (zT rs) (zT ts) (D + 1) = zAU w (zT rs) (zT ts) D ++ zBW w (zT rs) (zT ts) D l := by rw [yZR, hn]
   rw [e, yXT, hn]
   refine hz.mono (fun b _ _ h => ?_)
   rw [hX]
   rcases List.mem_cons.1 h with e | e
   ·exact .inr (.inr (.inl e))
   ·exact .inr (.inr (.inr (.inr e)))
  ·have := hJ.new.low σ.y (Nat.le_refl _) (Nat.le_refl _)
   exact this
end
section
variable {σ τ : St} {w : Wk} {p q r t : Option Addr} {l m c d rc tc : Nat} {rs ts : List Int}
theorem xKP {D : Nat} : ∃ a1 a2 σ', zD Try.prog 46 [.agg ⟨wkc w.M p l c q m d w.rest w.run w.j⟩, iV (D : Int)] σ (.func (.func 63) ⟨[]⟩ ⟨[.pointer (some ⟨a1, 0, none⟩), .pointer (some ⟨a2, 0, none⟩)]⟩) σ' ∧ New σ σ' ∧ σ.y ≤ a2 ∧ Row σ' ⟨a1, 0, none⟩ (wkc w.M p l c q m d w.rest w.run w.j) ∧ Row σ' ⟨a2, 0, none⟩ [yO D] := by
 obtain ⟨v, σ', h1, h2, a1, a2, rfl, h3, h4, h5⟩ := zI.new (σ := σ) (P := Try.prog) (f := 46) (args := [.agg ⟨wkc w.M p l c q m d w.rest w.run w.j⟩, iV (D : Int)]) (Q := fun v s => ∃ a1 a2, v = .func (.func 63) ⟨[]⟩ ⟨[.pointer (some ⟨a1, 0, none⟩), .pointer (some ⟨a2, 0, none⟩)]⟩ ∧ σ.y ≤ a2 ∧ Row s ⟨a1, 0, none⟩ (wkc w.M p l c q m d w.rest w.run w.j) ∧ Row s ⟨a2, 0, none⟩ [yO D])
  (xJH ⟨(New.row _ _ _).row', σ.re.y, σ.re.y + 1, rfl, by show σ.y ≤ σ.y + 1; omega, (xC _ _ _).row, xC (σ.re.row (wkc w.M p l c q m d w.rest w.run w.j) 6) _ _⟩) (by rintro v s s' ⟨a1, a2, rfl, g1, g2, g3⟩ hle; exact ⟨a1, a2, rfl, g1, g2.le hle, g3.le hle⟩) (by rintro v s hr ⟨a1, a2, rfl, _⟩; cases hr)
 exact ⟨a1, a2, σ', h1, h2, h3, h4, h5⟩
theorem xBY {n : Nat} (hn : w.M = (n : Int)) (hn7 : n ≤ 7) (h : WkP σ 69 61 w p l q m) (hs : Sane w l m) (hsh : zFD w) (hr : yP σ r l rs) (ht : yP σ t l ts) (hro : ∀ i, i < l → -1 ≤ zT rs i ∧ zT rs i < (m : Int))
  (hts : ∀ i, i < l → (dty w i).on ≤ zT ts i ∧ zT ts i ≤ (dty w i).on + 1440) (hA : ∀ D j, D ≤ 6 → j ≤ l → (zAU w (zT rs) (zT ts) D ++ zBW w (zT rs) (zT ts) D j).length ≤ 450)
  (hJ : J σ (wkc w.M p l c q m d w.rest w.run w.j) (.slice r l rc) (.slice t l tc) (fun x => x ∈ ([] : List Nat)) (st0 w m) [] τ) :
  zOH σ.y (σ.y + 1) (σ.y + 2) (σ.y + 3) (σ.y + 4) w.M 0 [] τ (fun ms z => J σ (wkc w.M p l c q m d w.rest w.run w.j) (.slice r l rc) (.slice t l tc) (fun x => x ∈ ms) (stF w (zT rs) (zT ts) m n 0) (zAU w (zT rs) (zT ts) n) z ∧ ms.Nodup ∧ ∀ y ∈ ms, yC z.heap y = some .defd ∧ σ.y + 5 ≤ y ∧ y < z.y) := by
 refine yCL (Inv := fun k i ms z => ∃ D : Nat, i = D ∧ D + k = n ∧ J σ (wkc w.M p l c q m d w.rest w.run w.j) (.slice r l rc) (.slice t l tc) (fun x => x ∈ ms) (stF w (zT rs) (zT ts) m D 0) (zAU w (zT rs) (zT ts) D) z ∧ ms.Nodup ∧ ∀ y ∈ ms, yC z.heap y = some .defd ∧ σ.y + 5 ≤ y ∧ y < z.y) ?_ n 0 [] τ ⟨0, rfl, by omega, hJ, List.nodup_nil, fun y hy => by cases hy⟩
 rintro k i ms z ⟨D, rfl, hk, hz, hnd, hms⟩
 by_cases hD : D < n
 rotate_left
 ·have : D = n := by omega
  subst this
  exact yOB ⟨hz, hnd, hms⟩ (by omega)
 have lw : zB Try.prog z 43 ⟨σ.y, 0, none⟩ = some (.agg ⟨wkc w.M p l c q m d w.rest w.run w.j⟩) := hz.wk.ldN (k := 0) zCH vO (ds := wkc w.M p l c q m d w.rest w.run w.j) rfl rfl (by simp)
 obtain ⟨a1, a2, z2, c2, n2, ha2, r1, r2⟩ := xKP (σ := z) (w := w) (p := p) (l := l) (c := c) (q := q) (m := m) (d := d) (D := D)
 have hz5 : σ.y + 5 ≤ z.y := by have := hz.nw.lt; omega
 have J2 := ((hz.mono (Y := fun x => x = a2 ∨ x ∈ ms) (fun b h1 _ h3 => h3.elim (fun e => by omega) id)).le n2.le (hz.new.trans n2))
 have hms2 : ∀ y ∈ ms, yC z2.heap y = some .defd ∧ σ.y + 5 ≤ y ∧ y < z2.y := fun y hy => by
  obtain ⟨g1, g2, g3⟩ := hms y hy
  exact ⟨by rw [n2.le.get y g3]; exact g1, g2, by have := n2.le.y; omega⟩
 refine yOC lw c2 (xFL (wd := w.M) (i19 := D) h hs hsh hr ht hro hts (fun j hj => hA D j (by omega) hj) (by omega) r1 r2 (by omega) hms2 J2
  (Qn := fun z3 => J σ (wkc w.M p l c q m d w.rest w.run w.j) (.slice r l rc) (.slice t l tc) (fun x => x ∈ z2.y :: ms) (stF w (zT rs) (zT ts) m (D + 1) 0) (zAU w (zT rs) (zT ts) (D + 1)) z3 ∧ ∀ y ∈ z2.y :: ms, yC z3.heap y = some .defd ∧ σ.y + 5 ≤ y ∧ y < z3.y)
  (fun z3 g1 g2 g3 g4 => ⟨g1.up g4, fun y hy => ⟨g2 y hy, ?_⟩⟩)) ?_ (by omega)
 ·rcases List.mem_cons.1 hy with e | e
  ·have := n2.le.y; omega
  ·have := hms2 y e; omega
 ·rintro z3 ⟨g1, g2⟩
  refine yCH ⟨k - 1, by omega, D + 1, by omega, by omega, g1, ?_, g2⟩ (by omega)
  exact List.nodup_cons.2 ⟨fun e => by have := (hms2 _ e).2.2; omega, hnd⟩
end
end Go.Proofs.Ytgfiniccfpfplaa
