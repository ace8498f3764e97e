import Derived.Test.YtffgfojabcbegaaDoorXA
import Derived.Test.YtffgfojabcbegaaDoorLayD
import Derived.Test.YtffgfojabcbegaaDoorTI
import Derived.Test.YtffgfojabcbegaaDoorXB
set_option linter.unusedVariables false
set_option maxRecDepth 20000
set_option linter.unusedSimpArgs false
namespace Go.Proofs.YtffgfojabcbegaaDoor
open Go Go.Lay
open Tryd renaming prog → Pg
section
variable {l l2 c2 lA cA l1 c1 : Nat} {q2 qA q1 : Option Addr} {Inv : Nat → Int → St → Prop} {Qr Q0 Pr P0 : St → Prop} {i9_1 : Int} {q2_a v0 : Addr} {σB σ σ3 : St} {Nx : Int → St → Prop} {Q : Value → St → Prop}
noncomputable def pcs1_c1 : Code := (Code.part [1, 0, 0] (bodyOf Pg 37))
def pcs1_l1 (l : Nat) (q2 : Option Addr) (l2 c2 : Nat) (i9_1 : Int) : List (Nat × Value) := [(0, .func (.yield l) ⟨[]⟩ ⟨[]⟩), (7, .slice q2 l2 c2), (8, iV ((l2 : Nat) : Int)), (9, iV i9_1)]
def pcs1_a1n (l : Nat) (q2 : Option Addr) (l2 c2 : Nat) (Q : Int → St → Prop) : Alt := ⟨Int, .normal, fun t => pcs1_l1 l q2 l2 c2 t, fun t => [], fun t σ => Q t σ⟩
def pcs1_l1xr (l : Nat) (q2 : Option Addr) (l2 c2 : Nat) : List (Nat × Value) := []
def pcs1_a1xr (l : Nat) (q2 : Option Addr) (l2 c2 : Nat) (Q : St → Prop) : Alt := ⟨Unit, .ret, fun t => pcs1_l1xr l q2 l2 c2, fun t => [], fun t σ => Q σ⟩
def pcs1_l1x0 (l : Nat) (q2 : Option Addr) (l2 c2 : Nat) : List (Nat × Value) := []
def pcs1_a1x0 (l : Nat) (q2 : Option Addr) (l2 c2 : Nat) (Q : St → Prop) : Alt := ⟨Unit, (.exit 0), fun t => pcs1_l1x0 l q2 l2 c2, fun t => [], fun t σ => Q σ⟩
def pcs1_B1 (l : Nat) (q2 : Option Addr) (l2 c2 : Nat) (i9_1 : Int) (σ : St) (Nx : Int → St → Prop) (Qr : St → Prop) (Q0 : St → Prop) : Prop := BodyG Pg (runA Pg) none pcs1_c1 26 (pcs1_l1 l q2 l2 c2 i9_1) [] [pcs1_a1n l q2 l2 c2 Nx, pcs1_a1xr l q2 l2 c2 Qr, pcs1_a1x0 l q2 l2 c2 Q0] σ
def pcs1_L1 (l : Nat) (q2 : Option Addr) (l2 c2 : Nat) (i9_1 : Int) (σ : St) (Qr : St → Prop) (Q0 : St → Prop) : Prop := LoopG Pg (runA Pg) none pcs1_c1 26 (pcs1_l1 l q2 l2 c2 i9_1) [] [pcs1_a1xr l q2 l2 c2 Qr, pcs1_a1x0 l q2 l2 c2 Q0] σ
theorem pcs1_loop1 (hb : ∀ k i9_1 σ, Inv k i9_1 σ → pcs1_B1 l q2 l2 c2 i9_1 σ (fun i9_1' σ' => ∃ k', k' < k ∧ Inv k' i9_1' σ') Qr Q0) : ∀ k i9_1 σ, Inv k i9_1 σ → pcs1_L1 l q2 l2 c2 i9_1 σ Qr Q0 :=
 fun k i9_1 σ h => loopG_inv (alts := [pcs1_a1xr l q2 l2 c2 Qr, pcs1_a1x0 l q2 l2 c2 Q0]) (T := Int) (lf := fun t => pcs1_l1 l q2 l2 c2 t) (mf := fun t => []) (Inv := fun k t σ => Inv k t σ) (ai retNe (ai (exNe 0) trivial)) (fun k t σ h => hb k t σ h) k i9_1 σ h
theorem pcs1_s1a (h1 : loadA Pg σ 22 (aadd q2_a (Int.toNat i9_1 * 1)) = some (.slice qA lA cA)) (h2 : CallsY Pg l [.bool true, .slice qA lA cA] σ (.bool true) σB) (nx : Nx (i9_1 + 1) σB) (u1 : i9_1 < ((l2 : Nat) : Int) := by omega) (u2 : 0 ≤ i9_1 ∧ i9_1 < ((l2 : Nat) : Int) := by omega) (u3 : 0 < ((lA : Nat) : Int) := by omega) (u4 : 0 < i9_1 := by omega) (u5 : -9223372036854775808 ≤ i9_1 + 1 ∧ i9_1 + 1 ≤ 9223372036854775807 := by omega) : pcs1_B1 l (some q2_a) l2 c2 i9_1 σ Nx Qr Q0 :=
 body_of [.b true, .g, .i, .l (.slice qA lA cA), .g, .g, .g, .g, .b true, .g, .g, .g, .b true, .g, .c (.bool true) σB, .g, .g, .n (i9_1 + 1), .g, .fin (pcs1_a1n l (some q2_a) l2 c2 Nx) (i9_1 + 1)] (fun g => kc (by kernel_rfl) (ai (ltI_tt u1) (ai u2 (ai h1 (ai (ltI_tt u3) (ai (ltI_tt u4) (ai h2 (ai (wrap64 (n := i9_1 + 1) u5.1 u5.2) (fin (alts := [pcs1_a1n l (some q2_a) l2 c2 Nx, pcs1_a1xr l (some q2_a) l2 c2 Qr, pcs1_a1x0 l (some q2_a) l2 c2 Q0]) (pcs1_a1n l (some q2_a) l2 c2 Nx) (i9_1 + 1) nx in0)))))))))
theorem pcs1_s1c (h1 : loadA Pg σ 22 (aadd q2_a (Int.toNat i9_1 * 1)) = some (.slice qA lA cA)) (h2 : CallsY Pg l [.bool false, .slice qA lA cA] σ (.bool true) σB) (nx : Nx (i9_1 + 1) σB) (u1 : i9_1 < ((l2 : Nat) : Int) := by omega) (u2 : 0 ≤ i9_1 ∧ i9_1 < ((l2 : Nat) : Int) := by omega) (u3 : 0 < ((lA : Nat) : Int) := by omega) (u4 : ¬ 0 < i9_1 := by omega) (u5 : -9223372036854775808 ≤ i9_1 + 1 ∧ i9_1 + 1 ≤ 9223372036854775807 := by omega) : pcs1_B1 l (some q2_a) l2 c2 i9_1 σ Nx Qr Q0 :=
 body_of [.b true, .g, .i, .l (.slice qA lA cA), .g, .g, .g, .g, .b true, .g, .g, .g, .b false, .g, .c (.bool true) σB, .g, .g, .n (i9_1 + 1), .g, .fin (pcs1_a1n l (some q2_a) l2 c2 Nx) (i9_1 + 1)] (fun g => kc (by kernel_rfl) (ai (ltI_tt u1) (ai u2 (ai h1 (ai (ltI_tt u3) (ai (ltI_ff u4) (ai h2 (ai (wrap64 (n := i9_1 + 1) u5.1 u5.2) (fin (alts := [pcs1_a1n l (some q2_a) l2 c2 Nx, pcs1_a1xr l (some q2_a) l2 c2 Qr, pcs1_a1x0 l (some q2_a) l2 c2 Q0]) (pcs1_a1n l (some q2_a) l2 c2 Nx) (i9_1 + 1) nx in0)))))))))
theorem pcs1_s1e (h1 : loadA Pg σ 22 (aadd q2_a (Int.toNat i9_1 * 1)) = some (.slice qA lA cA)) (nx : Nx (i9_1 + 1) σ) (u1 : i9_1 < ((l2 : Nat) : Int) := by omega) (u2 : 0 ≤ i9_1 ∧ i9_1 < ((l2 : Nat) : Int) := by omega) (u3 : ¬ 0 < ((lA : Nat) : Int) := by omega) (u4 : -9223372036854775808 ≤ i9_1 + 1 ∧ i9_1 + 1 ≤ 9223372036854775807 := by omega) : pcs1_B1 l (some q2_a) l2 c2 i9_1 σ Nx Qr Q0 :=
 body_of [.b true, .g, .i, .l (.slice qA lA cA), .g, .g, .g, .g, .b false, .g, .g, .n (i9_1 + 1), .g, .fin (pcs1_a1n l (some q2_a) l2 c2 Nx) (i9_1 + 1)] (fun g => kc (by kernel_rfl) (ai (ltI_tt u1) (ai u2 (ai h1 (ai (ltI_ff u3) (ai (wrap64 (n := i9_1 + 1) u4.1 u4.2) (fin (alts := [pcs1_a1n l (some q2_a) l2 c2 Nx, pcs1_a1xr l (some q2_a) l2 c2 Qr, pcs1_a1x0 l (some q2_a) l2 c2 Q0]) (pcs1_a1n l (some q2_a) l2 c2 Nx) (i9_1 + 1) nx in0)))))))
theorem pcs1_s1f (nx : Q0 σ) (u1 : ¬ i9_1 < ((l2 : Nat) : Int) := by omega) : pcs1_B1 l q2 l2 c2 i9_1 σ Nx Qr Q0 :=
 body_of [.b false, .fin (pcs1_a1x0 l q2 l2 c2 Q0) ()] (fun g => kc (by kernel_rfl) (ai (ltI_ff u1) (fin (alts := [pcs1_a1n l q2 l2 c2 Nx, pcs1_a1xr l q2 l2 c2 Qr, pcs1_a1x0 l q2 l2 c2 Q0]) (pcs1_a1x0 l q2 l2 c2 Q0) () nx (inS (inS in0)))))
def pcs1_K1_r (l : Nat) (q2 : Option Addr) (l2 c2 : Nat) (σ : St) (Q : Value → St → Prop) : Prop := ∀ g : Nat → Value, ∃ an, Hid (kAt Pg (runA Pg) none (bodyOf Pg 37) [1, 0] (kFn Pg 37 Q) .ret ⟨Fm 26 (ov (pcs1_l1xr l q2 l2 c2) g), []⟩ σ an)
def pcs1_K1_0 (l : Nat) (q2 : Option Addr) (l2 c2 : Nat) (σ : St) (Q : Value → St → Prop) : Prop := ∀ g : Nat → Value, ∃ an, Hid (kAt Pg (runA Pg) none (bodyOf Pg 37) [1, 0] (kFn Pg 37 Q) (.exit 0) ⟨Fm 26 (ov (pcs1_l1x0 l q2 l2 c2) g), []⟩ σ an)
theorem pcs1_ra (h1 : loadA Pg σ 22 v0 = some (.slice q1 l1 c1)) (h2 : CallsA Pg 38 [.slice q1 l1 c1, .slice (some ⟨σ.q, 0, none⟩) 1 1] (σ.row [.int .u8 126] 1) (.slice q2 l2 c2) σ3) (hL : pcs1_L1 l q2 l2 c2 0 σ3 Pr P0) (kr : ∀ σ', Pr σ' → pcs1_K1_r l q2 l2 c2 σ' Q) (k0 : ∀ σ', P0 σ' → pcs1_K1_0 l q2 l2 c2 σ' Q) : RunsQ Pg 37 [.func (.yield l) ⟨[]⟩ ⟨[]⟩, .pointer (some v0)] σ Q :=
 runsQ_of [.l (.slice q1 l1 c1), .g, .c (.slice q2 l2 c2) σ3, .g, .g, .lf 26 (pcs1_l1 l q2 l2 c2 0) [pcs1_a1xr l q2 l2 c2 Pr, pcs1_a1x0 l q2 l2 c2 P0]] (kc (by kernel_rfl) (ai h1 (ai h2 (ai (ai tt (ai (arf (pcs1_l1 l q2 l2 c2 0)) hL)) (ai (fun (t : Unit) (g' : Nat → Value) (σ' : St) (q : Pr σ') => kr σ' q g') (ai (fun (t : Unit) (g' : Nat → Value) (σ' : St) (q : P0 σ') => k0 σ' q g') trivial))))))
theorem pcs1_t1x0a (nx : Q (.tuple ⟨[]⟩) σ) : pcs1_K1_0 l q2 l2 c2 σ Q :=
 fun g => ⟨[], kc (by kernel_rfl) nx⟩
end
section
variable {b yp qW qX q2 qG qI qT : Option Addr} {b_l b_c BA BB yp_l yp_c lo lW cW lX cX db l2 c2 lH cH lI cI lT cT : Nat} {σ σN σEB τ σ1 σ3 σ6 σJ σK s_end σFB : St} {Q : Value → St → Prop} {f5 : FuncId} {f5_c : List Value} {nK nL nM nN nO nP nFB n4 nQ nGB nR : Int} {g : Nat → Value} {Qn Pn : St → Prop} {bF : Bool} {ms : List Nat}
theorem Decode_ra (nx : Q (.tuple ⟨[.slice none 0 0, iV 0, iV 3]⟩) ((((σ.row [.slice none 0 0] 1).row [iV 0] 1).own σ.q [.slice none 0 0] 1).own (σ.q + 1) [iV 0] 1)) (u1 : 5000 < ((b_l : Nat) : Int) := by omega) : RunsQ Pg 8 [.slice b b_l b_c] σ Q :=
 runsQ_of [.g, .g, .g, .g, .g, .b true, .e undef (((σ.row [.slice none 0 0] 1).row [iV 0] 1).own σ.q [.slice none 0 0] 1), .e undef ((((σ.row [.slice none 0 0] 1).row [iV 0] 1).own σ.q [.slice none 0 0] 1).own (σ.q + 1) [iV 0] 1), .g, .l (.slice none 0 0), .l (iV 0)] (kc (by kernel_rfl) (ai (ltI_tt u1) (ai ((own_new _ _ _).row.store (vs := [.slice none 0 0]) rfl size24 rfl (by first | (simp; done) | (simp; omega)) rfl : effOp Pg (evL [.pointer (some ⟨σ.q, 0, none⟩), .slice none 0 0]) ((σ.row [.slice none 0 0] 1).row [iV 0] 1) (.store 24 (.tmp 0) (.tmp 1)) = some (undef, (((σ.row [.slice none 0 0] 1).row [iV 0] 1).own σ.q [.slice none 0 0] 1))) (ai (((own_new _ _ _).own (by first | (simp; done) | (simp; omega))).store (vs := [iV 0]) rfl size3 rfl (by first | (simp; done) | (simp; omega)) rfl : effOp Pg (evL [.pointer (some ⟨(σ.q + 1), 0, none⟩), iV 0]) (((σ.row [.slice none 0 0] 1).row [iV 0] 1).own σ.q [.slice none 0 0] 1) (.store 3 (.tmp 0) (.tmp 1)) = some (undef, ((((σ.row [.slice none 0 0] 1).row [iV 0] 1).own σ.q [.slice none 0 0] 1).own (σ.q + 1) [iV 0] 1))) (ai (((own_new _ _ _).row.put.own (by first | (simp; done) | (simp; omega))).rw.ld agg24 (k := 0) rfl : loadA Pg ((((σ.row [.slice none 0 0] 1).row [iV 0] 1).own σ.q [.slice none 0 0] 1).own (σ.q + 1) [iV 0] 1) 24 ⟨σ.q, 0, none⟩ = some (.slice none 0 0)) (ai (((own_new _ _ _).own (by first | (simp; done) | (simp; omega))).put.rw.ld agg3 (k := 0) rfl : loadA Pg ((((σ.row [.slice none 0 0] 1).row [iV 0] 1).own σ.q [.slice none 0 0] 1).own (σ.q + 1) [iV 0] 1) 3 ⟨(σ.q + 1), 0, none⟩ = some (iV 0)) nx))))))
noncomputable def Decode_c1_as : Code := (Code.part [1, 1, 1, 1, 0, 1, 0, 0] (bodyOf Pg 8))
noncomputable def Decode_c1_bo : Code := (Code.part [1, 1, 1, 1, 0, 1, 0, 1] (bodyOf Pg 8))
def Decode_l1 (BA BB : Nat) (f5 : FuncId) (f5_c : List Value) : List (Nat × Value) := [(2, .pointer (some ⟨BA, 0, none⟩)), (3, .pointer (some ⟨BB, 0, none⟩)), (20, .func (.func f5) ⟨[]⟩ ⟨f5_c⟩)]
noncomputable def Decode_k1 (BA BB : Nat) (f5 : FuncId) (f5_c : List Value) (g : Nat → Value) (st : LoopState) (pend : Option Code) (db : Nat) : Blk := .loop (Fm 45 (ov (Decode_l1 BA BB f5 f5_c) g)) [21, 22] Decode_c1_as Decode_c1_bo st pend db
def Decode_R1 (BA BB : Nat) (f5 : FuncId) (f5_c : List Value) (σ : St) (Qn : St → Prop) : Prop := RangeG Pg (runA Pg) (.tmp 20) ⟨[21, 22]⟩ Decode_c1_as Decode_c1_bo 45 (Decode_l1 BA BB f5 f5_c) [(.normal, Qn)] σ
theorem Decode_y1a (hl : getB τ.heap lo = some (Decode_k1 BA BB f5 f5_c g .ready none db)) (hσ : σ = τ.re.put lo (Decode_k1 BA BB f5 f5_c g .busy none db)) (h1 : CallsA Pg 22 [.slice yp yp_l yp_c] σ (.tuple ⟨[.agg ⟨rcd nK nL nM nN nO nP⟩, .bool true]⟩) σ) (h2 : loadA Pg ((σ.row (rcd 0 0 0 0 0 0) 6).own σ.q (rcd nK nL nM nN nO nP) 6) 24 ⟨BA, 0, none⟩ = some (.slice qW lW cW)) (h3 : appendA Pg 24 24 (.slice qW lW cW) (.slice (some ⟨(σ.q + 1), 0, none⟩) 1 1) (((σ.row (rcd 0 0 0 0 0 0) 6).own σ.q (rcd nK nL nM nN nO nP) 6).row (rcd nK nL nM nN nO nP) 6) = some (.slice qX lX cX, σN)) (h4 : effOp Pg (evL [.pointer (some ⟨BA, 0, none⟩), .slice qX lX cX]) σN (.store 24 (.tmp 0) (.tmp 1)) = some (undef, σEB)) (nx : Qn σEB) : RoundG Pg lo [.bool true, .slice yp yp_l yp_c] τ (Fm 45 (ov (Decode_l1 BA BB f5 f5_c) g)) [21, 22] Decode_c1_as Decode_c1_bo db [⟨Unit, .normal, fun _ => [], fun _ => [], fun _ σ => Qn σ⟩] :=
 round_of hl rfl hσ [.g, .g, .g, .c (.tuple ⟨[.agg ⟨rcd nK nL nM nN nO nP⟩, .bool true]⟩) σ, .g, .g, .g, .g, .e undef ((σ.row (rcd 0 0 0 0 0 0) 6).own σ.q (rcd nK nL nM nN nO nP) 6), .g, .g, .g, .g, .g, .g, .g, .l (.slice qW lW cW), .l (.agg ⟨rcd nK nL nM nN nO nP⟩), .g, .e (.slice qX lX cX) σN, .e undef σEB, .fin ⟨Unit, .normal, fun _ => [], fun _ => [], fun _ σ => Qn σ⟩ ()] (kc (by kernel_rfl) (ai (ai (rfl : Exit.normal = Exit.normal) (rfl : τ.re = τ.re)) (ai h1 (ai ((own_new _ _ _).store (vs := (rcd nK nL nM nN nO nP)) rfl size40 rfl (by first | (simp; done) | (simp; omega)) rfl : effOp Pg (evL [.pointer (some ⟨σ.q, 0, none⟩), .agg ⟨rcd nK nL nM nN nO nP⟩]) (σ.row (rcd 0 0 0 0 0 0) 6) (.store 40 (.tmp 0) (.tmp 1)) = some (undef, ((σ.row (rcd 0 0 0 0 0 0) 6).own σ.q (rcd nK nL nM nN nO nP) 6))) (ai h2 (ai ((own_new _ _ _).put.rw.ldN agg40 size40 (k := 0) rfl rfl (by first | (simp; done) | (simp; omega)) : loadA Pg ((σ.row (rcd 0 0 0 0 0 0) 6).own σ.q (rcd nK nL nM nN nO nP) 6) 40 ⟨σ.q, 0, none⟩ = some (.agg ⟨rcd nK nL nM nN nO nP⟩)) (ai h3 (ai h4 (finS (alts := [⟨Unit, .normal, fun _ => [], fun _ => [], fun _ σ => Qn σ⟩]) ⟨Unit, .normal, fun _ => [], fun _ => [], fun _ σ => Qn σ⟩ () nx in0)))))))))
theorem Decode_y1b (hl : getB τ.heap lo = some (Decode_k1 BA BB f5 f5_c g .ready none db)) (hσ : σ = τ.re.put lo (Decode_k1 BA BB f5 f5_c g .busy none db)) (h1 : CallsA Pg 22 [.slice yp yp_l yp_c] σ (.tuple ⟨[.agg ⟨rcd nK nL nM nN nO nP⟩, .bool false]⟩) σ) (h2 : loadA Pg ((σ.row (rcd 0 0 0 0 0 0) 6).own σ.q (rcd nK nL nM nN nO nP) 6) 3 ⟨BB, 0, none⟩ = some (iV nFB)) (h3 : effOp Pg (evL [.pointer (some ⟨BB, 0, none⟩), iV (nFB + 1)]) ((σ.row (rcd 0 0 0 0 0 0) 6).own σ.q (rcd nK nL nM nN nO nP) 6) (.store 3 (.tmp 0) (.tmp 1)) = some (undef, σN)) (nx : Qn σN) (u1 : -9223372036854775808 ≤ nFB + 1 ∧ nFB + 1 ≤ 9223372036854775807 := by omega) : RoundG Pg lo [.bool true, .slice yp yp_l yp_c] τ (Fm 45 (ov (Decode_l1 BA BB f5 f5_c) g)) [21, 22] Decode_c1_as Decode_c1_bo db [⟨Unit, .normal, fun _ => [], fun _ => [], fun _ σ => Qn σ⟩] :=
 round_of hl rfl hσ [.g, .g, .g, .c (.tuple ⟨[.agg ⟨rcd nK nL nM nN nO nP⟩, .bool false]⟩) σ, .g, .g, .g, .g, .e undef ((σ.row (rcd 0 0 0 0 0 0) 6).own σ.q (rcd nK nL nM nN nO nP) 6), .g, .g, .g, .g, .g, .g, .g, .l (iV nFB), .n (nFB + 1), .e undef σN, .fin ⟨Unit, .normal, fun _ => [], fun _ => [], fun _ σ => Qn σ⟩ ()] (kc (by kernel_rfl) (ai (ai (rfl : Exit.normal = Exit.normal) (rfl : τ.re = τ.re)) (ai h1 (ai ((own_new _ _ _).store (vs := (rcd nK nL nM nN nO nP)) rfl size40 rfl (by first | (simp; done) | (simp; omega)) rfl : effOp Pg (evL [.pointer (some ⟨σ.q, 0, none⟩), .agg ⟨rcd nK nL nM nN nO nP⟩]) (σ.row (rcd 0 0 0 0 0 0) 6) (.store 40 (.tmp 0) (.tmp 1)) = some (undef, ((σ.row (rcd 0 0 0 0 0 0) 6).own σ.q (rcd nK nL nM nN nO nP) 6))) (ai h2 (ai (wrap64 (n := nFB + 1) u1.1 u1.2) (ai h3 (finS (alts := [⟨Unit, .normal, fun _ => [], fun _ => [], fun _ σ => Qn σ⟩]) ⟨Unit, .normal, fun _ => [], fun _ => [], fun _ σ => Qn σ⟩ () nx in0))))))))
theorem Decode_y1c (hl : getB τ.heap lo = some (Decode_k1 BA BB f5 f5_c g .ready none db)) (hσ : σ = τ.re.put lo (Decode_k1 BA BB f5 f5_c g .busy none db)) (h1 : CallsA Pg 22 [.slice yp yp_l yp_c] σ (.tuple ⟨[.agg ⟨rcd nK nL nM nN nO nP⟩, .bool bF]⟩) σ) (h2 : loadA Pg ((σ.row (rcd 0 0 0 0 0 0) 6).own σ.q (rcd nK nL nM nN nO nP) 6) 3 ⟨BB, 0, none⟩ = some (iV nFB)) (h3 : effOp Pg (evL [.pointer (some ⟨BB, 0, none⟩), iV (nFB + 1)]) ((σ.row (rcd 0 0 0 0 0 0) 6).own σ.q (rcd nK nL nM nN nO nP) 6) (.store 3 (.tmp 0) (.tmp 1)) = some (undef, σN)) (nx : Qn σN) (u1 : -9223372036854775808 ≤ nFB + 1 ∧ nFB + 1 ≤ 9223372036854775807 := by omega) : RoundG Pg lo [.bool false, .slice yp yp_l yp_c] τ (Fm 45 (ov (Decode_l1 BA BB f5 f5_c) g)) [21, 22] Decode_c1_as Decode_c1_bo db [⟨Unit, .normal, fun _ => [], fun _ => [], fun _ σ => Qn σ⟩] :=
 round_of hl rfl hσ [.g, .g, .g, .c (.tuple ⟨[.agg ⟨rcd nK nL nM nN nO nP⟩, .bool bF]⟩) σ, .g, .g, .g, .g, .e undef ((σ.row (rcd 0 0 0 0 0 0) 6).own σ.q (rcd nK nL nM nN nO nP) 6), .g, .g, .g, .g, .g, .l (iV nFB), .n (nFB + 1), .e undef σN, .fin ⟨Unit, .normal, fun _ => [], fun _ => [], fun _ σ => Qn σ⟩ ()] (kc (by kernel_rfl) (ai (ai (rfl : Exit.normal = Exit.normal) (rfl : τ.re = τ.re)) (ai h1 (ai ((own_new _ _ _).store (vs := (rcd nK nL nM nN nO nP)) rfl size40 rfl (by first | (simp; done) | (simp; omega)) rfl : effOp Pg (evL [.pointer (some ⟨σ.q, 0, none⟩), .agg ⟨rcd nK nL nM nN nO nP⟩]) (σ.row (rcd 0 0 0 0 0 0) 6) (.store 40 (.tmp 0) (.tmp 1)) = some (undef, ((σ.row (rcd 0 0 0 0 0 0) 6).own σ.q (rcd nK nL nM nN nO nP) 6))) (ai h2 (ai (wrap64 (n := nFB + 1) u1.1 u1.2) (ai h3 (finS (alts := [⟨Unit, .normal, fun _ => [], fun _ => [], fun _ σ => Qn σ⟩]) ⟨Unit, .normal, fun _ => [], fun _ => [], fun _ σ => Qn σ⟩ () nx in0))))))))
def Decode_K1_n (BA BB : Nat) (f5 : FuncId) (f5_c : List Value) (ms : List Nat) (σ : St) (Q : Value → St → Prop) : Prop := ∀ g : Nat → Value, ∃ an, Hid (kAt Pg (runA Pg) none (bodyOf Pg 8) [1, 1, 1, 1, 0, 1, 0] (kFn Pg 8 Q) .normal ⟨Fm 45 (ov (Decode_l1 BA BB f5 f5_c) g), ms⟩ σ an)
theorem Decode_rb (h1 : effOp Pg (evL [iV ((b_l : Nat) : Int), iV ((b_l : Nat) : Int)]) ((σ.row [.slice none 0 0] 1).row [iV 0] 1) (.makeSlice 22 (.tmp 0) (.tmp 1)) = some (.slice q2 l2 c2, σ1)) (h2 : effOp Pg (evL [.slice q2 l2 c2, .slice b b_l b_c]) σ1 (.call { callee := .builtin .copy, args := ⟨tmpsTo 2⟩, argTypes := ⟨[22, 22]⟩ }) = some ((iV n4), σ3)) (h3 : CallsA Pg 21 [.slice q2 l2 c2] σ3 (.func (.func f5) ⟨[]⟩ ⟨f5_c⟩) σ6) (hL : Decode_R1 σ.q (σ.q + 1) f5 f5_c σ6 Pn) (kn : ∀ σ', Pn σ' → Decode_K1_n σ.q (σ.q + 1) f5 f5_c [σ6.q] σ' Q) (u1 : ¬ 5000 < ((b_l : Nat) : Int) := by omega) : RunsQ Pg 8 [.slice b b_l b_c] σ Q :=
 runsQ_of [.g, .g, .g, .g, .g, .b false, .g, .g, .e (.slice q2 l2 c2) σ1, .g, .g, .g, .e (iV n4) σ3, .g, .c (.func (.func f5) ⟨[]⟩ ⟨f5_c⟩) σ6, .rf 45 (Decode_l1 σ.q (σ.q + 1) f5 f5_c) [(.normal, Pn)]] (kc (by kernel_rfl) (ai (ltI_ff u1) (ai h1 (ai h2 (ai h3 (ai (ai tt (ai (arf (Decode_l1 σ.q (σ.q + 1) f5 f5_c)) hL)) (ai (fun (g' : Nat → Value) (σ' : St) (q : Pn σ') => kn σ' q g') trivial)))))))
theorem Decode_t1xna (h1 : loadA Pg σ 24 ⟨BA, 0, none⟩ = some (.slice qG lH cH)) (h2 : effOp Pg (evL [.pointer (some ⟨BA, 0, none⟩), .slice none 0 0]) σ (.store 24 (.tmp 0) (.tmp 1)) = some (undef, σJ)) (h3 : effOp Pg (evL [.pointer (some ⟨BB, 0, none⟩), iV 0]) σJ (.store 3 (.tmp 0) (.tmp 1)) = some (undef, σK)) (h4 : ShutR ms σK s_end) (h5 : loadA Pg s_end 24 ⟨BA, 0, none⟩ = some (.slice qI lI cI)) (h6 : loadA Pg s_end 3 ⟨BB, 0, none⟩ = some (iV nQ)) (nx : Q (.tuple ⟨[.slice qI lI cI, iV nQ, iV 3]⟩) s_end) (u1 : 60 < ((lH : Nat) : Int) := by omega) : Decode_K1_n BA BB f5 f5_c ms σ Q :=
 fun g => ⟨[.l (.slice qG lH cH), .g, .b true, .e undef σJ, .e undef σK, .g, .l (.slice qI lI cI), .l (iV nQ)], kc (by kernel_rfl) (ai h1 (ai (ltI_tt u1) (ai h2 (ai h3 (wpMarks_of (K := (fun s_end => loadA Pg s_end 24 ⟨BA, 0, none⟩ = some (.slice qI lI cI) ∧ loadA Pg s_end 3 ⟨BB, 0, none⟩ = some (iV nQ) ∧ Q (.tuple ⟨[.slice qI lI cI, iV nQ, iV 3]⟩) s_end)) h4 (ai h5 (ai h6 nx)))))))⟩
theorem Decode_t1xnb (h1 : loadA Pg σ 24 ⟨BA, 0, none⟩ = some (.slice qG lH cH)) (h2 : loadA Pg σ 3 ⟨BB, 0, none⟩ = some (iV nGB)) (h3 : effOp Pg (evL [.pointer (some ⟨BA, 0, none⟩), .slice qG lH cH]) σ (.store 24 (.tmp 0) (.tmp 1)) = some (undef, σK)) (h4 : effOp Pg (evL [.pointer (some ⟨BB, 0, none⟩), iV nGB]) σK (.store 3 (.tmp 0) (.tmp 1)) = some (undef, σFB)) (h5 : belowL σK.q [.pointer (some ⟨BB, 0, none⟩), iV nGB]) (h6 : (((⟨BB, 0, none⟩ : Addr).block < σK.q ∧ goodB RD (iV nGB) = true) ∧ loadA Pg σK 3 ⟨BB, 0, none⟩ = some (iV nGB))) (h7 : ShutR ms σFB s_end) (h8 : loadA Pg s_end 24 ⟨BA, 0, none⟩ = some (.slice qT lT cT)) (h9 : loadA Pg s_end 3 ⟨BB, 0, none⟩ = some (iV nR)) (b_qG : ∀ a, qG = some a → a.block < σ.q) (nx : Q (.tuple ⟨[.slice qT lT cT, iV nR, iV 0]⟩) s_end) (u1 : ¬ 60 < ((lH : Nat) : Int) := by omega) (b_BA : BA < σ.q := by omega) (b_BB : BB < σ.q := by omega) : Decode_K1_n BA BB f5 f5_c ms σ Q :=
 fun g => ⟨[.l (.slice qG lH cH), .g, .b false, .l (.slice qG lH cH), .l (iV nGB), .e undef σK, .e undef σFB, .g, .l (.slice qT lT cT), .l (iV nR)], kc (by kernel_rfl) (ai h1 (ai (ltI_ff u1) (ai h1 (ai h2 (ai h3 (ai h4 (ai ((belowL_cons (belowB_ptr b_BA) belowL_nil) : belowL σ.q [.pointer (some ⟨BA, 0, none⟩)]) (ai ((belowL_cons (belowB_ptr b_BB) belowL_nil) : belowL σ.q [.pointer (some ⟨BB, 0, none⟩)]) (ai ((belowL_cons (belowB_ptr b_BA) (belowL_cons (belowB_sl b_qG) belowL_nil)) : belowL σ.q [.pointer (some ⟨BA, 0, none⟩), .slice qG lH cH]) (ai h5 (ai (⟨⟨b_BB, rfl⟩, h2⟩ : (((⟨BB, 0, none⟩ : Addr).block < σ.q ∧ goodB RD (iV nGB) = true) ∧ loadA Pg σ 3 ⟨BB, 0, none⟩ = some (iV nGB))) (ai h6 (wpMarks_of (K := (fun s_end => loadA Pg s_end 24 ⟨BA, 0, none⟩ = some (.slice qT lT cT) ∧ loadA Pg s_end 3 ⟨BB, 0, none⟩ = some (iV nR) ∧ Q (.tuple ⟨[.slice qT lT cT, iV nR, iV 0]⟩) s_end)) h7 (ai h8 (ai h9 nx)))))))))))))))⟩
end
def dstep (st : List Rec × Int) (i : Nat) (pc : List Int) : List Rec × Int :=
 if pc = [] then st else match (if 0 < i then recP pc else none) with
  | some r => (st.1 ++ [r], st.2)
  | none => (st.1, st.2 + 1)
def dTo (pcs : List (List Int)) : Nat → List Rec × Int
 | 0 => ([], 0)
 | i + 1 => match pcs[i]? with
  | some pc => dstep (dTo pcs i) i pc
  | none => dTo pcs i
theorem dTo_snoc {pcs : List (List Int)} {i : Nat} {pc : List Int} (h : pcs[i]? = some pc) : dTo pcs (i + 1) = dstep (dTo pcs i) i pc := by
 show (match pcs[i]? with | some pc => dstep (dTo pcs i) i pc | none => dTo pcs i) = _
 rw [h]
theorem dTo_bd (pcs : List (List Int)) : ∀ i, 0 ≤ (dTo pcs i).2 ∧ (dTo pcs i).2 ≤ (i : Int) ∧ (dTo pcs i).1.length ≤ i
 | 0 => by simp [dTo]
 | i + 1 => by
  have ih := dTo_bd pcs i
  cases h : pcs[i]? with
  | none => rw [show dTo pcs (i + 1) = dTo pcs i by show (match pcs[i]? with | some pc => dstep (dTo pcs i) i pc | none => dTo pcs i) = _; rw [h]]; omega
  | some pc =>
   rw [dTo_snoc h]
   unfold dstep
   split
   ·omega
   ·cases (if 0 < i then recP pc else none) with
    | none => simp only; omega
    | some r => simp only [List.length_append, List.length_cons, List.length_nil]; omega
theorem splitB_pc : ∀ {bs pc : List Int}, Bts bs → pc ∈ splitB bs → Bts pc ∧ pc.length ≤ bs.length
 | [], pc, _, h => by simp [splitB] at h; subst h; exact ⟨(fun x hx => by cases hx), Nat.le_refl _⟩
 | c :: r, pc, hb, h => by
  rw [splitB] at h
  have key : ∀ p, p ∈ splitB r → Bts p ∧ p.length ≤ r.length := fun p hp => splitB_pc hb.tl hp
  split at h
  ·rcases List.mem_cons.1 h with e | e
   ·subst e; exact ⟨(fun x hx => by cases hx), Nat.zero_le _⟩
   ·have := key pc e; exact ⟨this.1, by simp; omega⟩
  ·have hne := splitB_ne r
   cases hs : splitB r with
   | nil => exact absurd hs hne
   | cons p ps =>
    rw [hs] at h
    rcases List.mem_cons.1 h with e | e
    ·subst e
     have := key p (by rw [hs]; exact List.mem_cons_self)
     refine ⟨fun x hx => ?_, by simp; omega⟩
     rcases List.mem_cons.1 hx with e | e
     ·rw [e]; exact hb c List.mem_cons_self
     ·exact this.1 x e
    ·have := key pc (by rw [hs]; exact List.mem_cons_of_mem _ e)
     exact ⟨this.1, by simp; omega⟩
section
variable {σ τ : St} {bs : List Int} {p : Option Addr} {l c : Nat}
theorem mut_c {σ s : St} {f : FuncId} {args : List Value} {v : Value} (h : ∃ N0, ∀ N, N0 ≤ N → runA Pg N (.func f) args σ.re = some (v, s)) (h1 : σ.q ≤ s.q) (h2 : s.low < σ.q) : CallsA Pg f args σ v ⟨s.heap, s.q, min σ.low s.low⟩ := by
 obtain ⟨N0, hN⟩ := h
 refine ⟨N0, fun N hl => ?_⟩
 unfold callA
 rw [show (⟨σ.heap, σ.q, σ.q⟩ : St) = σ.re from rfl, hN N hl]
 show backA σ v s = _
 unfold backA
 have e1 : (Nat.ble σ.q s.low && rigidB RD v) = false := by
  rw [Bool.and_eq_false_iff]; left
  rw [Bool.eq_false_iff]; intro e; have := (ble_iff _ _).1 e; omega
 have e2 : Nat.ble σ.q s.q = true := (ble_iff _ _).2 h1
 rw [e1, cond_false, e2, cond_true, fN_eq, cond_ble]
theorem pieces_c : ∃ b σ', CallsA Pg 21 [.slice p l c] σ (.func (.func 37) ⟨[]⟩ ⟨[.pointer (some ⟨b, 0, none⟩)]⟩) σ' ∧ New σ σ' ∧ Own σ' b [.slice p l c] 1 ∧ σ.q ≤ b := by
 obtain ⟨v, σ', g1, g2, b, rfl, g3, g4⟩ := RunsQ.new (Q := fun v s => ∃ b, v = .func (.func 37) ⟨[]⟩ ⟨[.pointer (some ⟨b, 0, none⟩)]⟩ ∧ Own s b [.slice p l c] 1 ∧ σ.q ≤ b) (pieces_ra ⟨New.row _ _ _, σ.q, rfl, own_new _ _ _, Nat.le_refl _⟩) (by
  rintro v s s' ⟨b, rfl, h, h'⟩ hle; exact ⟨b, rfl, h.le hle, h'⟩) (by
  rintro v s hr ⟨b, rfl, _⟩
  exact Bool.noConfusion (show false = true from hr))
 exact ⟨b, σ', g1, g2, g3, g4⟩
theorem dec_range {n a1 : Nat} {Pn : St → Prop} (hb : Bts bs) (hl : l ≤ 1000000) (oa : Own τ a1 [.slice p l c] 1) (hB : BS τ p l c bs) (o1 : Own τ n [.slice none 0 0] 1) (o2 : Own τ (n + 1) [iV 0] 1)
    (hpn : ∀ b, AtP p b → n + 1 < b) (hlow : n ≤ τ.low)
    (hQ : ∀ z q d n1, (∀ b, b < n → getB z.heap b = getB τ.heap b) → Own z n [.slice q (dTo (splitB bs) (splitB bs).length).1.length d] 1 → Own z (n + 1) [iV (dTo (splitB bs) (splitB bs).length).2] 1 → τ.q + 2 ≤ n1 → Gr Pg z n1 40 6 q (dTo (splitB bs) (splitB bs).length).1.length d ((dTo (splitB bs) (splitB bs).length).1.map recV) → getB z.heap τ.q = some .defd → τ.q < z.q → n ≤ z.low → Pn z) :
    Decode_R1 n (n + 1) 37 [.pointer (some ⟨a1, 0, none⟩)] τ Pn := by
  refine rangeG_of (fs := [.pointer (some ⟨a1, 0, none⟩)]) (f := 37) (fun g0 => by kernel_rfl) (fun g0 => ?_)
  obtain ⟨pcs, hpcs⟩ : ∃ pcs, pcs = splitB bs := ⟨_, rfl⟩
  rw [← hpcs] at hQ
  have hpl : pcs.length ≤ l + 1 := by rw [hpcs, splitB_len]; have := hB.leng; have : bs.count 126 ≤ bs.length := List.count_le_length; omega
  obtain ⟨L, hL⟩ : ∃ L : LoopState → Blk, L = fun st => Decode_k1 n (n + 1) 37 [.pointer (some ⟨a1, 0, none⟩)] g0 st none τ.q := ⟨_, rfl⟩
  have hn2 := o2.lt
  have ha := oa.lt
  obtain ⟨τa, hτa⟩ : ∃ τa, τa = (τ.add .defd).add (L .ready) := ⟨_, rfl⟩
  have hN : New τ τa := by rw [hτa]; exact (New.add _ _).trans (New.add _ _)
  have nxa : τa.q = τ.q + 2 := by rw [hτa]; rfl
  have Ld : getB τa.heap τ.q = some .defd := by rw [hτa, St.add_get, if_neg (by simp), St.add_get, if_pos rfl]
  have Ll : getB τa.heap (τ.q + 1) = some (L .ready) := by rw [hτa, St.add_get, if_pos (by simp)]
  obtain ⟨t1, ht1⟩ : ∃ t1, t1 = τa.re.row [.int .u8 126] 1 := ⟨_, rfl⟩
  have N1 : New τa.re t1 := by rw [ht1]; exact New.row _ _ _
  have os : Own t1 τa.q [byV 126] 1 := by rw [ht1]; exact own_new _ _ _
  have Na : Le τ τa.re := hN.le.trans (le0 τa)
  obtain ⟨B, vs, c', σ3, k2, n3, oB, vl, hP, hBn⟩ := split_c (d := 1) os.rw ((hB.le Na).le N1.le) hb (by omega)
  rw [← hpcs] at k2 vl hP
  have N3 : New τa.re σ3 := N1.trans n3
  have n31 : τa.q + 1 ≤ B := by
    have e : t1.q = τa.q + 1 := by rw [ht1]; rfl
    omega
  have oBl := oB.lt
  have hlow1 : n ≤ τa.low := hN.low n hlow (by omega)
  let K : Nat → St → Prop := fun j z => ∃ q d, Own z B vs 1 ∧ PcsV z p vs pcs ∧ Own z n [.slice q (dTo pcs j).1.length d] 1 ∧ Own z (n + 1) [iV (dTo pcs j).2] 1 ∧ Gr Pg z σ3.q 40 6 q (dTo pcs j).1.length d ((dTo pcs j).1.map recV) ∧ getB z.heap τ.q = some .defd ∧ getB z.heap (τ.q + 1) = some (L .ready) ∧ σ3.q ≤ z.q ∧ n ≤ z.low ∧ (∀ b, b < n → getB z.heap b = getB τ.heap b) ∧ (dTo pcs j = ([], 0) ∨ z.low ≤ n + 1)
  have LE3 : Le τ σ3 := Na.trans N3.le
  have K0 : K 0 σ3 := ⟨none, 0, oB, hP, o1.le LE3, o2.le LE3, Gr.nil, by rw [N3.le.get _ (by show τ.q < τa.q; omega)]; exact Ld, by rw [N3.le.get _ (by show τ.q + 1 < τa.q; omega)]; exact Ll, Nat.le_refl _, N3.low n (by show n ≤ τa.q; omega) (by show n ≤ τa.q; omega), fun b hb => LE3.get b (by omega), .inl rfl⟩
  have round : ∀ (j : Nat) (z : St) (pc : List Int) (q1 : Option Addr) (l1 c1 : Nat), K j z → pcs[j]? = some pc → pc ≠ [] → BS z q1 l1 c1 pc → (∀ b, AtP q1 b → AtP p b) → ∃ zz, CallsY Pg (τ.q + 1) [.bool (decide (0 < j)), .slice q1 l1 c1] z (.bool true) zz ∧ K (j + 1) zz := by
    rintro j z pc q1 l1 c1 ⟨q, d, kB, kP, k1, k2, kG, kd, kl, kn, kw, ko, kz⟩ hj hne hb1 hat
    have hjl : j < pcs.length := (List.getElem?_eq_some_iff.1 hj).1
    obtain ⟨hbt, hpl2⟩ := splitB_pc hb (hpcs ▸ List.mem_of_getElem? hj)
    have hbl := hB.leng
    have hl1 := hb1.leng
    have bd := dTo_bd pcs j
    obtain ⟨z1, hz1⟩ : ∃ z1, z1 = z.re.put (τ.q + 1) (L .busy) := ⟨_, rfl⟩
    have w1 : Only (· = τ.q + 1) z z1 := by rw [hz1]; exact (Only.re z).trans' (Only.put (S := (· = τ.q + 1)) (.inr rfl)) fun _ _ e => .inl e
    have nx1 : z1.q = z.q := by rw [hz1]; rfl
    have L1 : getB z1.heap (τ.q + 1) = some (L .busy) := by rw [hz1, St.put_get, if_pos rfl]
    have S1 : ∀ b, AtP p b → ¬ (b = τ.q + 1) := fun b hb e => by have := hB.lt b hb; omega
    have p1 : Own z1 n _ 1 := w1.own' k1 (fun e => by have e : n = τ.q + 1 := e; omega)
    have p2 : Own z1 (n + 1) _ 1 := w1.own' k2 (fun e => by have e : n + 1 = τ.q + 1 := e; omega)
    have pB : Own z1 B vs 1 := w1.own' kB (fun e => by have e : B = τ.q + 1 := e; omega)
    have pP : PcsV z1 p vs pcs := fun i x hi => by obtain ⟨v, h1, h2⟩ := kP i x hi; exact ⟨v, h1, h2.only w1 S1⟩
    have pG := kG.only w1 (fun b hb e => by have := (kG.bd hb).1; have e : b = τ.q + 1 := e; omega)
    have pd : getB z1.heap τ.q = some .defd := by rw [w1.get _ (by omega) (by omega)]; exact kd
    have hr := rcrd_c (hb1.only w1 fun b hb => S1 b (hat b hb)) hbt (by omega)
    have fin : ∀ z4 : St, RoundG Pg (τ.q + 1) [.bool (decide (0 < j)), .slice q1 l1 c1] z (Fm 45 (ov (Decode_l1 n (n + 1) 37 [.pointer (some ⟨a1, 0, none⟩)]) g0)) [21, 22] Decode_c1_as Decode_c1_bo τ.q [⟨Unit, .normal, fun _ => [], fun _ => [], fun _ x => x = z4⟩] →
        ∀ (q' : Option Addr) (d' : Nat) (S : Nat → Prop), Only S z1 z4 → (∀ y, S y → y = n ∨ y = n + 1 ∨ σ3.q ≤ y) → z4.low ≤ n + 1 → Own z4 n [.slice q' (dTo pcs (j + 1)).1.length d'] 1 → Own z4 (n + 1) [iV (dTo pcs (j + 1)).2] 1 → Gr Pg z4 σ3.q 40 6 q' (dTo pcs (j + 1)).1.length d' ((dTo pcs (j + 1)).1.map recV) →
        ∃ zz, CallsY Pg (τ.q + 1) [.bool (decide (0 < j)), .slice q1 l1 c1] z (.bool true) zz ∧ K (j + 1) zz := by
      intro z4 hrd q' d' S k hS hlw u1 u2 uG
      have n4 := k.q
      have L4 : getB z4.heap (τ.q + 1) = some (L .busy) := by rw [k.get _ (by omega) (fun h => by have := hS _ h; omega)]; exact L1
      have D4 : getB z4.heap τ.q = some .defd := by rw [k.get _ (by omega) (fun h => by have := hS _ h; omega)]; exact pd
      obtain ⟨e, z', ⟨al, hal, rfl, tt, hq⟩, hc⟩ := hrd
      simp only [In, or_false] at hal
      subst hal
      have hq : z' = z4 := hq
      subst hq
      have hcy := hc (.inl rfl) (by omega) (by rw [L4, hL]; rfl) (by omega)
      have nB : ¬ S B := fun h => by have := hS _ h; omega
      have hlow4 : n ≤ z'.low := k.low n (by rw [hz1]; simp only [St.put_low, re_lw]; omega) (by omega) (fun y _ hy => by have := hS y hy; omega)
      have g : ∀ b, b ≠ τ.q + 1 → getB (⟨(z'.put (τ.q + 1) (endBlk (Fm 45 (ov (Decode_l1 n (n + 1) 37 [.pointer (some ⟨a1, 0, none⟩)]) g0)) [21, 22] Decode_c1_as Decode_c1_bo τ.q .normal)).heap, z'.q, min z.low (min z'.low (τ.q + 1))⟩ : St).heap b = getB z'.heap b := fun b hb => by
        show getB (z'.put _ _).heap b = _
        rw [St.put_get, if_neg hb]
      have w2 : Only (· = τ.q + 1) z' (z'.put (τ.q + 1) (endBlk (Fm 45 (ov (Decode_l1 n (n + 1) 37 [.pointer (some ⟨a1, 0, none⟩)]) g0)) [21, 22] Decode_c1_as Decode_c1_bo τ.q .normal)) := Only.put (.inr rfl)
      have w3 : Le (z'.put (τ.q + 1) (endBlk (Fm 45 (ov (Decode_l1 n (n + 1) 37 [.pointer (some ⟨a1, 0, none⟩)]) g0)) [21, 22] Decode_c1_as Decode_c1_bo τ.q .normal)) ⟨(z'.put (τ.q + 1) (endBlk (Fm 45 (ov (Decode_l1 n (n + 1) 37 [.pointer (some ⟨a1, 0, none⟩)]) g0)) [21, 22] Decode_c1_as Decode_c1_bo τ.q .normal)).heap, z'.q, min z.low (min z'.low (τ.q + 1))⟩ := ⟨Nat.le_refl _, fun _ _ => rfl⟩
      refine ⟨_, hcy, q', d', ?_, fun i x hi => ?_, ?_, ?_, ?_, ?_, ?_, ?_, ?_, fun b hb => ?_, .inr ?_⟩
      · exact (w2.own' (k.own' pB nB) (fun e => by have e : B = τ.q + 1 := e; omega)).le w3
      · obtain ⟨v, h1, h2⟩ := pP i x hi
        exact ⟨v, h1, ((h2.only k fun b hb h => by have := hS _ h; have := hpn b hb; have := hB.lt b hb; omega).only w2 S1).le w3⟩
      · exact (w2.own' u1 (fun e => by have e : n = τ.q + 1 := e; omega)).le w3
      · exact (w2.own' u2 (fun e => by have e : n + 1 = τ.q + 1 := e; omega)).le w3
      · exact (uG.only w2 (fun b hb e => by have := (uG.bd hb).1; have e : b = τ.q + 1 := e; omega)).le w3
      · rw [g _ (by omega)]; exact D4
      · show getB (z'.put _ _).heap _ = _
        rw [St.put_get, if_pos rfl, hL]; rfl
      · show σ3.q ≤ z'.q; omega
      · show n ≤ min _ _; omega
      · rw [g _ (by omega), k.get b (by omega) (fun h => by have := hS _ h; omega), w1.get b (by omega) (by omega)]
        exact ko b hb
      · show min _ _ ≤ _; omega
    have hstep := dTo_snoc hj
    by_cases hgood : 0 < j ∧ (recP pc).isSome = true
    · obtain ⟨r, hrec⟩ := Option.isSome_iff_exists.1 hgood.2
      have e1 : dTo pcs (j + 1) = ((dTo pcs j).1 ++ [r], (dTo pcs j).2) := by rw [hstep, dstep, if_neg hne, if_pos hgood.1, hrec]
      rw [show recA pc = .tuple ⟨[recV r, .bool true]⟩ by simp [recA, hrec]] at hr
      obtain ⟨z2, hz2⟩ : ∃ z2, z2 = (z1.row (recL nilR) 6).own z1.q (recL r) 6 := ⟨_, rfl⟩
      have n2 : New z1 z2 := by rw [hz2]; exact (New.row _ _ _).own (Nat.le_refl _)
      have ld := (p1.le n2.le).rw.ld (P := Pg) agg24 (k := 0) rfl
      obtain ⟨q', d', z3, ga, gG, gO, gA⟩ := grow1 (τ := z2) (recV r) (cs := recL r) appT_rec pG n2.le (elOk_rec r) (by omega) (by omega)
      have hq2 : ∀ b, AtP q b → σ3.q ≤ b := fun b hb => (pG.bd hb).1
      have u1 : Own z3 n [.slice q (dTo pcs j).1.length d] 1 := gO.own' ((p1.le n2.le).le (Le.row _ _ _)) (fun h => by have := hq2 _ h; omega)
      have u2 : Own z3 (n + 1) [iV (dTo pcs j).2] 1 := gO.own' ((p2.le n2.le).le (Le.row _ _ _)) (fun h => by have := hq2 _ h; omega)
      have st := u1.store (P := Pg) (k := 0) (t := 24) (v := .slice q' ((dTo pcs j).1.length + 1) d') (vs := [.slice q' ((dTo pcs j).1.length + 1) d']) rfl size24 rfl (by simp) rfl
      have O3 : Only (AtP q) z1 z3 := (n2.trans (New.row _ _ _)).only.trans' gO fun _ _ e => .inl e
      have O4 : Only (fun y => AtP q y ∨ y = n) z1 (z3.own n [.slice q' ((dTo pcs j).1.length + 1) d'] 1) := (O3.mono (T := fun y => AtP q y ∨ y = n) fun _ _ e => .inl e).trans' (Only.own (S := (· = n)) (.inr rfl)) fun _ _ e => .inl (.inr e)
      have hrd : RoundG Pg (τ.q + 1) [.bool true, .slice q1 l1 c1] z (Fm 45 (ov (Decode_l1 n (n + 1) 37 [.pointer (some ⟨a1, 0, none⟩)]) g0)) [21, 22] Decode_c1_as Decode_c1_bo τ.q [⟨Unit, .normal, fun _ => [], fun _ => [], fun _ x => x = z3.own n [.slice q' ((dTo pcs j).1.length + 1) d'] 1⟩] := by
        subst hz2
        exact Decode_y1a (by rw [kl, hL]) (by rw [hz1, hL]) hr ld ga st rfl
      refine fin _ (by rw [decide_eq_true hgood.1]; exact hrd) q' d' _ O4 (fun y hy => by rcases hy with hy | hy; exact .inr (.inr (hq2 y hy)); exact .inl hy) (by show min _ n ≤ _; omega) ?_ ?_ ?_
      · rw [e1]; simp only [List.length_append, List.length_cons, List.length_nil]; exact u1.put
      · rw [e1]; exact u2.own (by omega)
      · rw [e1]; simp only [List.length_append, List.length_cons, List.length_nil, List.map_append, List.map_cons, List.map_nil]
        have hq3 : ∀ b, AtP q' b → σ3.q ≤ b := fun b hb => (gG.bd hb).1
        exact gG.only (S := (· = n)) (Only.own (.inr rfl)) (fun b hb e => by have := hq3 b hb; have e : b = n := e; omega)
    · have e1 : dTo pcs (j + 1) = ((dTo pcs j).1, (dTo pcs j).2 + 1) := by
        rw [hstep, dstep, if_neg hne]
        by_cases h0 : 0 < j
        · have : recP pc = none := by
            cases hh : recP pc with
            | none => rfl
            | some r => exact absurd ⟨h0, by rw [hh]; rfl⟩ hgood
          rw [if_pos h0, this]
        · rw [if_neg h0]
      obtain ⟨r0, hr0⟩ : ∃ r0, r0 = (recP pc).getD nilR := ⟨_, rfl⟩
      rw [show recA pc = .tuple ⟨[recV r0, .bool (recP pc).isSome]⟩ by rw [hr0]] at hr
      obtain ⟨z2, hz2⟩ : ∃ z2, z2 = (z1.row (recL nilR) 6).own z1.q (recL r0) 6 := ⟨_, rfl⟩
      have n2 : New z1 z2 := by rw [hz2]; exact (New.row _ _ _).own (Nat.le_refl _)
      have u1 := p1.le n2.le
      have u2 := p2.le n2.le
      have ld := u2.rw.ld (P := Pg) agg3 (k := 0) rfl
      have st := u2.store (P := Pg) (k := 0) (t := 3) (v := iV ((dTo pcs j).2 + 1)) (vs := [iV ((dTo pcs j).2 + 1)]) rfl size3 rfl (by simp) rfl
      have O4 : Only (· = n + 1) z1 (z2.own (n + 1) [iV ((dTo pcs j).2 + 1)] 1) := n2.only.trans' (Only.own (S := (· = n + 1)) (.inr rfl)) fun _ _ e => .inl e
      have hrd : RoundG Pg (τ.q + 1) [.bool (decide (0 < j)), .slice q1 l1 c1] z (Fm 45 (ov (Decode_l1 n (n + 1) 37 [.pointer (some ⟨a1, 0, none⟩)]) g0)) [21, 22] Decode_c1_as Decode_c1_bo τ.q [⟨Unit, .normal, fun _ => [], fun _ => [], fun _ x => x = z2.own (n + 1) [iV ((dTo pcs j).2 + 1)] 1⟩] := by
        subst hz2
        by_cases h0 : 0 < j
        · have hf : (recP pc).isSome = false := by
            cases hh : (recP pc).isSome with
            | false => rfl
            | true => exact absurd ⟨h0, hh⟩ hgood
          rw [hf] at hr
          rw [decide_eq_true h0]
          exact Decode_y1b (by rw [kl, hL]) (by rw [hz1, hL]) hr ld st rfl (by omega)
        · rw [decide_eq_false h0]
          exact Decode_y1c (by rw [kl, hL]) (by rw [hz1, hL]) hr ld st rfl (by omega)
      refine fin _ hrd q d _ O4 (fun y hy => .inr (.inl hy)) (by show min _ (n + 1) ≤ _; omega) ?_ ?_ ?_
      · rw [e1]; exact u1.own (by omega)
      · rw [e1]; exact u2.put
      · rw [e1]; exact (pG.le n2.le).only (S := (· = n + 1)) (Only.own (.inr rfl)) (fun b hb e => by have := (pG.bd hb).1; have e : b = n + 1 := e; omega)
  have hrun : RunsQ Pg 37 [.func (.yield (τ.q + 1)) ⟨[]⟩ ⟨[]⟩, .pointer (some ⟨a1, 0, none⟩)] τa.re fun v s => v = .tuple ⟨[]⟩ ∧ K pcs.length s := by
    have ld := (oa.le Na).rw.ld (P := Pg) agg22 (k := 0) rfl
    subst ht1
    refine pcs1_ra ld k2 (Pr := fun _ => False) (P0 := fun z => K pcs.length z) ?_ (fun _ h => h.elim) (fun z h => pcs1_t1x0a ⟨rfl, h⟩)
    refine pcs1_loop1 (Inv := fun k i z => ∃ j : Nat, i = (j : Int) ∧ j + k = pcs.length ∧ K j z) ?_ pcs.length 0 σ3 ⟨0, rfl, by omega, K0⟩
    rintro k i z ⟨j, rfl, hk, hK⟩
    by_cases hj : j < pcs.length
    rotate_left
    · have : j = pcs.length := by omega
      subst this
      exact pcs1_s1f hK (by omega)
    obtain ⟨pc, hpc⟩ : ∃ pc, pcs[j]? = some pc := ⟨pcs[j], by simp [hj]⟩
    obtain ⟨q, d, kB, kP, krest⟩ := id hK
    obtain ⟨v, hv, q1, l1, c1, rfl, hb1, hat⟩ := kP j pc hpc
    have hl1 := hb1.leng
    have ld : loadA Pg z 22 (aadd ⟨B, 0, none⟩ (Int.toNat (j : Int) * 1)) = some (.slice q1 l1 c1) := kB.rw.load1 agg22 (by simpa using hv)
    by_cases he : pc = []
    · subst he
      have hs : dTo pcs (j + 1) = dTo pcs j := by rw [dTo_snoc hpc, dstep, if_pos rfl]
      have hK' : K (j + 1) z := by
        obtain ⟨k1, k2, kG, kr⟩ := krest
        exact ⟨q, d, kB, kP, by rw [hs]; exact k1, by rw [hs]; exact k2, by rw [hs]; exact kG, by rw [hs]; exact kr⟩
      simp at hl1
      exact pcs1_s1e ld ⟨k - 1, by omega, j + 1, by omega, by omega, hK'⟩ (by omega) (by omega) (by omega) (by omega)
    · obtain ⟨zz, hy, hK'⟩ := round j z pc q1 l1 c1 hK hpc he hb1 hat
      have hpos : 0 < l1 := by have := List.length_pos_iff.2 he; omega
      by_cases h0 : 0 < j
      · rw [decide_eq_true h0] at hy
        exact pcs1_s1a ld hy ⟨k - 1, by omega, j + 1, by omega, by omega, hK'⟩ (by omega) (by omega) (by omega) (by omega) (by omega)
      · rw [decide_eq_false h0] at hy
        exact pcs1_s1c ld hy ⟨k - 1, by omega, j + 1, by omega, by omega, hK'⟩ (by omega) (by omega) (by omega) (by omega) (by omega)
  obtain ⟨v, s, h1, rfl, q, d, kB, kP, k1, k2, kG, kd, kl, kn, kw, ko, kz⟩ := hrun
  have n3nx : τa.q ≤ σ3.q := N3.nx
  have eτ : (τ.add .defd).add (.loop (Fm 45 (ov (Decode_l1 n (n + 1) 37 [.pointer (some ⟨a1, 0, none⟩)]) g0)) (⟨[21, 22]⟩ : Array Tmp).toList Decode_c1_as Decode_c1_bo .ready none τ.q) = τa := by rw [hτa, hL]; rfl
  rw [eτ]
  have w2 : ∀ z : St, Only (· = τ.q + 1) z (z.put (τ.q + 1) (.loop (Fm 45 (ov (Decode_l1 n (n + 1) 37 [.pointer (some ⟨a1, 0, none⟩)]) g0)) (⟨[21, 22]⟩ : Array Tmp).toList Decode_c1_as Decode_c1_bo .exhausted none τ.q)) := fun z => Only.put (.inr rfl)
  by_cases hlw : s.low ≤ n + 1
  · have hle : Le s ⟨s.heap, s.q, min τa.low s.low⟩ := ⟨Nat.le_refl _, fun _ _ => rfl⟩
    refine ⟨_, ⟨s.heap, s.q, min τa.low s.low⟩, .ready, none, mut_c h1 (by omega) (by omega), by rw [kl, hL]; rfl, .inl ⟨rfl, rfl⟩, .inl ⟨rfl, ?_⟩⟩
    have w := w2 ⟨s.heap, s.q, min τa.low s.low⟩
    refine hQ _ q d σ3.q (fun b hb => (w.get b (by show b < s.q; omega) (by omega)).trans (ko b hb)) (w.own' (k1.le hle) (fun e => by have e : n = τ.q + 1 := e; omega)) (w.own' (k2.le hle) (fun e => by have e : n + 1 = τ.q + 1 := e; omega)) (by omega) ((kG.le hle).only w (fun b hb e => by have := (kG.bd hb).1; have e : b = τ.q + 1 := e; omega)) ((w.get τ.q (by show τ.q < s.q; omega) (by omega)).trans kd) (by show τ.q < s.q; omega) (by show n ≤ min (min _ _) _; omega)
  · have kz := kz.resolve_right hlw
    by_cases hl2 : τa.q ≤ s.low
    · refine ⟨_, τa, .ready, none, pure_c h1 hl2 rfl, by rw [Ll, hL]; rfl, .inl ⟨rfl, rfl⟩, .inl ⟨rfl, ?_⟩⟩
      have w := w2 τa
      refine hQ _ none 0 σ3.q (fun b hb => (w.get b (by omega) (by omega)).trans (hN.le.get b (by omega))) ?_ ?_ (by omega) ?_ ((w.get τ.q (by omega) (by omega)).trans Ld) (by show τ.q < τa.q; omega) (by show n ≤ min _ _; omega)
      · rw [kz]; exact w.own' (o1.le hN.le) (fun e => by have e : n = τ.q + 1 := e; omega)
      · rw [kz]; exact w.own' (o2.le hN.le) (fun e => by have e : n + 1 = τ.q + 1 := e; omega)
      · rw [kz]; exact Gr.nil
    · have hle : Le s ⟨s.heap, s.q, min τa.low s.low⟩ := ⟨Nat.le_refl _, fun _ _ => rfl⟩
      refine ⟨_, ⟨s.heap, s.q, min τa.low s.low⟩, .ready, none, mut_c h1 (by omega) (by omega), by rw [kl, hL]; rfl, .inl ⟨rfl, rfl⟩, .inl ⟨rfl, ?_⟩⟩
      have w := w2 ⟨s.heap, s.q, min τa.low s.low⟩
      refine hQ _ q d σ3.q (fun b hb => (w.get b (by show b < s.q; omega) (by omega)).trans (ko b hb)) (w.own' (k1.le hle) (fun e => by have e : n = τ.q + 1 := e; omega)) (w.own' (k2.le hle) (fun e => by have e : n + 1 = τ.q + 1 := e; omega)) (by omega) ((kG.le hle).only w (fun b hb e => by have := (kG.bd hb).1; have e : b = τ.q + 1 := e; omega)) ((w.get τ.q (by show τ.q < s.q; omega) (by omega)).trans kd) (by show τ.q < s.q; omega) (by show n ≤ min (min _ _) _; omega)
end
def decL (bs : List Int) : List Rec × Int := dTo (splitB bs) (splitB bs).length
section
variable {σ τ : St} {bs : List Int} {p : Option Addr} {l c : Nat}
theorem copy_bytes {q : Nat} {cs : List Value} (o : Own σ q cs 1) (hc : cs.length = l) (h : BytesP σ p l bs) : ∃ σ', effOp Pg (evL [.slice (some ⟨q, 0, none⟩) l l, .slice p l c]) σ (.call { callee := .builtin .copy, args := ⟨tmpsTo 2⟩, argTypes := ⟨[22, 22]⟩ }) = some (iV (l : Int), σ') ∧ Own σ' q (bs.map byV) 1 ∧ Only (· = q) σ σ' := by
 have hl := BytesP.len h
 have he : elemOfSlice Pg 22 = some (5, 1) := by kernel_rfl
 have e0 : ∀ l : List Value, evL l (.tmp 0) = l.getD 0 undef := fun _ => rfl
 have e1 : ∀ l : List Value, evL l (.tmp 1) = l.getD 1 undef := fun _ => rfl
 have hmin : Nat.min l l = l := Nat.min_self l
 have hsrc : srcCells σ 1 (.slice p l 0) = some (l, bs.map byV) := by
  cases p with
  | none =>
   have h0 : l = 0 := h.1.2
   subst h0
   have : bs = [] := List.eq_nil_of_length_eq_zero hl
   subst this
   rfl
  | some a =>
   have hr : Row σ a (flat (bs.map byV)) := h.1.2
   rw [flatB] at hr
   have hrd := hr.rd
   rw [List.length_map, hl] at hrd
   simp only [srcCells, Nat.mul_one, hrd, Option.map_some]
 by_cases h0 : l = 0
 ·subst h0
  have hb : bs = [] := List.eq_nil_of_length_eq_zero hl
  have hcs : cs = [] := List.eq_nil_of_length_eq_zero hc
  subst hb hcs
  refine ⟨σ, ?_, o, Only.refl _ _⟩
  unfold effOp
  simp only [show tmpsTo 2 = [.tmp 0, .tmp 1] from rfl, List.map_cons, List.map_nil, e0, e1, List.getD_cons_zero, List.getD_cons_succ, he, hmin, hsrc]
  rfl
 ·have hw : writeRow σ ⟨q, 0, none⟩ (bs.map byV) = some (σ.own q (bs.map byV) 1) := by
   have h2 : (Nat.beq 0 0 && Nat.ble (0 + (bs.map byV).length) cs.length && !false && (bs.map byV).all cellB) = true := by
    rw [cellsB, (ble_iff _ _).2 (by simp; omega)]; rfl
   unfold writeRow
   simp only [o.get, stampOf, Option.getD_none, h2, cond_true, fVs_eq, St.write_eq]
   unfold St.own
   have hd : cs.drop (0 + (bs.map byV).length) = [] := List.drop_eq_nil_of_le (by simp; omega)
   rw [hd]
   simp only [List.take_zero, List.nil_append, List.append_nil]
   rw [show (bs.map byV).length = cs.length by simp; omega]
  have hb : Nat.beq l 0 = false := by rw [Bool.eq_false_iff]; intro e; exact h0 (Nat.eq_of_beq_eq_true e)
  refine ⟨σ.own q (bs.map byV) 1, ?_, o.put, Only.own (.inr rfl)⟩
  unfold effOp
  simp only [show tmpsTo 2 = [.tmp 0, .tmp 1] from rfl, List.map_cons, List.map_nil, e0, e1, List.getD_cons_zero, List.getD_cons_succ, he, hmin, hsrc, hb, cond_false, hw]
  rfl
theorem own_bs {q : Nat} (o : Own σ q (bs.map byV) 1) (hl : bs.length = l) (hb : l ≤ 1073741824) : BS σ (some ⟨q, 0, none⟩) l l bs :=
 bs_of o.rw hl (by simp [eszOk, o.get, stampOf, extOf]) (by rw [capLow_ex (ex_small hb)]; exact Nat.le_refl _)
theorem Decode_c (h : BytesP σ p l bs) (hb : Bts bs) (hl : l ≤ 1000000) :
  ((5000 < l ∨ 60 < (decL bs).1.length) ∧ CallsA Pg 8 [.slice p l c] σ (.tuple ⟨[.slice none 0 0, iV 0, iV 3]⟩) σ) ∨
  (l ≤ 5000 ∧ (decL bs).1.length ≤ 60 ∧ ∃ q d σ', CallsA Pg 8 [.slice p l c] σ (.tuple ⟨[.slice q (decL bs).1.length d, iV (decL bs).2, iV 0]⟩) σ' ∧ New σ σ' ∧ RecsP σ' 40 q (decL bs).1.length (decL bs).1 ∧ ∀ b, AtP q b → σ.q ≤ b) := by
 have hbl := BytesP.len h
 have N0 : New σ.re ((σ.re.row [.slice none 0 0] 1).row [iV 0] 1) := (New.row _ _ _).row'
 have o1 : Own ((σ.re.row [.slice none 0 0] 1).row [iV 0] 1) σ.q [.slice none 0 0] 1 := (own_new _ _ _).row
 have o2 : Own ((σ.re.row [.slice none 0 0] 1).row [iV 0] 1) (σ.q + 1) [iV 0] 1 := own_new _ _ _
 by_cases h5 : 5000 < l
 ·refine .inl ⟨.inl h5, RunsQ.pure (Decode_ra ⟨rfl, ?_⟩ (by omega))⟩
  show σ.q ≤ min (min σ.q σ.q) (σ.q + 1)
  omega
 have mk := make_sl (P := Pg) (σ := (σ.re.row [.slice none 0 0] 1).row [iV 0] 1) (st := 22) (e := 5) (z := .int .u8 0) (n := 1) (by kernel_rfl) (by kernel_rfl) (len := l) (by omega)
 obtain ⟨s1, hs1⟩ : ∃ s1, s1 = ((σ.re.row [.slice none 0 0] 1).row [iV 0] 1).row (zerosA [.int .u8 0] l) 1 := ⟨_, rfl⟩
 have N1 : New σ.re s1 := by rw [hs1]; exact N0.row'
 have n1 : New ((σ.re.row [.slice none 0 0] 1).row [iV 0] 1) s1 := by rw [hs1]; exact New.row _ _ _
 have o3 : Own s1 (σ.q + 2) (zerosA [.int .u8 0] l) 1 := by rw [hs1]; exact own_new _ _ _
 obtain ⟨s3, kc, oc, wc⟩ := copy_bytes (c := c) o3 (by rw [zerosA_len]; simp) ((SlV.le h (le0 σ)).le N1.le)
 have N3 : New σ.re s3 := N1.of_only wc fun b hb => by have hb : b = σ.q + 2 := hb; show σ.q ≤ b; omega
 have w1 : Own s3 σ.q [.slice none 0 0] 1 := wc.own' (o1.le n1.le) (fun e => by have e : σ.q = σ.q + 2 := e; omega)
 have w2 : Own s3 (σ.q + 1) [iV 0] 1 := wc.own' (o2.le n1.le) (fun e => by have e : σ.q + 1 = σ.q + 2 := e; omega)
 obtain ⟨b, s6, k6, n6, ob, hb6⟩ := pieces_c (σ := s3) (p := some ⟨σ.q + 2, 0, none⟩) (l := l) (c := l)
 have N6 := N3.trans n6
 have bd := dTo_bd (splitB bs) (splitB bs).length
 have hR := dec_range (n := σ.q) (a1 := b) (τ := s6) (p := some ⟨σ.q + 2, 0, none⟩) (l := l) (c := l) (bs := bs)
  (Pn := fun z => ∃ q d n1, (∀ b, b < σ.q → getB z.heap b = getB σ.heap b) ∧ Own z σ.q [.slice q (decL bs).1.length d] 1 ∧ Own z (σ.q + 1) [iV (decL bs).2] 1 ∧ s6.q + 2 ≤ n1 ∧ Gr Pg z n1 40 6 q (decL bs).1.length d ((decL bs).1.map recV) ∧ getB z.heap s6.q = some .defd ∧ s6.q < z.q ∧ σ.q ≤ z.low)
  hb (by omega) ob ((own_bs oc hbl (by omega)).le n6.le) (w1.le n6.le) (w2.le n6.le) (by rintro k ⟨_, e, rfl⟩; cases e; show σ.q + 1 < σ.q + 2; omega) N6.lw
  (fun z q d n1 g0 g1 g2 g3 g4 g5 g6 g7 => ⟨q, d, n1, fun b hb => (g0 b hb).trans (N6.le.get b hb), g1, g2, g3, g4, g5, g6, g7⟩)
 have hs6 : σ.q + 2 ≤ s6.q := by have h1 := (oc.le n6.le).lt; omega
 have key : RunsQ Pg 8 [.slice p l c] σ.re fun v s => New σ.re s ∧ ((60 < (decL bs).1.length ∧ v = .tuple ⟨[.slice none 0 0, iV 0, iV 3]⟩) ∨ ((decL bs).1.length ≤ 60 ∧ ∃ q d, v = .tuple ⟨[.slice q (decL bs).1.length d, iV (decL bs).2, iV 0]⟩ ∧ RecsP s 40 q (decL bs).1.length (decL bs).1 ∧ ∀ b, AtP q b → σ.q ≤ b)) := by
  subst hs1
  refine Decode_rb mk kc k6 hR ?_ (by omega)
  rintro z ⟨q, d, n1, g0, g1, g2, g3, g4, g5, g6, g7⟩
  have l1 := g1.rw.ld (P := Pg) agg24 (k := 0) rfl
  have l2 := g2.rw.ld (P := Pg) agg3 (k := 0) rfl
  have tail : ∀ (v1 : Value) (m : Int), ∃ s, ShutR [s6.q] ((z.own σ.q [v1] 1).own (σ.q + 1) [iV m] 1) s ∧ Own s σ.q [v1] 1 ∧ Own s (σ.q + 1) [iV m] 1 ∧ New σ.re s ∧ ∀ q d n1, s6.q + 2 ≤ n1 → Gr Pg z n1 40 6 q (decL bs).1.length d ((decL bs).1.map recV) → RecsP s 40 q (decL bs).1.length (decL bs).1 := by
   intro v1 m
   have kk : Only (fun y => y = σ.q ∨ y = σ.q + 1) z ((z.own σ.q [v1] 1).own (σ.q + 1) [iV m] 1) := ((Only.own (S := (· = σ.q)) (.inr rfl)).mono (T := fun y => y = σ.q ∨ y = σ.q + 1) fun b _ e => .inl e).trans' (Only.own (S := (· = σ.q + 1)) (.inr rfl)) (fun b _ e => .inl (.inr e))
   have q1 := (g1.put (ds := [v1])).own (ds := [iV m]) (m := 1) (c := σ.q + 1) (by omega)
   have q2 := (g2.own (ds := [v1]) (m := 1) (c := σ.q) (by omega)).put (ds := [iV m])
   obtain ⟨z8, hz8⟩ : ∃ z8, z8 = (z.own σ.q [v1] 1).own (σ.q + 1) [iV m] 1 := ⟨_, rfl⟩
   have g1 : Own z8 σ.q [v1] 1 := by
    rw [hz8]
    refine ⟨?_, q1.lt⟩
    have := q1.get
    simpa using this
   have g2 : Own z8 (σ.q + 1) [iV m] 1 := by rw [hz8]; exact q2
   rw [← hz8] at kk ⊢
   have hd : getB z8.heap s6.q = some .defd := (kk.get _ g6 (by omega)).trans g5
   obtain ⟨s, m1, m2, m3, m4⟩ := shut_all (ms := [s6.q]) (σ := z8) (by intro d hd'; simp at hd'; rw [hd']; exact hd) (by simp)
   have n8 : z8.q = z.q := by rw [hz8]; rfl
   have lo8 : σ.q ≤ z8.low := by rw [hz8]; show σ.q ≤ min (min _ _) _; omega
   refine ⟨s, m1, ⟨(m3 _ (by simp; omega)).trans g1.get, by rw [m2]; exact g1.lt⟩, ⟨(m3 _ (by simp; omega)).trans g2.get, by rw [m2]; exact g2.lt⟩, ⟨⟨by show σ.q ≤ s.q; omega, fun b hb => ?_⟩, fun k e1 e2 => ?_⟩, fun q d n1 hn1 hG => ?_⟩
   ·have hb : b < σ.q := hb
    exact (m3 b (by simp; omega)).trans ((kk.get b (by omega) (by omega)).trans (g0 b hb))
   ·have e2 : k ≤ σ.q := e2
    have := m4 σ.q lo8 (by intro d hd'; simp at hd'; omega)
    omega
   ·have hh : SlV Pg z8 40 6 q (decL bs).1.length ((decL bs).1.map recV) := (hG.only kk (fun b hb e => by have := (hG.bd hb).1; omega)).slv
    refine ⟨⟨hh.1.1, ?_⟩, hh.2⟩
    cases q with
    | none => exact hh.1.2
    | some a =>
     have hrow : Row z8 a (flat ((decL bs).1.map recV)) := hh.1.2
     have hab := (hG.bd ⟨a, rfl, rfl⟩).1
     refine ⟨?_, by rw [m2]; exact hrow.lt⟩
     have hrd := hrow.rd
     unfold readRow at hrd ⊢
     rw [m3 _ (by simp; omega)]; exact hrd
  by_cases h60 : 60 < (decL bs).1.length
  ·have st1 := g1.store (P := Pg) (k := 0) (t := 24) (v := .slice none 0 0) (vs := [.slice none 0 0]) (ds := [.slice none 0 0]) rfl size24 rfl (by simp) rfl
   have p2 := g2.own (ds := [.slice none 0 0]) (m := 1) (c := σ.q) (by omega)
   have st2 := p2.store (P := Pg) (k := 0) (t := 3) (v := iV 0) (vs := [iV 0]) (ds := [iV 0]) rfl size3 rfl (by simp) rfl
   obtain ⟨s, m1, u1, u2, hN, _⟩ := tail (.slice none 0 0) 0
   exact Decode_t1xna l1 st1 st2 m1 (u1.rw.ld agg24 (k := 0) rfl) (u2.rw.ld agg3 (k := 0) rfl) ⟨hN, .inl ⟨h60, rfl⟩⟩ (by omega)
  ·have st1 := g1.store (P := Pg) (k := 0) (t := 24) (v := .slice q (decL bs).1.length d) (vs := [.slice q (decL bs).1.length d]) (ds := [.slice q (decL bs).1.length d]) rfl size24 rfl (by simp) rfl
   have p2 := g2.own (ds := [.slice q (decL bs).1.length d]) (m := 1) (c := σ.q) (by omega)
   have st2 := p2.store (P := Pg) (k := 0) (t := 3) (v := iV (decL bs).2) (vs := [iV (decL bs).2]) (ds := [iV (decL bs).2]) rfl size3 rfl (by simp) rfl
   obtain ⟨s, m1, u1, u2, hN, hG⟩ := tail (.slice q (decL bs).1.length d) (decL bs).2
   have hlt : ∀ a, q = some a → a.block < z.q := fun a e => (g4.bd ⟨a, e, rfl⟩).2
   have hge : ∀ b, AtP q b → σ.q ≤ b := fun b hb => by have := (g4.bd hb).1; omega
   exact Decode_t1xnb l1 l2 st1 st2 (belowL_cons (belowB_ptr p2.lt) (belowL_cons (belowB_rig rfl) belowL_nil)) ⟨⟨p2.lt, rfl⟩, p2.rw.ld agg3 (k := 0) rfl⟩ m1 (u1.rw.ld agg24 (k := 0) rfl) (u2.rw.ld agg3 (k := 0) rfl) hlt ⟨hN, .inr ⟨by omega, q, d, rfl, hG q d n1 g3 g4, hge⟩⟩ (by omega) g1.lt g2.lt
 by_cases h60 : 60 < (decL bs).1.length
 ·refine .inl ⟨.inr h60, RunsQ.pure (key.mono ?_)⟩
  rintro v s ⟨hN, ⟨_, e⟩ | ⟨e, _⟩⟩
  ·exact ⟨e, hN.lw⟩
  ·omega
 ·refine .inr ⟨by omega, by omega, ?_⟩
  obtain ⟨v, σ', e1, e2, q, d, rfl, e3, e4⟩ := RunsQ.new (Q := fun v s => ∃ q d, v = .tuple ⟨[.slice q (decL bs).1.length d, iV (decL bs).2, iV 0]⟩ ∧ RecsP s 40 q (decL bs).1.length (decL bs).1 ∧ ∀ b, AtP q b → σ.q ≤ b) (key.mono (by
   rintro v s ⟨hN, ⟨e, _⟩ | ⟨_, e⟩⟩
   ·omega
   ·exact ⟨hN, e⟩)) (by
   rintro v s s' ⟨q, d, rfl, g, g'⟩ hle; exact ⟨q, d, rfl, SlV.le g hle, g'⟩) (by
   rintro v s hr ⟨q, d, rfl, g, g'⟩
   refine ⟨q, d, rfl, ?_, g'⟩
   cases q with
   | none => exact slv_none g
   | some a => exact Bool.noConfusion (show false = true from hr))
  exact ⟨q, d, σ', e1, e2, e3, e4⟩
end
section
variable {σ : St}
theorem rBytes_c {n : Nat} (hn : n ≤ 1000000000) : ∃ p c σ', CallsA Tryd.prog 79 [iV (n : Int)] σ (.slice p (numB n).length c) σ' ∧ New σ σ' ∧ BytesP σ' p (numB n).length (numB n) ∧ ∀ b, AtP p b → σ.q ≤ b := by
 have e128 : (128 : Nat) ^ 5 = 34359738368 := by decide
 have hlen : (numB n).length ≤ 5 := numB_len 5 n (by omega) (by omega)
 refine RunsQ.newSl (rBytes_ra (P0 := fun i p l c τ => ∃ (m : Nat) (pre : List Int), i = (m : Int) ∧ m ≤ 127 ∧ l = pre.length ∧ pre ++ numB m = numB n ∧ New σ.re τ ∧ Gr Tryd.prog τ σ.q 5 1 p l c (pre.map byV))
  (rBytes_loop1 (Inv := fun k i p l c τ => ∃ pre : List Int, i = (k : Int) ∧ k ≤ 1000000000 ∧ l = pre.length ∧ pre ++ numB k = numB n ∧ New σ.re τ ∧ Gr Tryd.prog τ σ.q 5 1 p l c (pre.map byV)) ?_ n _ none 0 0 σ.re ⟨[], rfl, hn, rfl, rfl, New.refl _, Gr.nil⟩) ?_)
 ·rintro k i p l c τ ⟨pre, rfl, hk, rfl, hp, hN, hg⟩
  have hpl : pre.length ≤ 5 := by
   have := congrArg List.length hp
   simp at this; omega
  by_cases h : k ≤ 127
  ·exact rBytes_s1b ⟨k, pre, rfl, h, rfl, hp, hN, hg⟩ (by omega)
  have et : Int.tmod (k : Int) 128 = ((k % 128 : Nat) : Int) := by rw [Int.tmod_eq_emod_of_nonneg (by omega)]; omega
  have e1 : wrapK .u8 (128 + Int.tmod (k : Int) 128) = ((k % 128 + 128 : Nat) : Int) := by
   rw [wrap8, et]; omega
  have e4 : Int.tdiv (k : Int) 128 = ((k / 128 : Nat) : Int) := by
   rw [Int.tdiv_eq_ediv_of_nonneg (by omega)]; omega
  have e3 : IntKind.wrap .i64 (Int.tdiv (k : Int) 128) = Int.tdiv (k : Int) 128 := by
   rw [← wrapK_eq, e4, wrap64 (by omega) (by omega)]
  obtain ⟨p', c', τ', g1, g2, g3⟩ := byte_push ((k % 128 + 128 : Nat) : Int) hg hN.nx (by omega)
  have N2 : New σ.re τ' := (hN.row').of_only g3 (fun b hb => (hg.bd hb).1)
  refine rBytes_s1a e1 g1 e3 ⟨k / 128, by omega, pre ++ [((k % 128 + 128 : Nat) : Int)], e4, by omega, by simp, ?_, N2, g2⟩ (by omega) (by rw [et]; omega)
  rw [← hp, numB_big (n := k) (by omega)]; simp
 ·rintro i p l c τ ⟨m, pre, rfl, hm, rfl, hp, hN, hg⟩
  have hpl : pre.length ≤ 5 := by
   have := congrArg List.length hp
   simp at this; omega
  have e1 : wrapK .u8 (m : Int) = (m : Int) := by rw [wrap8]; omega
  obtain ⟨p', c', τ', g1, g2, g3⟩ := byte_push (m : Int) hg hN.nx (by omega)
  have N2 : New σ.re τ' := (hN.row').of_only g3 (fun b hb => (hg.bd hb).1)
  have e : numB n = pre ++ [(m : Int)] := by rw [← hp, numB_small hm]
  exact rBytes_t1x0a e1 g1 ⟨N2, p', c', by rw [e]; simp, by rw [e]; simpa using g2.slv, fun b hb => (g2.bd hb).1⟩
theorem AxB.nil {τ : St} {n0 : Nat} : AxB τ n0 none ([] : List Int).length 0 [] := Ax.nil
theorem rBody_c {x : Rec} (h : rightB x = true) : ∃ p c σ', CallsA Tryd.prog 67 [recV x] σ (.slice p (bodyB x).length c) σ' ∧ New σ σ' ∧ BytesP σ' p (bodyB x).length (bodyB x) ∧ ∀ b, AtP p b → σ.q ≤ b := by
 have hb := rightB_iff h
 have h24 := body_len h
 have N1 : New σ.re ((σ.re.row (recL x) 6).row (ints6 x.m x.s x.t x.k x.a x.b) 1) := (New.row _ _ _).row'
 have o1 : Own ((σ.re.row (recL x) 6).row (ints6 x.m x.s x.t x.k x.a x.b) 1) (σ.q + 1) ((fieldsL x).map intV) 1 := own_new _ _ _
 refine RunsQ.newSl (rBody_ra (P0 := fun p l c τ => l = (bodyB x).length ∧ New σ.re τ ∧ AxB τ σ.q p l c (bodyB x))
  (rBody_loop1 (Inv := fun k p l c i τ => ∃ s : Nat, i = s ∧ s + k = 6 ∧ l = (((fieldsL x).take s).flatMap numI).length ∧ New σ.re τ ∧ Own τ (σ.q + 1) ((fieldsL x).map intV) 1 ∧ (∀ b, AtP p b → σ.q + 2 ≤ b) ∧ AxB τ σ.q p l c (((fieldsL x).take s).flatMap numI)) ?_ 6 none 0 0 0 _ ⟨0, rfl, rfl, rfl, N1, o1, fun b hb => (AtP.none hb).elim, AxB.nil⟩)
  (by rintro p l c τ ⟨rfl, hN, ha⟩; exact rBody_t1x0a ⟨hN, p, c, rfl, ha.bytes, fun b hb => (ha.bd b hb).1⟩) (by omega))
 rintro k p l c i τ ⟨s, rfl, hk, rfl, hN, ho, hpb, ha⟩
 by_cases hs : s < 6
 rotate_left
 ·have : s = 6 := by omega
  subst this
  exact rBody_s1b ⟨rfl, hN, ha⟩ (by omega)
 have hs' : s < (fieldsL x).length := hs
 obtain ⟨n, hn⟩ : ∃ n, (fieldsL x)[s]? = some n := ⟨(fieldsL x)[s], by simp [hs']⟩
 have hnb := field_bd h (List.mem_of_getElem? hn)
 have hln := bodyTo_len h s
 have hnl := numI_len (n := n) (by omega)
 have ld := ho.ldI (P := Tryd.prog) (t := 3) (i := s) (v := intV n) agg3 (by rw [List.getElem?_map, hn]; rfl)
 obtain ⟨q, d, τ1, k1, n1, b1, _⟩ := rBytes_c (σ := τ) (n := n.toNat) (by omega)
 rw [show ((n.toNat : Nat) : Int) = n by omega] at k1
 have hnx : σ.q + 2 ≤ τ.q := by have := ho.lt; omega
 obtain ⟨p', c', τ2, g1, g2, g3, g4⟩ := AxB.push (d := d) (ha.le n1.le) (show BytesP τ1 q (numI n).length (numI n) from b1) (by omega) (by have := n1.le.q; omega)
 have e : ((fieldsL x).take (s + 1)).flatMap numI = ((fieldsL x).take s).flatMap numI ++ numI n := by rw [take_snoc hn, List.flatMap_append]; simp
 refine rBody_s1a ld k1 g1 ⟨k - 1, by omega, s + 1, by omega, by omega, by rw [e], (hN.trans n1).of_only g3 (fun b hb => (ha.bd b hb).1), g3.own' (ho.le n1.le) (fun hb => by have := hpb _ hb; omega), fun b hb => ?_, by rw [e]; exact g2⟩ (by omega)
 rcases g4 b hb with g | g
 ·exact hpb b g
 ·have := n1.le.q; omega
theorem rContent_c {x : Rec} (h : rightB x = true) : ∃ p c σ', CallsA Tryd.prog 49 [recV x] σ (.slice p (contentB x).length c) σ' ∧ New σ σ' ∧ BytesP σ' p (contentB x).length (contentB x) ∧ ∀ b, AtP p b → σ.q ≤ b := by
 have h24 := body_len h
 have hcl : (countedB x).length ≤ 25 := by simp [countedB]; omega
 have N1 : New σ.re (σ.re.row (recL x) 6) := New.row _ _ _
 obtain ⟨p1, c1, σ2, k1, n1, b1, f1⟩ := rBody_c (σ := σ.re.row (recL x) 6) h
 have n2 : New σ2 (σ2.row [byV (((bodyB x).length : Int) % 256)] 1) := New.row _ _ _
 have o2 : Own (σ2.row [byV (((bodyB x).length : Int) % 256)] 1) σ2.q [byV (((bodyB x).length : Int) % 256)] 1 := own_new _ _ _
 have nx2 : σ.q + 1 ≤ σ2.q := n1.nx
 have a2 : AxB (σ2.row [byV (((bodyB x).length : Int) % 256)] 1) σ.q (some ⟨σ2.q, 0, none⟩) [((bodyB x).length : Int) % 256].length 1 [((bodyB x).length : Int) % 256] := Ax.lit o2 rfl (ex_small (by simp)) (by omega)
 obtain ⟨p5, c5, σ4, g1, g2, g3, g4⟩ := AxB.push (d := c1) a2 (SlV.le b1 n2.le) (by simp; omega) (by show σ.q ≤ σ2.q + 1; omega)
 have e1 : [((bodyB x).length : Int) % 256] ++ bodyB x = countedB x := rfl
 rw [e1] at g1 g2
 have N4 : New σ.re σ4 := (((N1.trans n1)).row').of_only g3 (fun b hb => by obtain ⟨a, e, rfl⟩ := hb; cases e; show σ.q ≤ σ2.q; omega)
 refine RunsQ.newSl (rContent_ra k1 (wrap8 _) g1 (P0 := fun u v τ => τ = σ4 ∧ (u, v) = chk (countedB x)) (rContent_loop1 (Inv := fun k u v i τ => ∃ s : Nat, i = s ∧ s + k = (countedB x).length ∧ τ = σ4 ∧ (u, v) = chk ((countedB x).take s)) ?_ (countedB x).length 0 0 0 σ4 ⟨0, rfl, by omega, rfl, rfl⟩) ?_)
 ·rintro k u v i τ ⟨s, rfl, hk, rfl, huv⟩
  by_cases hs : s < (countedB x).length
  rotate_left
  ·exact rContent_s1b ⟨rfl, by rwa [List.take_of_length_le (by omega)] at huv⟩ (by omega)
  obtain ⟨a, rfl, z, hz, ld⟩ := slv_at g2.bytes hs
  have hzb : 0 ≤ z ∧ z ≤ 255 := by
   have hm := List.mem_of_getElem? hz
   rcases List.mem_cons.1 hm with e | e
   ·omega
   ·obtain ⟨n, _, hn⟩ := List.mem_flatMap.1 e
    exact numB_byte _ _ hn
  have hc := chk_byte ((countedB x).take s) (0, 0) (by simp) (by simp)
  have huv' : (u, v) = ((countedB x).take s).foldl (fun p c => ((p.1 + c) % 256, (p.2 + (p.1 + c) % 256) % 256)) (0, 0) := huv
  rw [← huv'] at hc
  have hc : 0 ≤ u ∧ u ≤ 255 ∧ 0 ≤ v ∧ v ≤ 255 := hc
  have et : Int.tmod (u + z) 256 = (u + z) % 256 := Int.tmod_eq_emod_of_nonneg (by omega)
  have et2 : Int.tmod (v + (u + z) % 256) 256 = (v + (u + z) % 256) % 256 := Int.tmod_eq_emod_of_nonneg (by omega)
  have e : chk ((countedB x).take (s + 1)) = (Int.tmod (u + z) 256, Int.tmod (v + Int.tmod (u + z) 256) 256) := by
   unfold chk
   rw [foldl_snoc hz, ← huv', et, et2]
  exact rContent_s1a ld ⟨k - 1, by omega, s + 1, by omega, by omega, rfl, e.symm⟩ (by omega) (by omega) (by omega) (by omega) (by rw [et]; omega) (by omega)
 ·rintro u v τ ⟨rfl, huv⟩
  have hc := chk_byte (countedB x) (0, 0) (by simp) (by simp)
  have huv' : (u, v) = (countedB x).foldl (fun p c => ((p.1 + c) % 256, (p.2 + (p.1 + c) % 256) % 256)) (0, 0) := huv
  rw [← huv'] at hc
  have hc : 0 ≤ u ∧ u ≤ 255 ∧ 0 ≤ v ∧ v ≤ 255 := hc
  have w1 : wrapK .u8 u = u := by rw [wrap8]; omega
  have w2 : wrapK .u8 v = v := by rw [wrap8]; omega
  have n5 : New τ (τ.row ([u, v].map byV) 1) := New.row _ _ _
  obtain ⟨p6, c6, σ6, j1, j2, j3, j4⟩ := AxB.push (d := 2) (g2.le n5.le) (row_bytes τ [u, v]) (by simp; omega) (by have : σ.q ≤ τ.q := N4.nx; show σ.q ≤ τ.q + 1; omega)
  have e : countedB x ++ [u, v] = contentB x := by unfold contentB; rw [← huv]
  rw [e] at j1 j2
  exact rContent_t1x0a w1 w2 j1 ⟨(N4.row').of_only j3 (fun b hb => (g2.bd b hb).1), p6, c6, rfl, j2.bytes, fun b hb => (j2.bd b hb).1⟩
end
section
variable {σ : St}
theorem rFrame_c {x : Rec} (h : rightB x = true) : ∃ p c σ', CallsA Tryd.prog 25 [recV x] σ (.slice p (frameB x).length c) σ' ∧ New σ σ' ∧ BytesP σ' p (frameB x).length (frameB x) ∧ ∀ b, AtP p b → σ.q ≤ b := by
 have hcl := content_len h
 obtain ⟨p1, c1, σ2, k1, n1, b1, f1⟩ := rContent_c (σ := (σ.re.row (recL x) 6).row [byV 126] 1) h
 have N1 : New σ.re ((σ.re.row (recL x) 6).row [byV 126] 1) := (New.row _ _ _).row'
 have o1 : Own ((σ.re.row (recL x) 6).row [byV 126] 1) (σ.q + 1) [byV 126] 1 := own_new _ _ _
 have a1 : AxB σ2 σ.q (some ⟨σ.q + 1, 0, none⟩) 1 1 [126] := Ax.lit (o1.le n1.le) rfl (ex_small (by omega)) (Nat.le_succ _)
 refine RunsQ.newSl (rFrame_ra k1 (P0 := fun p l c τ => l = (frameB x).length ∧ New σ.re τ ∧ AxB τ σ.q p l c (frameB x))
  (rFrame_loop1 (Inv := fun k p l c i τ => ∃ s : Nat, i = s ∧ s + k = (contentB x).length ∧ l = (126 :: ((contentB x).take s).flatMap escB).length ∧ New σ.re τ ∧ BytesP τ p1 (contentB x).length (contentB x) ∧ (∀ b, AtP p1 b → ¬ AtP p b) ∧ AxB τ σ.q p l c (126 :: ((contentB x).take s).flatMap escB)) ?_ (contentB x).length _ _ _ 0 σ2 ⟨0, rfl, by omega, rfl, N1.trans n1, b1, fun b hb hb2 => ?_, a1⟩) ?_)
 rotate_left
 ·obtain ⟨a, e, rfl⟩ := hb2
  cases e
  have h3 : σ.q + 2 ≤ σ.q + 1 := f1 _ hb
  omega
 ·rintro p l c τ ⟨rfl, hN, ha⟩
  exact rFrame_t1x0a ⟨hN, p, c, rfl, ha.bytes, fun b hb => (ha.bd b hb).1⟩
 rintro k p l c i τ ⟨s, rfl, hk, rfl, hN, hb1, hne, ha⟩
 by_cases hs : s < (contentB x).length
 rotate_left
 ·rw [List.take_of_length_le (by omega)] at ha ⊢
  exact rFrame_s1d ⟨rfl, hN, ha⟩ (by omega)
 obtain ⟨a, rfl, z, hz, ld⟩ := slv_at hb1 hs
 have hl55 := frameTo_len h s
 have e1 : ∀ w, escB z = w → 126 :: ((contentB x).take (s + 1)).flatMap escB = (126 :: ((contentB x).take s).flatMap escB) ++ w := by
  rintro w rfl
  rw [take_snoc hz, List.flatMap_append]; simp
 have key : ∀ w : List Int, escB z = w → w.length ≤ 2 → ∃ p' c' τ', appendA Tryd.prog 22 22 (.slice p (126 :: ((contentB x).take s).flatMap escB).length c) (.slice (some ⟨τ.q, 0, none⟩) w.length w.length) (τ.row (w.map byV) 1) = some (.slice p' (126 :: ((contentB x).take (s + 1)).flatMap escB).length c', τ') ∧
   ∃ k', k' < k ∧ ∃ s' : Nat, ((s : Int) + 1) = s' ∧ s' + k' = (contentB x).length ∧ (126 :: ((contentB x).take (s + 1)).flatMap escB).length = (126 :: ((contentB x).take s').flatMap escB).length ∧ New σ.re τ' ∧ BytesP τ' (some a) (contentB x).length (contentB x) ∧ (∀ b, AtP (some a) b → ¬ AtP p' b) ∧ AxB τ' σ.q p' (126 :: ((contentB x).take (s + 1)).flatMap escB).length c' (126 :: ((contentB x).take s').flatMap escB) := by
  intro w hw hwl
  have nr : New τ (τ.row (w.map byV) 1) := New.row _ _ _
  obtain ⟨p', c', τ', g1, g2, g3, g4⟩ := AxB.push (d := w.length) (ha.le nr.le) (row_bytes τ w) (by omega) (by have : σ.q ≤ τ.q := hN.nx; have := nr.le.q; omega)
  rw [e1 w hw]
  refine ⟨p', c', τ', g1, k - 1, by omega, s + 1, by omega, by omega, by rw [e1 w hw], (hN.row').of_only g3 (fun b hb => (ha.bd b hb).1), ?_, ?_, by rw [e1 w hw]; exact g2⟩
  ·exact g3.slv' (SlV.le hb1 nr.le) (fun a' e hb => by cases e; exact hne _ ⟨a, rfl, rfl⟩ hb)
  ·intro b hb hb'
   rcases g4 b hb' with g | g
   ·exact hne b hb g
   ·have h1 := slv_lt hb1 a rfl
    obtain ⟨a', e, rfl⟩ := hb
    cases e
    have : (τ.row (w.map byV) 1).q = τ.q + 1 := rfl
    omega
 by_cases z1 : z = 125
 ·subst z1
  obtain ⟨p', c', τ', g1, g2⟩ := key [125, 93] rfl (by simp)
  exact rFrame_s1a ld g1 g2 (by omega)
 by_cases z2 : z = 126
 ·subst z2
  obtain ⟨p', c', τ', g1, g2⟩ := key [125, 94] rfl (by simp)
  exact rFrame_s1b ld g1 g2 (by omega)
 ·obtain ⟨p', c', τ', g1, g2⟩ := key [z] (by simp [escB, z1, z2]) (by simp)
  exact rFrame_s1c ld g1 g2 (by omega)
end
theorem idxF_at : ∀ {xs : List Int} {m : Nat}, xs[m]? = some 126 → (126 : Int) ∉ xs.take m → idxF xs = (m : Int)
 | [], m, h, _ => by simp at h
 | c :: r, 0, h, _ => by
  simp at h; subst h
  unfold idxF; rw [if_pos rfl]; rfl
 | c :: r, m + 1, h, hn => by
  have hc : c ≠ 126 := fun e => hn (by rw [e]; simp)
  have ih := idxF_at (xs := r) (m := m) (by simpa using h) (fun e => hn (by rw [List.take_succ_cons]; exact List.mem_cons_of_mem _ e))
  unfold idxF
  rw [if_neg hc, ih, if_neg (by omega)]
  omega
theorem idxF_none : ∀ {xs : List Int}, (126 : Int) ∉ xs → idxF xs = -1
 | [], _ => rfl
 | c :: r, hn => by
  have hc : c ≠ 126 := fun e => hn (by rw [e]; simp)
  have ih := idxF_none (xs := r) (fun e => hn (List.mem_cons_of_mem _ e))
  unfold idxF
  rw [if_neg hc, if_pos ih]
theorem frame_bts {x : Rec} : Bts (frameB x) := fun y hy => by
 unfold frameB at hy
 rcases List.mem_cons.1 hy with e | e
 ·omega
 ·obtain ⟨c, hc, h⟩ := List.mem_flatMap.1 e
  have := content_bts (x := x) c hc
  unfold escB at h
  split at h
  ·simp at h; omega
  ·split at h
   ·simp at h; omega
   ·simp at h; omega
theorem bts_flag {pc : List Int} (h : Bts pc) : Bts (126 :: pc) := fun y hy => by
 rcases List.mem_cons.1 hy with e | e
 ·omega
 ·exact h y e
section
variable {σ τ : St} {bs pc : List Int} {p q : Option Addr} {l m c d : Nat}
theorem eq_by {xs ys : List Int} {o1 o2 : Operand} (b1 : Bts xs) (b2 : Bts ys) : binA Pg .eql 9 o1 o2 (.string ⟨⟨strB xs⟩⟩) (.string ⟨⟨strB ys⟩⟩) = some (.bool (decide (xs = ys))) := by
 rw [eq_str]
 by_cases e : xs = ys
 ·subst e
  rw [decide_eq_true rfl]
  show some (Value.bool (strB xs == strB xs)) = _
  rw [beq_self_eq_true]
 ·rw [decide_eq_false e]
  have : (strB xs == strB ys) = false := by rw [beq_eq_false_iff_ne]; exact fun h => e (strB_inj b1 b2 h)
  show some (Value.bool (strB xs == strB ys)) = _
  rw [this]
noncomputable abbrev convQ (p : Option Addr) (l c : Nat) (s : St) : Option Value := seeOp Pg (evL [.slice p l c]) s (.convert 22 9 (.tmp 0))
noncomputable abbrev gAt (τ : St) (g : Rec) : St := (τ.row (rcd 0 0 0 0 0 0) 6).own τ.q (recL g) 6
theorem pc_frame {g : Rec} (hq : BytesP τ q m pc) (hm : m ≤ 1000000) (hr : rightB g = true) :
  ∃ q1 c1 σ2 q3 c3 σ3, CallsA Pg 25 [recV g] (gAt τ g) (.slice q1 (frameB g).length c1) σ2 ∧ convQ q1 (frameB g).length c1 σ2 = some (.string ⟨⟨strB (frameB g)⟩⟩) ∧
   appendA Pg 22 22 (.slice (some ⟨σ2.q, 0, none⟩) 1 1) (.slice q m d) (σ2.row [.int .u8 126] 1) = some (.slice q3 (126 :: pc).length c3, σ3) ∧
   convQ q3 (126 :: pc).length c3 σ3 = some (.string ⟨⟨strB (126 :: pc)⟩⟩) ∧
   belowL σ2.q [.slice q1 (frameB g).length c1] ∧ belowL (σ2.row [.int .u8 126] 1).q [.slice (some ⟨σ2.q, 0, none⟩) 1 1, .slice q m d] ∧ belowL σ3.q [.slice q3 (126 :: pc).length c3] ∧
   ((τ.q < σ2.q ∧ goodB RD (recV g) = true) ∧ loadA Pg σ2 63 ⟨τ.q, 0, none⟩ = some (recV g)) ∧
   ((τ.q < (σ2.row [.int .u8 126] 1).q ∧ goodB RD (recV g) = true) ∧ loadA Pg (σ2.row [.int .u8 126] 1) 63 ⟨τ.q, 0, none⟩ = some (recV g)) ∧
   ((belowL σ2.q [.slice q1 (frameB g).length c1] ∧ goodB RD (.string ⟨⟨strB (frameB g)⟩⟩) = true) ∧ convQ q1 (frameB g).length c1 σ2 = some (.string ⟨⟨strB (frameB g)⟩⟩)) ∧
   ((belowL (σ2.row [.int .u8 126] 1).q [.slice q1 (frameB g).length c1] ∧ goodB RD (.string ⟨⟨strB (frameB g)⟩⟩) = true) ∧ convQ q1 (frameB g).length c1 (σ2.row [.int .u8 126] 1) = some (.string ⟨⟨strB (frameB g)⟩⟩)) ∧
   ((belowL σ3.q [.slice q1 (frameB g).length c1] ∧ goodB RD (.string ⟨⟨strB (frameB g)⟩⟩) = true) ∧ convQ q1 (frameB g).length c1 σ3 = some (.string ⟨⟨strB (frameB g)⟩⟩)) ∧
   loadA Pg σ3 63 ⟨τ.q, 0, none⟩ = some (recV g) ∧ New τ σ3 := by
 have hpl := BytesP.len hq
 subst hpl
 have N1 : New τ (gAt τ g) := (New.row _ _ _).own (Nat.le_refl _)
 have o1 : Own (gAt τ g) τ.q (recL g) 6 := (own_new _ _ _).put
 obtain ⟨q1, c1, σ2, k1, n1, b1, f1⟩ := rFrame_c (σ := gAt τ g) hr
 have N2 := N1.trans n1
 have n2 : New σ2 (σ2.row [byV 126] 1) := New.row _ _ _
 have a1 : AxB (σ2.row [byV 126] 1) σ2.q (some ⟨σ2.q, 0, none⟩) 1 1 [126] := Ax.lit (own_new _ _ _) rfl (ex_small (by omega)) (Nat.le_refl _)
 have hq2 : BytesP (σ2.row [byV 126] 1) q pc.length pc := SlV.le hq (N2.le.trans n2.le)
 obtain ⟨q3, c3, σ3, k3, b3, w3, f3⟩ := AxB.push (d := d) (bs := [126]) (xs := pc) a1 hq2 (by simp; omega) (Nat.le_succ _)
 have n3 : New σ2 σ3 := n2.of_only w3 (by rintro b ⟨a, e, rfl⟩; cases e; exact Nat.le_refl _)
 have hq1 : ∀ (s : St), Le σ2 s → belowL s.q [.slice q1 (frameB g).length c1] := fun s hs => belowL_cons (belowB_sl fun a e => by
  subst e
  have hr' : Row σ2 a _ := b1.1.2
  exact Nat.lt_of_lt_of_le hr'.lt hs.q) belowL_nil
 have o2 : Own σ2 τ.q (recL g) 6 := o1.le n1.le
 have hld : ∀ s : St, Le σ2 s → loadA Pg s 63 ⟨τ.q, 0, none⟩ = some (recV g) := fun s hs => (o2.le hs).ldN agg63 size63 (k := 0) rfl rfl (by simp)
 have hlt : ∀ s : St, Le σ2 s → τ.q < s.q := fun s hs => Nat.lt_of_lt_of_le o2.lt hs.q
 have hcv : ∀ s : St, Le σ2 s → convQ q1 (frameB g).length c1 s = some (.string ⟨⟨strB (frameB g)⟩⟩) := fun s hs => conv_str (SlV.le b1 hs)
 refine ⟨q1, c1, σ2, q3, c3, σ3, k1, hcv σ2 (Le.refl σ2), k3, conv_str b3.bytes, hq1 _ (Le.refl σ2), belowL_cons (belowB_sl1 (Nat.lt_succ_self _)) (belowL_cons (belowB_sl fun a e => ?_) belowL_nil), belowL_cons (belowB_sl fun a e => ?_) belowL_nil,
  ⟨⟨hlt _ (Le.refl σ2), rfl⟩, hld _ (Le.refl σ2)⟩, ⟨⟨hlt _ n2.le, rfl⟩, hld _ n2.le⟩, ⟨⟨hq1 _ (Le.refl σ2), rfl⟩, hcv _ (Le.refl σ2)⟩, ⟨⟨hq1 _ n2.le, rfl⟩, hcv _ n2.le⟩, ⟨⟨hq1 _ n3.le, rfl⟩, hcv _ n3.le⟩, hld _ n3.le, N2.trans n3⟩
 ·subst e
  have hr' : Row τ a _ := hq.1.2
  exact Nat.lt_of_lt_of_le hr'.lt (N2.le.trans n2.le).q
 ·subst e
  have hr' : Row σ3 a _ := b3.bytes.1.2
  exact hr'.lt
structure RJ (σ0 τ : St) (bs : List Int) (j : Nat) (p4 : Option Addr) (l4 c4 : Nat) (i5 : Int) : Prop where
 new : New σ0 τ
 gr : Gr Pg τ σ0.q 63 6 p4 l4 c4 ((dTo (splitB bs) j).1.map recV)
 sp : i5 = (dTo (splitB bs) j).2
theorem RJ.le {j l4 c4 : Nat} {p4 : Option Addr} {i5 : Int} (h : RJ σ τ bs j p4 l4 c4 i5) {s : St} (k : New τ s) : RJ σ s bs j p4 l4 c4 i5 := ⟨h.new.trans k, h.gr.le k.le, h.sp⟩
structure RI (bs : List Int) (l F I j : Nat) : Prop where
 hl : bs.length = l
 hF : F ≤ I ∧ I ≤ l
 hj : (splitB bs).drop j = splitB (bs.drop F)
 hz : 0 < F ↔ 0 < j
 hn : (126 : Int) ∉ (bs.drop F).take (I - F)
theorem RI.piece {F I j : Nat} (h : RI bs l F I j) (hx : bs[I]? = some 126) : (splitB bs)[j]? = some ((bs.drop F).take (I - F)) ∧ RI bs l (I + 1) (I + 1) (j + 1) := by
 have hF := h.hF
 have hi : idxF (bs.drop F) = ((I - F : Nat) : Int) := idxF_at (by rw [List.getElem?_drop, show F + (I - F) = I by omega]; exact hx) h.hn
 obtain ⟨h1, h2, _⟩ := idxF_yes hi
 have hl := h.hl
 rw [List.length_drop] at h1
 have hj := h.hj
 rw [h2, List.drop_drop, show F + (I - F + 1) = I + 1 by omega] at hj
 refine ⟨?_, hl, ⟨Nat.le_refl _, by omega⟩, ?_, by omega, by simp⟩
 ·have := congrArg (fun x : List (List Int) => x[0]?) hj
  simp only [List.getElem?_drop, Nat.add_zero] at this
  rw [this]; rfl
 ·have := congrArg (fun x : List (List Int) => x.drop 1) hj
  simp only [List.drop_drop] at this
  rw [this]; rfl
theorem RI.last {F j : Nat} (h : RI bs l F l j) : (splitB bs)[j]? = some ((bs.drop F).take (l - F)) ∧ (splitB bs).length = j + 1 := by
 have hl := h.hl
 have hF := h.hF
 have ht : (bs.drop F).take (l - F) = bs.drop F := List.take_of_length_le (by simp; omega)
 have hn := h.hn
 rw [ht] at hn
 have hj := h.hj
 rw [(idxF_no (idxF_none hn)).1] at hj
 rw [ht]
 constructor
 ·have := congrArg (fun x : List (List Int) => x[0]?) hj
  simp only [List.getElem?_drop, Nat.add_zero] at this
  rw [this]; rfl
 ·have := congrArg List.length hj
  simp at this
  omega
theorem RI.nxt {F I j : Nat} (h : RI bs l F I j) {x : Int} (hx : bs[I]? = some x) (hne : x ≠ 126) (hI : I < l) : RI bs l F (I + 1) j := by
 have hF := h.hF
 refine ⟨h.hl, by omega, h.hj, h.hz, ?_⟩
 rw [show I + 1 - F = I - F + 1 by omega, take_snoc (x := x) (by rw [List.getElem?_drop, show F + (I - F) = I by omega]; exact hx)]
 intro e
 rcases List.mem_append.1 e with e | e
 ·exact h.hn e
 ·simp at e; exact hne e.symm
theorem rDecode_c (h : BytesP σ p l bs) (ag : ArgS σ 1 p l c) (hb : Bts bs) (hl : l ≤ 1000000) :
  ∃ q d σ', CallsA Pg 9 [.slice p l c] σ (.tuple ⟨[.slice q (decL bs).1.length d, iV (decL bs).2]⟩) σ' ∧ New σ σ' ∧ RecsP σ' 63 q (decL bs).1.length (decL bs).1 ∧ ∀ b, AtP q b → σ.q ≤ b := by
 have hbl := BytesP.len h
 suffices key : RunsQ Pg 9 [.slice p l c] σ.re fun v s => New σ.re s ∧ ∃ q d, v = .tuple ⟨[.slice q (decL bs).1.length d, iV (decL bs).2]⟩ ∧ RecsP s 63 q (decL bs).1.length (decL bs).1 ∧ ∀ b, AtP q b → σ.q ≤ b by
  obtain ⟨v, σ', e1, e2, q, d, rfl, e3, e4⟩ := RunsQ.new (Q := fun v s => ∃ q d, v = .tuple ⟨[.slice q (decL bs).1.length d, iV (decL bs).2]⟩ ∧ RecsP s 63 q (decL bs).1.length (decL bs).1 ∧ ∀ b, AtP q b → σ.q ≤ b) key (by
   rintro v s s' ⟨q, d, rfl, g, g'⟩ hle; exact ⟨q, d, rfl, SlV.le g hle, g'⟩) (by
   rintro v s hr ⟨q, d, rfl, g, g'⟩
   refine ⟨q, d, rfl, ?_, g'⟩
   cases q with
   | none => exact slv_none g
   | some a => exact Bool.noConfusion (show false = true from hr))
  exact ⟨q, d, σ', e1, e2, e3, e4⟩
 refine rDecode_ra (P0 := fun p4 l4 c4 i5 τ => RJ σ.re τ bs (splitB bs).length p4 l4 c4 i5)
  (rDecode_loop1 (Inv := fun k p4 l4 c4 i5 i6 i7 τ => (i7 = (l : Int) + 1 ∧ RJ σ.re τ bs (splitB bs).length p4 l4 c4 i5) ∨ ∃ F I j : Nat, i6 = F ∧ i7 = I ∧ k + I = l + 1 ∧ RI bs l F I j ∧ RJ σ.re τ bs j p4 l4 c4 i5) ?_ (l + 1) none 0 0 0 0 0 _ (.inr ⟨0, 0, 0, rfl, rfl, rfl, ⟨hbl, by omega, rfl, by omega, by simp⟩, New.refl _, Gr.nil, rfl⟩)) ?_
 rotate_left
 ·rintro p4 l4 c4 i5 τ ⟨hN, hG, rfl⟩
  have hlen := hG.len_eq
  simp at hlen
  subst hlen
  exact rDecode_t1x0a ⟨hN, p4, c4, rfl, hG.slv, fun b hb => (hG.bd hb).1⟩
 rintro k p4 l4 c4 i5 i6 i7 τ (⟨rfl, hJ⟩ | ⟨F, I, j, rfl, rfl, hk, hI, hJ⟩)
 ·exact rDecode_s1l hJ (by omega)
 have hF := hI.hF
 have hB : BytesP τ p l bs := SlV.le (SlV.le h (le0 σ)) hJ.new.le
 have arg := (show ArgS τ 1 p l c from ag.le ((le0 σ).trans hJ.new.le)).part (lo := F) (hi := I) (lo' := some (iV (F : Int))) (hi' := some (iV (I : Int))) (t := 22) hB und22 size5 (bound_some rfl hF.1) (bound_some rfl (by
  rcases ag with ⟨_, e, _⟩ | ⟨_, _, _, _, _, e, _⟩ <;> omega)) hF.1 hF.2
 obtain ⟨k2, bp, _⟩ := arg
 rw [← List.map_drop, ← List.map_take] at bp
 obtain ⟨pc, hpc⟩ : ∃ pc, pc = (bs.drop F).take (I - F) := ⟨_, rfl⟩
 rw [← hpc] at bp
 have hbp : Bts pc := fun x hx => by rw [hpc] at hx; exact hb x (List.mem_of_mem_drop (List.mem_of_mem_take hx))
 have hpl : pc.length = I - F := BytesP.len bp
 have hnp : (126 : Int) ∉ pc := by rw [hpc]; exact hI.hn
 have bp : BytesP τ (partP p 1 F c) (I - F) pc := bp
 have k3 := guess_c (c := c - F) bp hbp (by omega)
 have n1 : New τ (gAt τ (guessR pc)) := (New.row _ _ _).own (Nat.le_refl _)
 have k4 := rRight_c (σ := gAt τ (guessR pc)) (x := guessR pc)
 have bd := dTo_bd (splitB bs) j
 have hsp := hJ.sp
 have hjb : (splitB bs)[j]? = some pc → j ≤ l := fun e => by
  have h1 : j < (splitB bs).length := by
   rcases Nat.lt_or_ge j (splitB bs).length with h | h
   ·exact h
   ·rw [List.getElem?_eq_none h] at e; cases e
  rw [splitB_len] at h1
  have : bs.count 126 ≤ bs.length := List.count_le_length
  omega
 have st0 : (splitB bs)[j]? = some pc → pc = [] → RJ σ.re (gAt τ (guessR pc)) bs (j + 1) p4 l4 c4 i5 := fun e h0 => by
  have hd : dTo (splitB bs) (j + 1) = dTo (splitB bs) j := by rw [dTo_snoc e]; unfold dstep; rw [if_pos h0]
  have h := hJ.le n1
  exact ⟨h.new, by rw [hd]; exact h.gr, by rw [hd]; exact h.sp⟩
 have stS : (splitB bs)[j]? = some pc → pc ≠ [] → (0 < j → ¬ (rightB (guessR pc) = true ∧ frameB (guessR pc) = 126 :: pc)) → ∀ s, New τ s → RJ σ.re s bs (j + 1) p4 l4 c4 (i5 + 1) := fun e h0 hc s hs => by
  have hd : dTo (splitB bs) (j + 1) = ((dTo (splitB bs) j).1, (dTo (splitB bs) j).2 + 1) := by
   rw [dTo_snoc e]; unfold dstep
   rw [if_neg h0]
   have : (if 0 < j then recP pc else none) = none := by
    split
    ·rename_i hj; rw [recP_guess hnp, if_neg (hc hj)]
    ·rfl
   rw [this]
  have h := hJ.le hs
  exact ⟨h.new, by rw [hd]; exact h.gr, by rw [hd, h.sp]⟩
 have stA : (splitB bs)[j]? = some pc → pc ≠ [] → 0 < j → rightB (guessR pc) = true ∧ frameB (guessR pc) = 126 :: pc → ∀ s, New τ s → ∃ q' d' s', appendA Pg 28 28 (.slice p4 l4 c4) (.slice (some ⟨s.q, 0, none⟩) 1 1) (s.row (recL (guessR pc)) 6) = some (.slice q' (l4 + 1) d', s') ∧ RJ σ.re s' bs (j + 1) q' (l4 + 1) d' i5 := fun e h0 hj hc s hs => by
  have hd : dTo (splitB bs) (j + 1) = ((dTo (splitB bs) j).1 ++ [guessR pc], (dTo (splitB bs) j).2) := by
   rw [dTo_snoc e]; unfold dstep
   rw [if_neg h0, if_pos hj, recP_guess hnp, if_pos hc]
  have hlen := hJ.gr.len_eq
  simp at hlen
  have hjl := hjb e
  obtain ⟨q', d', s', g1, g2, g3, _, _⟩ := grow (σ0 := σ.re) (recV (guessR pc)) appT_ref hJ.gr hJ.new hs (elOk_ref _) (by omega) (e := rfl) (hc := rfl)
  refine ⟨q', d', s', g1, g3, ?_, by rw [hd]; exact hJ.sp⟩
  rw [hd]
  simpa using g2
 by_cases hIl : I < l
 ·obtain ⟨a0, rfl, _⟩ := hB.some (by omega)
  obtain ⟨x, hx⟩ : ∃ x, bs[I]? = some x := ⟨bs[I]'(by omega), List.getElem?_eq_getElem _⟩
  have l1 := hB.ldB (i := (I : Int)) hx rfl
  by_cases h6 : x = 126
  rotate_left
  ·exact rDecode_s1a l1 ⟨l - I, by omega, .inr ⟨F, I + 1, j, rfl, by omega, by omega, hI.nxt hx h6 hIl, hJ⟩⟩ (u4 := h6)
  subst h6
  obtain ⟨hp, hI'⟩ := hI.piece hx
  rw [← hpc] at hp
  have fin : ∀ {q' : Option Addr} {l' d' : Nat} {i' : Int} {s' : St}, RJ σ.re s' bs (j + 1) q' l' d' i' → ∃ k', k' < k ∧ (((I : Int) + 1 = (l : Int) + 1 ∧ RJ σ.re s' bs (splitB bs).length q' l' d' i') ∨ ∃ F' I' j' : Nat, (I : Int) + 1 = F' ∧ (I : Int) + 1 = I' ∧ k' + I' = l + 1 ∧ RI bs l F' I' j' ∧ RJ σ.re s' bs j' q' l' d' i') := fun hh =>
   ⟨l - I, by omega, .inr ⟨I + 1, I + 1, j + 1, by omega, by omega, by omega, hI', hh⟩⟩
  have hjl := hjb hp
  by_cases h0 : pc = []
  ·have : I - F = 0 := by rw [← hpl, h0]; rfl
   exact rDecode_s1b l1 k2 k3 (fin (st0 hp h0)) (u5 := by omega)
  have hm : ¬ ((I - F : Nat) : Int) = 0 := by
   intro e
   exact h0 (List.eq_nil_of_length_eq_zero (by omega))
  by_cases hF0 : 0 < F
  rotate_left
  ·exact rDecode_s1f l1 k2 k3 (fin (stS hp h0 (fun hj => absurd (hI.hz.2 hj) hF0) _ n1)) (u5 := hm)
  have hj0 := hI.hz.1 hF0
  by_cases hr : rightB (guessR pc) = true
  rotate_left
  ·rw [show rightB (guessR pc) = false by simpa using hr] at k4
   exact rDecode_s1e l1 k2 k3 k4 (fin (stS hp h0 (fun _ e => hr e.1) _ n1)) (u5 := hm)
  rw [hr] at k4
  obtain ⟨q1, c1, σ2, q3, c3, σ3, x1, x2, x3, x4, x5, x6, x7, x8, x9, x10, x11, x12, x13, x14⟩ := pc_frame (d := c - F) bp (by omega) hr
  have x15 := eq_by (o1 := .tmp 49) (o2 := .tmp 53) (frame_bts (x := guessR pc)) (bts_flag hbp)
  by_cases he : frameB (guessR pc) = 126 :: pc
  ·rw [decide_eq_true he] at x15
   obtain ⟨q', d', s', y1, y2⟩ := stA hp h0 hj0 ⟨hr, he⟩ σ3 x14
   exact rDecode_s1c l1 k2 k3 k4 x1 x2 x3 x4 x15 x5 x6 x7 x8 x9 x10 x11 x12 x13 y1 (fin y2) (u5 := hm)
  ·rw [decide_eq_false he] at x15
   exact rDecode_s1d l1 k2 k3 k4 x1 x2 x3 x4 x15 x5 x6 x7 x8 x9 x10 x11 x12 (fin (stS hp h0 (fun _ e => he e.2) _ x14)) (u5 := hm)
 ·have hIe : I = l := by omega
  subst hIe
  obtain ⟨hp, hlen⟩ := hI.last
  rw [← hpc] at hp
  have fin : ∀ {q' : Option Addr} {l' d' : Nat} {i' : Int} {s' : St}, RJ σ.re s' bs (j + 1) q' l' d' i' → ∃ k', k' < k ∧ (((I : Int) + 1 = (I : Int) + 1 ∧ RJ σ.re s' bs (splitB bs).length q' l' d' i') ∨ ∃ F' I' j' : Nat, (I : Int) + 1 = F' ∧ (I : Int) + 1 = I' ∧ k' + I' = I + 1 ∧ RI bs I F' I' j' ∧ RJ σ.re s' bs j' q' l' d' i') := fun hh =>
   ⟨0, by omega, .inl ⟨rfl, by rw [hlen]; exact hh⟩⟩
  have hjl := hjb hp
  by_cases h0 : pc = []
  ·have : I - F = 0 := by rw [← hpl, h0]; rfl
   exact rDecode_s1g k2 k3 (fin (st0 hp h0)) (u3 := by omega)
  have hm : ¬ ((I - F : Nat) : Int) = 0 := by
   intro e
   exact h0 (List.eq_nil_of_length_eq_zero (by omega))
  by_cases hF0 : 0 < F
  rotate_left
  ·exact rDecode_s1k k2 k3 (fin (stS hp h0 (fun hj => absurd (hI.hz.2 hj) hF0) _ n1)) (u3 := hm)
  have hj0 := hI.hz.1 hF0
  by_cases hr : rightB (guessR pc) = true
  rotate_left
  ·rw [show rightB (guessR pc) = false by simpa using hr] at k4
   exact rDecode_s1j k2 k3 k4 (fin (stS hp h0 (fun _ e => hr e.1) _ n1)) (u3 := hm)
  rw [hr] at k4
  obtain ⟨q1, c1, σ2, q3, c3, σ3, x1, x2, x3, x4, x5, x6, x7, x8, x9, x10, x11, x12, x13, x14⟩ := pc_frame (d := c - F) bp (by omega) hr
  have x15 := eq_by (o1 := .tmp 49) (o2 := .tmp 53) (frame_bts (x := guessR pc)) (bts_flag hbp)
  by_cases he : frameB (guessR pc) = 126 :: pc
  ·rw [decide_eq_true he] at x15
   obtain ⟨q', d', s', y1, y2⟩ := stA hp h0 hj0 ⟨hr, he⟩ σ3 x14
   exact rDecode_s1h k2 k3 k4 x1 x2 x3 x4 x15 x5 x6 x7 x8 x9 x10 x11 x12 x13 y1 (fin y2) (u3 := hm)
  ·rw [decide_eq_false he] at x15
   exact rDecode_s1i k2 k3 k4 x1 x2 x3 x4 x15 x5 x6 x7 x8 x9 x10 x11 x12 (fin (stS hp h0 (fun _ e => he e.2) _ x14)) (u3 := hm)
end
section
variable {b q2 q3 q7 : Option Addr} {b_l b_c l2 c2 l3 c3 l7 c7 : Nat} {σ σ1 σ6 σ9 : St} {Q : Value → St → Prop} {n4 n5 n8 : Int}
theorem lDecodes_ra (nx : Q (.bool true) σ) (u1 : 5100 < ((b_l : Nat) : Int) := by omega) : TopQ Pg 7 3 [.slice b b_l b_c] σ Q :=
 topQ_of [.g, .g, .g, .b true, .c (.bool true) σ, .g] (kc (by kernel_rfl) (ai (ltI_tt u1) (ai (topE : CallsE (topR Pg 7) (.func 7) [] σ (.bool true) σ) nx)))
theorem lDecodes_rb (h1 : appendA Pg 22 22 (.slice (some ⟨σ.q, 0, none⟩) 0 0) (.slice b b_l b_c) (σ.row [] 1) = some (.slice q2 l2 c2, σ1)) (h2 : CallsA Pg 8 [.slice q2 l2 c2] σ1 (.tuple ⟨[.slice q3 l3 c3, iV n4, iV n5]⟩) σ6) (nx : Q (.bool true) σ6) (u1 : ¬ 5100 < ((b_l : Nat) : Int) := by omega) (u2 : 5000 < ((b_l : Nat) : Int) := by omega) (u3 : n5 = 3 := by omega) (u4 : ((l3 : Nat) : Int) = 0 := by omega) (u5 : n4 = 0 := by omega) : TopQ Pg 7 3 [.slice b b_l b_c] σ Q :=
 topQ_of [.g, .g, .g, .b false, .g, .g, .e (.slice q2 l2 c2) σ1, .c (.tuple ⟨[.slice q3 l3 c3, iV n4, iV n5]⟩) σ6, .g, .g, .g, .g, .g, .g, .g, .g, .g, .g, .g, .g, .b true, .g, .g, .g, .g, .g, .b true, .g, .g, .g, .b true, .g, .g, .g, .b true, .g, .g, .c (.bool true) σ6, .g, .g] (kc (by kernel_rfl) (ai (ltI_ff u1) (ai h1 (ai (CallsA.top (aw := 7) h2) (ai (ltI_tt u2) (ai (eqI_tt u3) (ai (eqI_tt u4) (ai (eqI_tt u5) (ai (topE : CallsE (topR Pg 7) (.func 7) [] σ6 (.bool true) σ6) nx)))))))))
theorem lDecodes_rf (h1 : appendA Pg 22 22 (.slice (some ⟨σ.q, 0, none⟩) 0 0) (.slice b b_l b_c) (σ.row [] 1) = some (.slice q2 l2 c2, σ1)) (h2 : CallsA Pg 8 [.slice q2 l2 c2] σ1 (.tuple ⟨[.slice q3 l3 c3, iV n4, iV n5]⟩) σ6) (h3 : CallsA Pg 9 [.slice b b_l b_c] σ6 (.tuple ⟨[.slice q7 l7 c7, iV n8]⟩) σ9) (nx : Q (.bool true) σ9) (u1 : ¬ 5100 < ((b_l : Nat) : Int) := by omega) (u2 : ¬ 5000 < ((b_l : Nat) : Int) := by omega) (u3 : 60 < ((l7 : Nat) : Int) := by omega) (u4 : n5 = 3 := by omega) (u5 : ((l3 : Nat) : Int) = 0 := by omega) (u6 : n4 = 0 := by omega) : TopQ Pg 7 3 [.slice b b_l b_c] σ Q :=
 topQ_of [.g, .g, .g, .b false, .g, .g, .e (.slice q2 l2 c2) σ1, .c (.tuple ⟨[.slice q3 l3 c3, iV n4, iV n5]⟩) σ6, .g, .g, .g, .g, .g, .g, .g, .g, .g, .g, .g, .g, .b false, .g, .c (.tuple ⟨[.slice q7 l7 c7, iV n8]⟩) σ9, .g, .g, .g, .g, .g, .g, .g, .b true, .g, .g, .g, .g, .g, .b true, .g, .g, .g, .b true, .g, .g, .g, .b true, .g, .g, .c (.bool true) σ9, .g, .g] (kc (by kernel_rfl) (ai (ltI_ff u1) (ai h1 (ai (CallsA.top (aw := 7) h2) (ai (ltI_ff u2) (ai (CallsA.top (aw := 7) h3) (ai (ltI_tt u3) (ai (eqI_tt u4) (ai (eqI_tt u5) (ai (eqI_tt u6) (ai (topE : CallsE (topR Pg 7) (.func 7) [] σ9 (.bool true) σ9) nx)))))))))))
theorem lDecodes_rj (h1 : appendA Pg 22 22 (.slice (some ⟨σ.q, 0, none⟩) 0 0) (.slice b b_l b_c) (σ.row [] 1) = some (.slice q2 l2 c2, σ1)) (h2 : CallsA Pg 8 [.slice q2 l2 c2] σ1 (.tuple ⟨[.slice q3 l3 c3, iV n4, iV n5]⟩) σ6) (h3 : CallsA Pg 9 [.slice b b_l b_c] σ6 (.tuple ⟨[.slice q7 l7 c7, iV n8]⟩) σ9) (h4 : CallsA Pg 10 [.slice q3 l3 c3, .slice q7 l7 c7] σ9 (.bool true) σ9) (nx : Q (.bool true) σ9) (u1 : ¬ 5100 < ((b_l : Nat) : Int) := by omega) (u2 : ¬ 5000 < ((b_l : Nat) : Int) := by omega) (u3 : ¬ 60 < ((l7 : Nat) : Int) := by omega) (u4 : n5 = 0 := by omega) (u5 : n4 = n8 := by omega) : TopQ Pg 7 3 [.slice b b_l b_c] σ Q :=
 topQ_of [.g, .g, .g, .b false, .g, .g, .e (.slice q2 l2 c2) σ1, .c (.tuple ⟨[.slice q3 l3 c3, iV n4, iV n5]⟩) σ6, .g, .g, .g, .g, .g, .g, .g, .g, .g, .g, .g, .g, .b false, .g, .c (.tuple ⟨[.slice q7 l7 c7, iV n8]⟩) σ9, .g, .g, .g, .g, .g, .g, .g, .b false, .g, .g, .g, .b true, .g, .g, .g, .c (.bool true) σ9, .g, .g, .g, .g, .b true, .g, .g, .c (.bool true) σ9, .g, .g] (kc (by kernel_rfl) (ai (ltI_ff u1) (ai h1 (ai (CallsA.top (aw := 7) h2) (ai (ltI_ff u2) (ai (CallsA.top (aw := 7) h3) (ai (ltI_ff u3) (ai (eqI_tt u4) (ai (CallsA.top (aw := 7) h4) (ai (eqI_tt u5) (ai (topE : CallsE (topR Pg 7) (.func 7) [] σ9 (.bool true) σ9) nx)))))))))))
end
section
variable {σ τ : St} {bs : List Int} {p : Option Addr} {l c : Nat}
theorem copy0 (h : BytesP σ p l bs) (hl : l ≤ 1000000) : ∃ q d σ', appendA Tryd.prog 22 22 (.slice (some ⟨σ.q, 0, none⟩) 0 0) (.slice p l c) (σ.row [] 1) = some (.slice q l d, σ') ∧ New σ σ' ∧ BS σ' q l d bs ∧ ∀ b, AtP q b → σ.q ≤ b := by
 have hbl := BytesP.len h
 subst hbl
 have a1 : AxB (σ.row [] 1) σ.q (some ⟨σ.q, 0, none⟩) 0 0 [] := Ax.lit (own_new _ _ _) rfl (ex_small (by omega)) (Nat.le_refl _)
 obtain ⟨q, d, σ', g1, g2, g3, g4⟩ := AxB.push (d := c) (bs := []) (xs := bs) a1 (SlV.le h (Le.row _ _ _)) (by simp; omega) (Nat.le_succ _)
 rw [List.nil_append] at g1 g2
 refine ⟨q, d, σ', g1, (New.row σ [] 1).of_only g3 (by rintro b ⟨a, e, rfl⟩; cases e; exact Nat.le_refl _), g2.cutS, fun b hb => (g2.bd b hb).1⟩
theorem lDecodes_top (h : BytesP σ p l bs) (ag : ArgS σ 1 p l c) (hb : Bts bs) : TopQ Tryd.prog 7 3 [.slice p l c] σ fun v _ => v = .bool true := by
 by_cases h51 : 5100 < l
 ·exact lDecodes_ra rfl (by omega)
 obtain ⟨q, d, σ1, k1, n1, b1, _⟩ := copy0 (c := c) h (by omega)
 have hD := Decode_c (c := d) b1.bt hb (by omega)
 by_cases h5 : 5000 < l
 ·rcases hD with ⟨_, k2⟩ | ⟨h5', _⟩
  ·exact lDecodes_rb k1 k2 rfl (by omega) (by omega) rfl (by omega) rfl
  ·omega
 rcases hD with ⟨h60, k2⟩ | ⟨_, h60, q3, d3, σ6, k2, n2, r2, _⟩
 ·have h60 : 60 < (decL bs).1.length := by omega
  obtain ⟨q7, d7, σ9, k3, n3, r3, _⟩ := rDecode_c (SlV.le h n1.le) (ag.le n1.le) hb (by omega)
  exact lDecodes_rf k1 k2 k3 rfl (by omega) (by omega) (by omega) rfl (by omega) rfl
 ·have n12 := n1.trans n2
  obtain ⟨q7, d7, σ9, k3, n3, r3, _⟩ := rDecode_c (SlV.le h n12.le) (ag.le n12.le) hb (by omega)
  have k4 := same_c (c := d3) (d := d7) (SlV.le r2 n3.le) r3 (by omega)
  rw [decide_eq_true rfl] at k4
  exact lDecodes_rj k1 k2 k3 k4 rfl (by omega) (by omega) (by omega) rfl rfl
end
section
variable {σ : St}
theorem wt_slice {n : Nat} {t e : TypeId} {cs : List Value} {k : Nat} (hu : Pg.underlying t = some (.slice e)) (hk : Pg.cellsOf e = k) (h : WT Pg σ (n + 1) t cs) :
  ∃ p len cap rs, cs = [.slice p len cap] ∧ len ≤ maxLen ∧ SlP σ k p len rs ∧ rs.length = len * k ∧ ∀ i, i < len → WT Pg σ n e ((rs.drop (i * k)).take k) := by
 unfold WT at h
 simp only [hu, hk] at h
 rcases h with rfl | ⟨b, len, cap, rs, rfl, h1, h2, h3, h4, h5, h6⟩
 ·exact ⟨none, 0, 0, [], rfl, by decide, SlP.nil _ _, by simp, fun i hi => by omega⟩
 ·refine ⟨_, len, cap, rs, rfl, h1, ⟨h3, ?_, h5⟩, h3, h6⟩
  simp only [readRow, h4, stampOf, extOf, Nat.zero_add, List.drop_zero, List.take_length]
  show (bif Nat.ble rs.length rs.length then some rs else none) = some rs
  rw [show Nat.ble rs.length rs.length = true from by simp]; rfl
theorem pieces {α : Type} {k : Nat} {Q : List Value → Prop} {f : α → List Value} (hq : ∀ cs, Q cs → ∃ x, cs = f x) : ∀ (len : Nat) (rs : List Value), rs.length = len * k → (∀ i, i < len → Q ((rs.drop (i * k)).take k)) → ∃ xs : List α, xs.length = len ∧ rs = xs.flatMap f
 | 0, rs, hl, _ => ⟨[], rfl, by simpa using hl⟩
 | len + 1, rs, hl, h => by
  obtain ⟨x, hx⟩ := hq _ (h 0 (by omega))
  obtain ⟨xs, h1, h2⟩ := pieces (k := k) hq len (rs.drop k) (by simp [hl, Nat.add_mul]) (fun i hi => by
   have := h (i + 1) (by omega)
   rwa [Nat.add_mul, Nat.one_mul, Nat.add_comm (i * k), ← List.drop_drop] at this)
  refine ⟨x :: xs, by simp [h1], ?_⟩
  simp only [List.flatMap_cons, ← h2, ← hx]
  simp
theorem wt_u8 {n : Nat} {cs : List Value} (h : WT Pg σ (n + 1) 5 cs) : ∃ i : Int, cs = [.int .u8 i] ∧ 0 ≤ i ∧ i ≤ 255 := by
 unfold WT at h
 simp only [Tryd.underlying5] at h
 obtain ⟨i, h, hk⟩ := h
 refine ⟨i, h, ?_⟩
 rw [show IntKind.u8.min = 0 by decide, show IntKind.u8.max = 255 by decide] at hk; exact hk
theorem wt_arg {n : Nat} {t e : TypeId} {p : Option Addr} {l c k : Nat} (hu : Pg.underlying t = some (.slice e)) (hk : Pg.cellsOf e = k) (h : WT Pg σ (n + 1) t [.slice p l c]) : ArgS σ k p l c := by
 unfold WT at h
 simp only [hu, hk] at h
 rcases h with h | ⟨b, len, cap, rs, h1, h2, h3, h4, h5, h6, h7⟩
 ·obtain ⟨rfl, rfl, rfl⟩ : p = none ∧ l = 0 ∧ c = 0 := by simpa using h
  exact .inl ⟨rfl, rfl, rfl⟩
 ·obtain ⟨rfl, rfl, rfl⟩ : p = some ⟨b, 0, none⟩ ∧ l = len ∧ c = cap := by simpa using h1
  exact .inr ⟨b, rs, 1, true, rfl, by rw [← capLow_ex h3.2]; exact h3.1, h3.2, h5, h4, h6⟩
theorem wt_bytes {n : Nat} {cs : List Value} (h : WT Pg σ (n + 2) 22 cs) : ∃ p l c, ∃ xs : List Int, cs = [.slice p l c] ∧ BytesP σ p l xs ∧ Bts xs ∧ ArgS σ 1 p l c := by
 obtain ⟨p, l, c, rs, e1, _, s1, l1, w1⟩ := wt_slice Tryd.underlying22 (k := 1) (by kernel_rfl) h
 subst e1
 have ha := wt_arg Tryd.underlying22 (k := 1) (by kernel_rfl) h
 obtain ⟨xs, n1, rfl⟩ := pieces (f := fun x : {x : Int // 0 ≤ x ∧ x ≤ 255} => [byV x.1]) (fun cs h => by
  obtain ⟨i, e, h⟩ := wt_u8 h
  exact ⟨⟨i, h⟩, e⟩) l rs l1 w1
 have hf : flat ((xs.map (·.1)).map byV) = xs.flatMap fun x => [byV x.1] := by
  clear n1 s1 l1 w1
  induction xs with
  | nil => rfl
  | cons x xs ih => rw [List.map_cons, List.map_cons, List.flatMap_cons, ← ih]; rfl
 refine ⟨p, l, c, xs.map (·.1), rfl, ⟨by rw [hf]; exact s1, by simpa using n1, fun v hv => ?_⟩, fun x hx => ?_, ha⟩
 ·obtain ⟨x, _, rfl⟩ := List.mem_map.1 hv
  exact elOk_byte x
 ·obtain ⟨x, _, rfl⟩ := List.mem_map.1 hx
  exact x.2
theorem not_agg {ι : Inj} {av v : Value} (h : VR ι av v) (hv : ∀ cs, v ≠ .agg cs) : ∀ cs, av ≠ .agg cs := by
 rintro cs rfl
 cases h with
 | atom h => simp [atomB] at h
 | agg _ _ => exact hv _ rfl
theorem sl_not {W : World} {t e : TypeId} {v : Value} (hu : Pg.underlying t = some (.slice e)) (h : Value.okWide Pg W .any 0 t v) : ∀ cs, v ≠ .agg cs := by
 rintro cs rfl
 unfold Value.okWide at h
 rw [hu] at h
 simp [Cell.okWide, Cell.ok, hu] at h
theorem cells_slice {v : Value} {p : Option Addr} {l c : Nat} (h : v.cells.toList = [.slice p l c]) (hn : ∀ cs, v ≠ .agg cs) : v = .slice p l c := by
 cases v with
 | agg cs => exact absurd rfl (hn cs)
 | _ => first | (simp [Value.cells] at h; done) | simpa [Value.cells] using h
end
end Go.Proofs.YtffgfojabcbegaaDoor
