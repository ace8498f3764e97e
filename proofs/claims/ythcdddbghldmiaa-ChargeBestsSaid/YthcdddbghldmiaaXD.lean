
import Derived.Test.YthcdddbghldmiaaTy
namespace Go.Proofs.Ythcdddbghldmiaa
open Go Go.Lay
open Try renaming prog → Pg
set_option linter.unusedVariables false
set_option maxRecDepth 20000
variable {BA BB BC lB cA gS_l gS_c gB_l gB_c : Nat} {Inv : Nat → Int → St → Prop} {Q0 P0 : St → Prop} {i4_1 nM nL nN nP nQ nR nK nO nW nU : Int} {qA_a : Addr} {σY σ σS : St} {Nx : Int → St → Prop} {qA gS gB : Option Addr} {Q : Value → St → Prop} {cs1838 cs1840 : List Value}
noncomputable def rNeeds_c1 : Code := (Code.part [1, 1, 0, 1, 0, 0] (bodyOf Pg 22))
def rNeeds_l1 (BA BB BC : Nat) (i4_1 : Int) : List (Nat × Value) := [(1, .pointer (some ⟨BA, 0, none⟩)), (2, .pointer (some ⟨BB, 0, none⟩)), (3, .pointer (some ⟨BC, 0, none⟩)), (4, iV i4_1)]
def rNeeds_a1n (BA BB BC : Nat) (Q : Int → St → Prop) : Alt := ⟨Int, .normal, fun t => rNeeds_l1 BA BB BC t, fun t => [], fun t σ => Q t σ⟩
def rNeeds_l1x0 (BA BB BC : Nat) : List (Nat × Value) := [(2, .pointer (some ⟨BB, 0, none⟩)), (3, .pointer (some ⟨BC, 0, none⟩))]
def rNeeds_a1x0 (BA BB BC : Nat) (Q : St → Prop) : Alt := ⟨Unit, (.exit 0), fun t => rNeeds_l1x0 BA BB BC, fun t => [], fun t σ => Q σ⟩
def rNeeds_B1 (BA BB BC : Nat) (i4_1 : Int) (σ : St) (Nx : Int → St → Prop) (Q0 : St → Prop) : Prop := BodyG Pg (runA Pg) none rNeeds_c1 21 (rNeeds_l1 BA BB BC i4_1) [] [rNeeds_a1n BA BB BC Nx, rNeeds_a1x0 BA BB BC Q0] σ
def rNeeds_L1 (BA BB BC : Nat) (i4_1 : Int) (σ : St) (Q0 : St → Prop) : Prop := LoopG Pg (runA Pg) none rNeeds_c1 21 (rNeeds_l1 BA BB BC i4_1) [] [rNeeds_a1x0 BA BB BC Q0] σ
theorem rNeeds_loop1 (hb : ∀ k i4_1 σ, Inv k i4_1 σ → rNeeds_B1 BA BB BC i4_1 σ (fun i4_1' σ' => ∃ k', k' < k ∧ Inv k' i4_1' σ') Q0) : ∀ k i4_1 σ, Inv k i4_1 σ → rNeeds_L1 BA BB BC i4_1 σ Q0 :=
 fun k i4_1 σ h => loopG_inv (alts := [rNeeds_a1x0 BA BB BC Q0]) (T := Int) (lf := fun t => rNeeds_l1 BA BB BC t) (mf := fun t => []) (Inv := fun k t σ => Inv k t σ) (ai (exNe 0) trivial) (fun k t σ h => hb k t σ h) k i4_1 σ h
theorem rNeeds_s1a (h1 : loadA Pg σ 23 ⟨BA, 1, none⟩ = some (.slice (some qA_a) lB cA)) (h2 : loadA Pg σ 52 (aadd qA_a (Int.toNat i4_1 * 9)) = some (.agg ⟨ints9 nM nL nN nP nQ nR nK nO nW⟩)) (h3 : CallsA Pg 30 [.agg ⟨ints9 nM nL nN nP nQ nR nK nO nW⟩] σ (iV nU) σ) (h4 : effOp Pg (evL [.pointer (some ⟨BC, 0 + Int.toNat i4_1 * 1, none⟩), iV nU]) σ (.store 3 (.tmp 0) (.tmp 1)) = some (undef, σY)) (nx : Nx (i4_1 + 1) σY) (u1 : i4_1 < ((lB : Nat) : Int) := by omega) (u2 : 0 ≤ i4_1 ∧ i4_1 < ((lB : Nat) : Int) := by omega) (u3 : 0 ≤ i4_1 ∧ i4_1 < 5 := by omega) (u4 : -9223372036854775808 ≤ i4_1 + 1 ∧ i4_1 + 1 ≤ 9223372036854775807 := by omega) : rNeeds_B1 BA BB BC i4_1 σ Nx Q0 :=
 body_of [.g, .g, .l (.slice (some qA_a) lB cA), .g, .b true, .g, .g, .l (.slice (some qA_a) lB cA), .g, .i, .l (.agg ⟨ints9 nM nL nN nP nQ nR nK nO nW⟩), .c (iV nU) σ, .i, .e undef σY, .g, .n (i4_1 + 1), .g, .fin (rNeeds_a1n BA BB BC Nx) (i4_1 + 1)] (fun g => kc (by kernel_rfl) (ai h1 (ai (ltI_tt u1) (ai h1 (ai u2 (ai h2 (ai h3 (ai u3 (ai h4 (ai (wrap64 (n := i4_1 + 1) u4.1 u4.2) (fin (alts := [rNeeds_a1n BA BB BC Nx, rNeeds_a1x0 BA BB BC Q0]) (rNeeds_a1n BA BB BC Nx) (i4_1 + 1) nx in0)))))))))))
theorem rNeeds_s1b (h1 : loadA Pg σ 23 ⟨BA, 1, none⟩ = some (.slice qA lB cA)) (nx : Q0 σ) (u1 : ¬ i4_1 < ((lB : Nat) : Int) := by omega) : rNeeds_B1 BA BB BC i4_1 σ Nx Q0 :=
 body_of [.g, .g, .l (.slice qA lB cA), .g, .b false, .fin (rNeeds_a1x0 BA BB BC Q0) ()] (fun g => kc (by kernel_rfl) (ai h1 (ai (ltI_ff u1) (fin (alts := [rNeeds_a1n BA BB BC Nx, rNeeds_a1x0 BA BB BC Q0]) (rNeeds_a1x0 BA BB BC Q0) () nx (inS in0)))))
def rNeeds_K1_0 (BA BB BC : Nat) (σ : St) (Q : Value → St → Prop) : Prop := ∀ g : Nat → Value, ∃ an, Hid (kAt Pg (runA Pg) none (bodyOf Pg 22) [1, 1, 0, 1, 0] (kFn Pg 22 Q) (.exit 0) ⟨Fm 21 (ov (rNeeds_l1x0 BA BB BC) g), []⟩ σ an)
theorem rNeeds_ra (hL : rNeeds_L1 σ.next (σ.next + 1) (σ.next + 2) 0 (((σ.row [.slice gS gS_l gS_c, .slice gB gB_l gB_c] 2).row (ints5 0 0 0 0 0) 1).row (ints5 0 0 0 0 0) 1) P0) (k0 : ∀ σ', P0 σ' → rNeeds_K1_0 σ.next (σ.next + 1) (σ.next + 2) σ' Q) : RunsQ Pg 22 [.agg ⟨[.slice gS gS_l gS_c, .slice gB gB_l gB_c]⟩] σ Q :=
 runsQ_of [.g, .g, .g, .g, .lf 21 (rNeeds_l1 σ.next (σ.next + 1) (σ.next + 2) 0) [rNeeds_a1x0 σ.next (σ.next + 1) (σ.next + 2) P0]] (kc (by kernel_rfl) (ai (ai tt (ai (arf (rNeeds_l1 σ.next (σ.next + 1) (σ.next + 2) 0)) hL)) (ai (fun (t : Unit) (g' : Nat → Value) (σ' : St) (q : P0 σ') => k0 σ' q g') trivial)))
theorem rNeeds_t1x0a (h1 : loadA Pg σ 39 ⟨BC, 0, none⟩ = some (.agg ⟨cs1838⟩)) (h2 : effOp Pg (evL [.pointer (some ⟨BB, 0, none⟩), .agg ⟨cs1838⟩]) σ (.store 39 (.tmp 0) (.tmp 1)) = some (undef, σS)) (h3 : loadA Pg σS 39 ⟨BB, 0, none⟩ = some (.agg ⟨cs1840⟩)) (nx : Q (.agg ⟨cs1840⟩) σS) : rNeeds_K1_0 BA BB BC σ Q :=
 fun g => ⟨[.l (.agg ⟨cs1838⟩), .e undef σS, .l (.agg ⟨cs1840⟩)], kc (by kernel_rfl) (ai h1 (ai h2 (ai h3 nx)))⟩
end Go.Proofs.Ythcdddbghldmiaa
