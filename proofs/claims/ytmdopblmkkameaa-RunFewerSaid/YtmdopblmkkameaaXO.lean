
import Derived.Test.YtmdopblmkkameaaTy
namespace Go.Proofs.Ytmdopblmkkameaa
open Go Go.Lay
open Try renaming prog → Pg
set_option linter.unusedVariables false
set_option maxRecDepth 20000
variable {s q2 : Option Addr} {s_l s_c l2 c2 : Nat} {v n1 i8_1 nG i4_1 i : Int} {σ σ4 : St} {Q : Value → St → Prop} {Inv : Nat → Int → St → Prop} {Qr Nx Pr : Int → St → Prop} {Q0 P0 : St → Prop} {s_a v0 v1 : Addr} {b3 : Bool}
theorem contains_ra (h1 : CallsA Pg 87 [.slice s s_l s_c, iV v] σ (iV n1) σ) (nx : Q (.bool true) σ) (u1 : 0 ≤ n1 := by omega) : RunsQ Pg 72 [.slice s s_l s_c, iV v] σ Q :=
 runsQ_of [.g, .g, .g, .c (iV n1) σ, .b true, .g] (kc (by kernel_rfl) (ai h1 (ai (leI_tt u1) nx)))
theorem contains_rb (h1 : CallsA Pg 87 [.slice s s_l s_c, iV v] σ (iV n1) σ) (nx : Q (.bool false) σ) (u1 : ¬ 0 ≤ n1 := by omega) : RunsQ Pg 72 [.slice s s_l s_c, iV v] σ Q :=
 runsQ_of [.g, .g, .g, .c (iV n1) σ, .b false, .g] (kc (by kernel_rfl) (ai h1 (ai (leI_ff u1) nx)))
noncomputable def sindex_c1 : Code := (Code.part [1, 0, 1, 0, 0] (bodyOf Pg 87))
def sindex_l1 (s : Option Addr) (s_l s_c : Nat) (v i8_1 : Int) : List (Nat × Value) := [(0, .slice s s_l s_c), (1, iV v), (7, iV ((s_l : Nat) : Int)), (8, iV i8_1)]
def sindex_a1n (s : Option Addr) (s_l s_c : Nat) (v : Int) (Q : Int → St → Prop) : Alt := ⟨Int, .normal, fun t => sindex_l1 s s_l s_c v t, fun t => [], fun t σ => Q t σ⟩
def sindex_l1xr (s : Option Addr) (s_l s_c : Nat) (v i4_1 : Int) : List (Nat × Value) := [(4, iV i4_1)]
def sindex_a1xr (s : Option Addr) (s_l s_c : Nat) (v : Int) (Q : Int → St → Prop) : Alt := ⟨Int, .ret, fun t => sindex_l1xr s s_l s_c v t, fun t => [], fun t σ => Q t σ⟩
def sindex_l1x0 (s : Option Addr) (s_l s_c : Nat) (v : Int) : List (Nat × Value) := []
def sindex_a1x0 (s : Option Addr) (s_l s_c : Nat) (v : Int) (Q : St → Prop) : Alt := ⟨Unit, (.exit 0), fun t => sindex_l1x0 s s_l s_c v, fun t => [], fun t σ => Q σ⟩
def sindex_B1 (s : Option Addr) (s_l s_c : Nat) (v i8_1 : Int) (σ : St) (Nx : Int → St → Prop) (Qr : Int → St → Prop) (Q0 : St → Prop) : Prop := BodyG Pg (runA Pg) none sindex_c1 19 (sindex_l1 s s_l s_c v i8_1) [] [sindex_a1n s s_l s_c v Nx, sindex_a1xr s s_l s_c v Qr, sindex_a1x0 s s_l s_c v Q0] σ
def sindex_L1 (s : Option Addr) (s_l s_c : Nat) (v i8_1 : Int) (σ : St) (Qr : Int → St → Prop) (Q0 : St → Prop) : Prop := LoopG Pg (runA Pg) none sindex_c1 19 (sindex_l1 s s_l s_c v i8_1) [] [sindex_a1xr s s_l s_c v Qr, sindex_a1x0 s s_l s_c v Q0] σ
theorem sindex_loop1 (hb : ∀ k i8_1 σ, Inv k i8_1 σ → sindex_B1 s s_l s_c v i8_1 σ (fun i8_1' σ' => ∃ k', k' < k ∧ Inv k' i8_1' σ') Qr Q0) : ∀ k i8_1 σ, Inv k i8_1 σ → sindex_L1 s s_l s_c v i8_1 σ Qr Q0 :=
 fun k i8_1 σ h => loopG_inv (alts := [sindex_a1xr s s_l s_c v Qr, sindex_a1x0 s s_l s_c v Q0]) (T := Int) (lf := fun t => sindex_l1 s s_l s_c v t) (mf := fun t => []) (Inv := fun k t σ => Inv k t σ) (ai retNe (ai (exNe 0) trivial)) (fun k t σ h => hb k t σ h) k i8_1 σ h
theorem sindex_s1a (h1 : loadA Pg σ 3 (aadd s_a (Int.toNat i8_1 * 1)) = some (iV nG)) (nx : Qr i8_1 σ) (u1 : i8_1 < ((s_l : Nat) : Int) := by omega) (u2 : 0 ≤ i8_1 ∧ i8_1 < ((s_l : Nat) : Int) := by omega) (u3 : v = nG := by omega) : sindex_B1 (some s_a) s_l s_c v i8_1 σ Nx Qr Q0 :=
 body_of [.b true, .g, .g, .g, .g, .g, .i, .l (iV nG), .b true, .g, .g, .fin (sindex_a1xr (some s_a) s_l s_c v Qr) i8_1] (fun g => kc (by kernel_rfl) (ai (ltI_tt u1) (ai u2 (ai h1 (ai (eqI_tt u3) (fin (alts := [sindex_a1n (some s_a) s_l s_c v Nx, sindex_a1xr (some s_a) s_l s_c v Qr, sindex_a1x0 (some s_a) s_l s_c v Q0]) (sindex_a1xr (some s_a) s_l s_c v Qr) i8_1 nx (inS in0)))))))
theorem sindex_s1b (h1 : loadA Pg σ 3 (aadd s_a (Int.toNat i8_1 * 1)) = some (iV nG)) (nx : Nx (i8_1 + 1) σ) (u1 : i8_1 < ((s_l : Nat) : Int) := by omega) (u2 : 0 ≤ i8_1 ∧ i8_1 < ((s_l : Nat) : Int) := by omega) (u3 : ¬ v = nG := by omega) (u4 : -9223372036854775808 ≤ i8_1 + 1 ∧ i8_1 + 1 ≤ 9223372036854775807 := by omega) : sindex_B1 (some s_a) s_l s_c v i8_1 σ Nx Qr Q0 :=
 body_of [.b true, .g, .g, .g, .g, .g, .i, .l (iV nG), .b false, .n (i8_1 + 1), .g, .fin (sindex_a1n (some s_a) s_l s_c v Nx) (i8_1 + 1)] (fun g => kc (by kernel_rfl) (ai (ltI_tt u1) (ai u2 (ai h1 (ai (eqI_ff u3) (ai (wrap64 (n := i8_1 + 1) u4.1 u4.2) (fin (alts := [sindex_a1n (some s_a) s_l s_c v Nx, sindex_a1xr (some s_a) s_l s_c v Qr, sindex_a1x0 (some s_a) s_l s_c v Q0]) (sindex_a1n (some s_a) s_l s_c v Nx) (i8_1 + 1) nx in0)))))))
theorem sindex_s1c (nx : Q0 σ) (u1 : ¬ i8_1 < ((s_l : Nat) : Int) := by omega) : sindex_B1 s s_l s_c v i8_1 σ Nx Qr Q0 :=
 body_of [.b false, .fin (sindex_a1x0 s s_l s_c v Q0) ()] (fun g => kc (by kernel_rfl) (ai (ltI_ff u1) (fin (alts := [sindex_a1n s s_l s_c v Nx, sindex_a1xr s s_l s_c v Qr, sindex_a1x0 s s_l s_c v Q0]) (sindex_a1x0 s s_l s_c v Q0) () nx (inS (inS in0)))))
def sindex_K1_r (s : Option Addr) (s_l s_c : Nat) (v i4_1 : Int) (σ : St) (Q : Value → St → Prop) : Prop := ∀ g : Nat → Value, ∃ an, Hid (kAt Pg (runA Pg) none (bodyOf Pg 87) [1, 0, 1, 0] (kFn Pg 87 Q) .ret ⟨Fm 19 (ov (sindex_l1xr s s_l s_c v i4_1) g), []⟩ σ an)
def sindex_K1_0 (s : Option Addr) (s_l s_c : Nat) (v : Int) (σ : St) (Q : Value → St → Prop) : Prop := ∀ g : Nat → Value, ∃ an, Hid (kAt Pg (runA Pg) none (bodyOf Pg 87) [1, 0, 1, 0] (kFn Pg 87 Q) (.exit 0) ⟨Fm 19 (ov (sindex_l1x0 s s_l s_c v) g), []⟩ σ an)
theorem sindex_ra (hL : sindex_L1 s s_l s_c v 0 σ Pr P0) (kr : ∀ i4_1' σ', Pr i4_1' σ' → sindex_K1_r s s_l s_c v i4_1' σ' Q) (k0 : ∀ σ', P0 σ' → sindex_K1_0 s s_l s_c v σ' Q) : RunsQ Pg 87 [.slice s s_l s_c, iV v] σ Q :=
 runsQ_of [.g, .g, .g, .g, .lf 19 (sindex_l1 s s_l s_c v 0) [sindex_a1xr s s_l s_c v Pr, sindex_a1x0 s s_l s_c v P0]] (kc (by kernel_rfl) (ai (ai tt (ai (arf (sindex_l1 s s_l s_c v 0)) hL)) (ai (fun (t : Int) (g' : Nat → Value) (σ' : St) (q : Pr t σ') => kr t σ' q g') (ai (fun (t : Unit) (g' : Nat → Value) (σ' : St) (q : P0 σ') => k0 σ' q g') trivial))))
theorem sindex_t1xra (nx : Q (iV i4_1) σ) : sindex_K1_r s s_l s_c v i4_1 σ Q :=
 fun g => ⟨[], kc (by kernel_rfl) nx⟩
theorem sindex_t1x0a (nx : Q (iV (-1)) σ) : sindex_K1_0 s s_l s_c v σ Q :=
 fun g => ⟨[.g], kc (by kernel_rfl) nx⟩
theorem rising1_ra (h1 : loadA Pg σ 3 v0 = some (iV n1)) (h2 : loadA Pg σ 32 (aadd v1 3) = some (.slice q2 l2 c2)) (h3 : CallsA Pg 56 [iV i, iV (n1 + 1), iV (((l2 : Nat) : Int) - 1)] σ (.bool b3) σ) (h4 : effOp Pg (evL [.pointer (some v0), iV i]) σ (.store 3 (.tmp 0) (.tmp 1)) = some (undef, σ4)) (nx : Q (.bool b3) σ4) (u1 : -9223372036854775808 ≤ n1 + 1 ∧ n1 + 1 ≤ 9223372036854775807 := by omega) (u2 : -9223372036854775808 ≤ ((l2 : Nat) : Int) - 1 ∧ ((l2 : Nat) : Int) - 1 ≤ 9223372036854775807 := by omega) : RunsQ Pg 85 [iV i, .pointer (some v0), .pointer (some v1)] σ Q :=
 runsQ_of [.g, .g, .l (iV n1), .n (n1 + 1), .g, .l (.slice q2 l2 c2), .g, .n (((l2 : Nat) : Int) - 1), .c (.bool b3) σ, .g, .g, .e undef σ4, .g, .g] (kc (by kernel_rfl) (ai h1 (ai (wrap64 (n := n1 + 1) u1.1 u1.2) (ai h2 (ai (wrap64 (n := ((l2 : Nat) : Int) - 1) u2.1 u2.2) (ai h3 (ai h4 nx)))))))
end Go.Proofs.Ytmdopblmkkameaa
