import Derived.Test.YtffgfojabcbegaaDoorXA
import Derived.Test.YtffgfojabcbegaaDoorTL
import Derived.Test.YtffgfojabcbegaaDoorXB
set_option linter.unusedVariables false
set_option maxRecDepth 20000
set_option linter.unusedSimpArgs false
namespace Go.Proofs.YtffgfojabcbegaaDoor
open Go Go.Lay
open Tryd renaming prog → Pg
section
variable {l part : Option Addr} {l_l l_c part_l part_c : Nat} {Inv : Nat → Int → Int → St → Prop} {Q0 P0 : Int → St → Prop} {i5_1 i6_1 nA nC nG nE nF nD nT nU nV nW nX nY nBB nCB nDB nEB nFB nGB : Int} {l_a part_a : Addr} {σ : St} {Nx : Int → Int → St → Prop} {Q : Value → St → Prop}
noncomputable def has_c1 : Code := (Code.part [1, 1, 0, 1, 0, 0] (bodyOf Pg 15))
def has_l1 (l : Option Addr) (l_l l_c : Nat) (part : Option Addr) (part_l part_c : Nat) (i5_1 i6_1 : Int) : List (Nat × Value) := [(0, .slice l l_l l_c), (1, .slice part part_l part_c), (5, iV i5_1), (6, iV i6_1)]
def has_a1n (l : Option Addr) (l_l l_c : Nat) (part : Option Addr) (part_l part_c : Nat) (Q : Int → Int → St → Prop) : Alt := ⟨Int × Int, .normal, fun t => has_l1 l l_l l_c part part_l part_c t.1 t.2, fun t => [], fun t σ => Q t.1 t.2 σ⟩
def has_l1x0 (l : Option Addr) (l_l l_c : Nat) (part : Option Addr) (part_l part_c : Nat) (i5_1 : Int) : List (Nat × Value) := [(1, .slice part part_l part_c), (5, iV i5_1)]
def has_a1x0 (l : Option Addr) (l_l l_c : Nat) (part : Option Addr) (part_l part_c : Nat) (Q : Int → St → Prop) : Alt := ⟨Int, (.exit 0), fun t => has_l1x0 l l_l l_c part part_l part_c t, fun t => [], fun t σ => Q t σ⟩
def has_B1 (l : Option Addr) (l_l l_c : Nat) (part : Option Addr) (part_l part_c : Nat) (i5_1 i6_1 : Int) (σ : St) (Nx : Int → Int → St → Prop) (Q0 : Int → St → Prop) : Prop := BodyG Pg (runA Pg) none has_c1 35 (has_l1 l l_l l_c part part_l part_c i5_1 i6_1) [] [has_a1n l l_l l_c part part_l part_c Nx, has_a1x0 l l_l l_c part part_l part_c Q0] σ
def has_L1 (l : Option Addr) (l_l l_c : Nat) (part : Option Addr) (part_l part_c : Nat) (i5_1 i6_1 : Int) (σ : St) (Q0 : Int → St → Prop) : Prop := LoopG Pg (runA Pg) none has_c1 35 (has_l1 l l_l l_c part part_l part_c i5_1 i6_1) [] [has_a1x0 l l_l l_c part part_l part_c Q0] σ
theorem has_loop1 (hb : ∀ k i5_1 i6_1 σ, Inv k i5_1 i6_1 σ → has_B1 l l_l l_c part part_l part_c i5_1 i6_1 σ (fun i5_1' i6_1' σ' => ∃ k', k' < k ∧ Inv k' i5_1' i6_1' σ') Q0) : ∀ k i5_1 i6_1 σ, Inv k i5_1 i6_1 σ → has_L1 l l_l l_c part part_l part_c i5_1 i6_1 σ Q0 :=
 fun k i5_1 i6_1 σ h => loopG_inv (alts := [has_a1x0 l l_l l_c part part_l part_c Q0]) (T := Int × Int) (lf := fun t => has_l1 l l_l l_c part part_l part_c t.1 t.2) (mf := fun t => []) (Inv := fun k t σ => Inv k t.1 t.2 σ) (ai (exNe 0) trivial) (fun k t σ h => hb k t.1 t.2 σ h) k (i5_1, i6_1) σ h
theorem has_s1a (h1 : loadA Pg σ 40 (aadd l_a (Int.toNat i6_1 * 6)) = some (.agg ⟨rcd nA nC nG nE nF nD⟩)) (h2 : loadA Pg σ 63 (aadd part_a (Int.toNat i5_1 * 6)) = some (.agg ⟨rcd nT nU nV nW nX nY⟩)) (h3 : CallsA Pg 26 [.agg ⟨rcd nT nU nV nW nX nY⟩] σ (.agg ⟨rcd nBB nCB nDB nEB nFB nGB⟩) σ) (h4 : binA Pg .eql 40 (.tmp 22) (.tmp 27) (.agg ⟨rcd nA nC nG nE nF nD⟩) (.agg ⟨rcd nBB nCB nDB nEB nFB nGB⟩) = some (.bool true)) (nx : Nx (i5_1 + 1) (i6_1 + 1) σ) (u1 : i6_1 < ((l_l : Nat) : Int) := by omega) (u2 : i5_1 < ((part_l : Nat) : Int) := by omega) (u3 : 0 ≤ i6_1 ∧ i6_1 < ((l_l : Nat) : Int) := by omega) (u4 : 0 ≤ i5_1 ∧ i5_1 < ((part_l : Nat) : Int) := by omega) (u5 : -9223372036854775808 ≤ i5_1 + 1 ∧ i5_1 + 1 ≤ 9223372036854775807 := by omega) (u6 : -9223372036854775808 ≤ i6_1 + 1 ∧ i6_1 + 1 ≤ 9223372036854775807 := by omega) (b_l_a_block : l_a.block < σ.q := by omega) (b_part_a_block : part_a.block < σ.q := by omega) : has_B1 (some l_a) l_l l_c (some part_a) part_l part_c i5_1 i6_1 σ Nx Q0 :=
 body_of [.g, .g, .g, .b true, .g, .g, .g, .g, .b true, .g, .g, .g, .i, .l (.agg ⟨rcd nA nC nG nE nF nD⟩), .g, .g, .i, .l (.agg ⟨rcd nT nU nV nW nX nY⟩), .c (.agg ⟨rcd nBB nCB nDB nEB nFB nGB⟩) σ, .v (.bool true), .g, .n (i5_1 + 1), .g, .g, .n (i6_1 + 1), .g, .fin (has_a1n (some l_a) l_l l_c (some part_a) part_l part_c Nx) (i5_1 + 1, i6_1 + 1)] (fun g => kc (by kernel_rfl) (ai (ltI_tt u1) (ai (ltI_tt u2) (ai u3 (ai h1 (ai u4 (ai h2 (ai h3 (ai h4 (ai ((belowL_cons (belowB_ptr b_l_a_block) belowL_nil) : belowL σ.q [.pointer (some (aadd l_a (Int.toNat i6_1 * 6)))]) (ai ((belowL_cons (belowB_ptr b_part_a_block) belowL_nil) : belowL σ.q [.pointer (some (aadd part_a (Int.toNat i5_1 * 6)))]) (ai ((belowL_cons (belowB_rig rfl) belowL_nil) : belowL σ.q [.agg ⟨rcd nT nU nV nW nX nY⟩]) (ai (⟨⟨b_l_a_block, rfl⟩, h1⟩ : (((aadd l_a (Int.toNat i6_1 * 6)).block < σ.q ∧ goodB RD (.agg ⟨rcd nA nC nG nE nF nD⟩) = true) ∧ loadA Pg σ 40 (aadd l_a (Int.toNat i6_1 * 6)) = some (.agg ⟨rcd nA nC nG nE nF nD⟩))) (ai (⟨⟨b_l_a_block, rfl⟩, h1⟩ : (((aadd l_a (Int.toNat i6_1 * 6)).block < σ.q ∧ goodB RD (.agg ⟨rcd nA nC nG nE nF nD⟩) = true) ∧ loadA Pg σ 40 (aadd l_a (Int.toNat i6_1 * 6)) = some (.agg ⟨rcd nA nC nG nE nF nD⟩))) (ai (wrap64 (n := i5_1 + 1) u5.1 u5.2) (ai (wrap64 (n := i6_1 + 1) u6.1 u6.2) (fin (alts := [has_a1n (some l_a) l_l l_c (some part_a) part_l part_c Nx, has_a1x0 (some l_a) l_l l_c (some part_a) part_l part_c Q0]) (has_a1n (some l_a) l_l l_c (some part_a) part_l part_c Nx) (i5_1 + 1, i6_1 + 1) nx in0)))))))))))))))))
theorem has_s1b (h1 : loadA Pg σ 40 (aadd l_a (Int.toNat i6_1 * 6)) = some (.agg ⟨rcd nA nC nG nE nF nD⟩)) (h2 : loadA Pg σ 63 (aadd part_a (Int.toNat i5_1 * 6)) = some (.agg ⟨rcd nT nU nV nW nX nY⟩)) (h3 : CallsA Pg 26 [.agg ⟨rcd nT nU nV nW nX nY⟩] σ (.agg ⟨rcd nBB nCB nDB nEB nFB nGB⟩) σ) (h4 : binA Pg .eql 40 (.tmp 22) (.tmp 27) (.agg ⟨rcd nA nC nG nE nF nD⟩) (.agg ⟨rcd nBB nCB nDB nEB nFB nGB⟩) = some (.bool false)) (nx : Nx i5_1 (i6_1 + 1) σ) (u1 : i6_1 < ((l_l : Nat) : Int) := by omega) (u2 : i5_1 < ((part_l : Nat) : Int) := by omega) (u3 : 0 ≤ i6_1 ∧ i6_1 < ((l_l : Nat) : Int) := by omega) (u4 : 0 ≤ i5_1 ∧ i5_1 < ((part_l : Nat) : Int) := by omega) (u5 : -9223372036854775808 ≤ i6_1 + 1 ∧ i6_1 + 1 ≤ 9223372036854775807 := by omega) (b_l_a_block : l_a.block < σ.q := by omega) (b_part_a_block : part_a.block < σ.q := by omega) : has_B1 (some l_a) l_l l_c (some part_a) part_l part_c i5_1 i6_1 σ Nx Q0 :=
 body_of [.g, .g, .g, .b true, .g, .g, .g, .g, .b true, .g, .g, .g, .i, .l (.agg ⟨rcd nA nC nG nE nF nD⟩), .g, .g, .i, .l (.agg ⟨rcd nT nU nV nW nX nY⟩), .c (.agg ⟨rcd nBB nCB nDB nEB nFB nGB⟩) σ, .v (.bool false), .g, .n (i6_1 + 1), .g, .fin (has_a1n (some l_a) l_l l_c (some part_a) part_l part_c Nx) (i5_1, i6_1 + 1)] (fun g => kc (by kernel_rfl) (ai (ltI_tt u1) (ai (ltI_tt u2) (ai u3 (ai h1 (ai u4 (ai h2 (ai h3 (ai h4 (ai ((belowL_cons (belowB_ptr b_l_a_block) belowL_nil) : belowL σ.q [.pointer (some (aadd l_a (Int.toNat i6_1 * 6)))]) (ai ((belowL_cons (belowB_ptr b_part_a_block) belowL_nil) : belowL σ.q [.pointer (some (aadd part_a (Int.toNat i5_1 * 6)))]) (ai ((belowL_cons (belowB_rig rfl) belowL_nil) : belowL σ.q [.agg ⟨rcd nT nU nV nW nX nY⟩]) (ai (⟨⟨b_l_a_block, rfl⟩, h1⟩ : (((aadd l_a (Int.toNat i6_1 * 6)).block < σ.q ∧ goodB RD (.agg ⟨rcd nA nC nG nE nF nD⟩) = true) ∧ loadA Pg σ 40 (aadd l_a (Int.toNat i6_1 * 6)) = some (.agg ⟨rcd nA nC nG nE nF nD⟩))) (ai (⟨⟨b_l_a_block, rfl⟩, h1⟩ : (((aadd l_a (Int.toNat i6_1 * 6)).block < σ.q ∧ goodB RD (.agg ⟨rcd nA nC nG nE nF nD⟩) = true) ∧ loadA Pg σ 40 (aadd l_a (Int.toNat i6_1 * 6)) = some (.agg ⟨rcd nA nC nG nE nF nD⟩))) (ai (wrap64 (n := i6_1 + 1) u5.1 u5.2) (fin (alts := [has_a1n (some l_a) l_l l_c (some part_a) part_l part_c Nx, has_a1x0 (some l_a) l_l l_c (some part_a) part_l part_c Q0]) (has_a1n (some l_a) l_l l_c (some part_a) part_l part_c Nx) (i5_1, i6_1 + 1) nx in0))))))))))))))))
theorem has_s1c (nx : Q0 i5_1 σ) (u1 : i6_1 < ((l_l : Nat) : Int) := by omega) (u2 : ¬ i5_1 < ((part_l : Nat) : Int) := by omega) : has_B1 l l_l l_c part part_l part_c i5_1 i6_1 σ Nx Q0 :=
 body_of [.g, .g, .g, .b true, .g, .g, .g, .g, .b false, .g, .fin (has_a1x0 l l_l l_c part part_l part_c Q0) i5_1] (fun g => kc (by kernel_rfl) (ai (ltI_tt u1) (ai (ltI_ff u2) (fin (alts := [has_a1n l l_l l_c part part_l part_c Nx, has_a1x0 l l_l l_c part part_l part_c Q0]) (has_a1x0 l l_l l_c part part_l part_c Q0) i5_1 nx (inS in0)))))
theorem has_s1d (nx : Q0 i5_1 σ) (u1 : ¬ i6_1 < ((l_l : Nat) : Int) := by omega) : has_B1 l l_l l_c part part_l part_c i5_1 i6_1 σ Nx Q0 :=
 body_of [.g, .g, .g, .b false, .g, .g, .fin (has_a1x0 l l_l l_c part part_l part_c Q0) i5_1] (fun g => kc (by kernel_rfl) (ai (ltI_ff u1) (fin (alts := [has_a1n l l_l l_c part part_l part_c Nx, has_a1x0 l l_l l_c part part_l part_c Q0]) (has_a1x0 l l_l l_c part part_l part_c Q0) i5_1 nx (inS in0))))
def has_K1_0 (l : Option Addr) (l_l l_c : Nat) (part : Option Addr) (part_l part_c : Nat) (i5_1 : Int) (σ : St) (Q : Value → St → Prop) : Prop := ∀ g : Nat → Value, ∃ an, Hid (kAt Pg (runA Pg) none (bodyOf Pg 15) [1, 1, 0, 1, 0] (kFn Pg 15 Q) (.exit 0) ⟨Fm 35 (ov (has_l1x0 l l_l l_c part part_l part_c i5_1) g), []⟩ σ an)
theorem has_ra (hL : has_L1 l l_l l_c part part_l part_c 0 0 σ P0) (k0 : ∀ i5_1' σ', P0 i5_1' σ' → has_K1_0 l l_l l_c part part_l part_c i5_1' σ' Q) : RunsQ Pg 15 [.slice l l_l l_c, .slice part part_l part_c] σ Q :=
 runsQ_of [.g, .g, .g, .lf 35 (has_l1 l l_l l_c part part_l part_c 0 0) [has_a1x0 l l_l l_c part part_l part_c P0]] (kc (by kernel_rfl) (ai (ai tt (ai (arf (has_l1 l l_l l_c part part_l part_c 0 0)) hL)) (ai (fun (t : Int) (g' : Nat → Value) (σ' : St) (q : P0 t σ') => k0 t σ' q g') trivial)))
theorem has_t1x0a (nx : Q (.bool true) σ) (u1 : i5_1 = ((part_l : Nat) : Int) := by omega) : has_K1_0 l l_l l_c part part_l part_c i5_1 σ Q :=
 fun g => ⟨[.g, .g, .g, .b true, .g], kc (by kernel_rfl) (ai (eqI_tt u1) nx)⟩
theorem has_t1x0b (nx : Q (.bool false) σ) (u1 : ¬ i5_1 = ((part_l : Nat) : Int) := by omega) : has_K1_0 l l_l l_c part part_l part_c i5_1 σ Q :=
 fun g => ⟨[.g, .g, .g, .b false, .g], kc (by kernel_rfl) (ai (eqI_ff u1) nx)⟩
end
theorem app_st {P : Program} {σ : St} {n0 len c i : Nat} {a : Addr} {cs : List Value} {t : TypeId} {v : Value} (h : App σ n0 1 (.slice (some a) len c) len cs) (hv : v.cells.toList = [v]) (hs : sizeT P t = some 1) (hc : cellB v = true) (hi : i < len) :
  ∃ τ, effOp P (evL [.pointer (some (aadd a (Int.toNat (i : Int) * 1))), v]) σ (.store t (.tmp 0) (.tmp 1)) = some (undef, τ) ∧ App τ n0 1 (.slice (some a) len c) len (cs.set i v) ∧ Only (· = a.block) σ τ := by
 cases h with
 | @more b s nx _ _ sp log hb hsp h0 hlt hl hp hsn =>
  have e : aadd (⟨b, 0, sp⟩ : Addr) (Int.toNat (i : Int) * 1) = ⟨b, i, sp⟩ := by rw [Int.toNat_natCast, Nat.mul_one]; simp [aadd]
  rw [e]
  have hcs : cs.take i ++ ([v] ++ cs.drop (i + 1)) = cs.set i v := by rw [List.set_eq_take_append_cons_drop, if_pos (by omega)]; rfl
  have hw : writeRow σ ⟨b, i, sp⟩ [v] = some (σ.put b (.cells (cs.set i v) 1 [(s, cs.length)] nx false)) := by
   have h2 : (Nat.beq s (stampOf ⟨b, i, sp⟩) && Nat.ble (i + 1) cs.length && !false && [v].all cellB) = true := by
    have h3 : Nat.beq s (stampOf ⟨b, i, sp⟩) = true := by unfold stampOf; simp only [hsp]; exact Nat.beq_refl _
    have h4 : Nat.ble (i + 1) cs.length = true := (ble_iff _ _).2 (by omega)
    rw [h3, h4]; simp [hc]
   unfold writeRow
   simp only [hb, h2, cond_true, fVs_eq, St.write_eq, List.length_singleton, hcs]
  refine ⟨σ.put b (.cells (cs.set i v) 1 [(s, cs.length)] nx false), ?_, .more (s := s) (log := []) (nx := nx) (by rw [St.put_get, if_pos rfl]; simp) hsp h0 hlt (by simp; omega) hp hsn, Only.put (.inr rfl)⟩
  have h1 : Nat.beq v.cells.toList.length 1 = true := by rw [hv]; rfl
  have : storeA P σ t ⟨b, i, sp⟩ v = some (σ.put b (.cells (cs.set i v) 1 [(s, cs.length)] nx false)) := by
   unfold storeA
   rw [hv] at h1 ⊢
   simp only [hs, h1, cond_true, hw]
  show (storeA P σ t ⟨b, i, sp⟩ v).map _ = _
  rw [this]; rfl
theorem max_see {a b : Int} {σ : St} : seeOp Pg (evL [iV a, iV b]) σ (.call { callee := .builtin .max, args := ⟨tmpsTo 2⟩, argTypes := ⟨[3, 3]⟩ }) = some (iV (max a b)) := by
 have e : pureVal Pg (Builtin.max_ ⟨[3, 3]⟩ 0 ⟨[iV a, iV b]⟩) = some (iV (max a b)) := by
  rw [show max a b = if a < b then b else a by split <;> omega]
  simp only [Builtin.max_, List.foldlM, Builtin.max2]
  rfl
 have e2 : seeOp Pg (evL [iV a, iV b]) σ (.call { callee := .builtin .max, args := ⟨tmpsTo 2⟩, argTypes := ⟨[3, 3]⟩ }) =
   match ((pureVal Pg (Builtin.max_ ⟨[3, 3]⟩ 0 ⟨[iV a, iV b]⟩)).filter (rigidB RD)) with | some v => some v | none => lookOp Pg (evL [iV a, iV b]) σ (.call { callee := .builtin .max, args := ⟨tmpsTo 2⟩, argTypes := ⟨[3, 3]⟩ }) := rfl
 rw [e2, e]; rfl
theorem rem_eq {ox oy : Operand} {t : TypeId} {a b : Int} (h : b ≠ 0) : binA Pg .rem t ox oy (iV a) (iV b) = some (iV (a.tmod b)) := by
 simp [binA, sameKind, intBin, h]
def leftR : List Rec → List Rec → List Rec
 | [], p => p
 | x :: l, p => match p with
  | [] => []
  | y :: q => if x = y then leftR l q else leftR l (y :: q)
theorem leftR_nil (l : List Rec) : leftR l [] = [] := by cases l <;> rfl
theorem leftR_sub : ∀ {l p : List Rec}, p.Sublist l → leftR l p = []
 | [], p, h => by rw [List.sublist_nil.1 h]; rfl
 | x :: l, [], h => rfl
 | x :: l, y :: q, h => by
  show (if x = y then leftR l q else leftR l (y :: q)) = []
  by_cases e : x = y
  ·rw [if_pos e]
   cases h with
   | cons _ h => exact leftR_sub ((List.sublist_cons_self _ _).trans h)
   | cons_cons _ h => exact leftR_sub h
  ·rw [if_neg e]
   cases h with
   | cons _ h => exact leftR_sub h
   | cons_cons _ h => exact absurd rfl e
section
variable {σ τ : St} {bs : List Int} {xs ys : List Rec} {p q : Option Addr} {l m c d : Nat}
theorem has_c (h1 : RecsP σ 40 p l xs) (h2 : RecsP σ 63 q m ys) (hl : l ≤ 1000000) (hm : m ≤ 1000000) : CallsA Pg 15 [.slice p l c, .slice q m d] σ (.bool (decide (leftR xs ys = []))) σ := by
 have e1 := h1.len
 have e2 := h2.len
 refine RunsQ.pure (has_ra (P0 := fun i τ => τ = σ.re ∧ ∃ A : Nat, i = A ∧ A ≤ m ∧ (leftR xs ys = [] ↔ A = m))
  (has_loop1 (Inv := fun k a i τ => ∃ A I : Nat, a = A ∧ i = I ∧ I + k = l ∧ A ≤ m ∧ τ = σ.re ∧ leftR xs ys = leftR (xs.drop I) (ys.drop A)) ?_ l 0 0 σ.re ⟨0, 0, rfl, rfl, by omega, by omega, rfl, rfl⟩) ?_)
 ·rintro k a i τ ⟨A, I, rfl, rfl, hk, hA, rfl, he⟩
  have dn : ys.drop A = [] ↔ A = m := by rw [List.drop_eq_nil_iff]; omega
  by_cases hI : I < l
  rotate_left
  ·refine has_s1d ⟨rfl, A, rfl, hA, ?_⟩ (by omega)
   rw [he, List.drop_eq_nil_of_le (by omega)]; exact dn
  by_cases hAm : A < m
  rotate_left
  ·refine has_s1c ⟨rfl, A, rfl, hA, ?_⟩ (by omega) (by omega)
   rw [he, dn.2 (by omega), leftR_nil]
   exact ⟨fun _ => by omega, fun _ => rfl⟩
  have s1 := SlV.le h1 (le0 σ)
  have s2 := SlV.le h2 (le0 σ)
  obtain ⟨a, rfl, x, hx, l1⟩ := slv_at s1 hI
  obtain ⟨b, rfl, y, hy, l2⟩ := slv_at s2 hAm
  have ba := slv_lt s1 a rfl
  have bb := slv_lt s2 b rfl
  have hxd : xs.drop I = x :: xs.drop (I + 1) := by
   have e : xs[I]'(by omega) = x := by have := hx; rw [List.getElem?_eq_getElem (by omega)] at this; exact Option.some.inj this
   rw [← e]; exact List.drop_eq_getElem_cons (by omega)
  have hyd : ys.drop A = y :: ys.drop (A + 1) := by
   have e : ys[A]'(by omega) = y := by have := hy; rw [List.getElem?_eq_getElem (by omega)] at this; exact Option.some.inj this
   rw [← e]; exact List.drop_eq_getElem_cons (by omega)
  rw [hxd, hyd] at he
  have he : leftR xs ys = if x = y then leftR (xs.drop (I + 1)) (ys.drop (A + 1)) else leftR (xs.drop (I + 1)) (y :: ys.drop (A + 1)) := he
  by_cases e : x = y
  ·rw [if_pos e] at he
   exact has_s1a l1 l2 record_c (by rw [eql79, decide_eq_true e]) ⟨k - 1, by omega, A + 1, I + 1, by omega, by omega, by omega, by omega, rfl, he⟩
  ·rw [if_neg e, ← hyd] at he
   exact has_s1b l1 l2 record_c (by rw [eql79, decide_eq_false e]) ⟨k - 1, by omega, A, I + 1, rfl, by omega, by omega, by omega, rfl, he⟩
 ·rintro i τ ⟨rfl, A, rfl, hA, hi⟩
  by_cases e : A = m
  ·exact has_t1x0a ⟨by rw [decide_eq_true (hi.2 e)], Nat.le_refl _⟩ (by omega)
  ·exact has_t1x0b ⟨by rw [decide_eq_false (fun h => e (hi.1 h))], Nat.le_refl _⟩ (by omega)
theorem argTake (h : RecsP σ 63 p l xs) (ag : ArgS σ 6 p l c) {n : Nat} (hn : n ≤ l) {i : Int} (hi : i = n) : sliceA Pg σ 28 (.slice p l c) none (some (iV i)) none = some (.slice (partP p 6 0 c) n c) ∧ RecsP σ 63 (partP p 6 0 c) n (xs.take n) := by
 subst hi
 obtain ⟨h1, h2, _⟩ := ag.part (lo := 0) (hi := n) (lo' := none) (hi' := some (iV (n : Int))) (t := 28) h Tryd.underlying28 (by kernel_rfl) rfl (bound_some rfl (by
  rcases ag with ⟨_, e, _⟩ | ⟨_, _, _, _, _, e, _⟩ <;> omega)) (Nat.zero_le _) hn
 rw [List.drop_zero, Nat.sub_zero, ← List.map_take] at h2
 exact ⟨h1, h2⟩
theorem argDrop (h : RecsP σ 63 p l xs) (ag : ArgS σ 6 p l c) {n : Nat} (hn : n ≤ l) {i : Int} (hi : i = n) : sliceA Pg σ 28 (.slice p l c) (some (iV i)) none none = some (.slice (partP p 6 n c) (l - n) (c - n)) ∧ RecsP σ 63 (partP p 6 n c) (l - n) (xs.drop n) := by
 subst hi
 have hxl := h.len
 obtain ⟨h1, h2, _⟩ := ag.part (lo := n) (hi := l) (lo' := some (iV (n : Int))) (hi' := none) (t := 28) h Tryd.underlying28 (by kernel_rfl) (bound_some rfl hn) rfl hn (Nat.le_refl _)
 rw [← List.map_drop, ← List.map_take, List.take_of_length_le (by simp; omega)] at h2
 exact ⟨h1, h2⟩
theorem BS.head {k : Nat} (h : BS σ p l c bs) (hk : k ≤ l) (hp : 0 < l) {i : Int} (hi : i = k) : ∃ q d, sliceA Pg σ 22 (.slice p l c) none (some (iV i)) none = some (.slice q k d) ∧ BytesP σ q k (bs.take k) := by
 subst hi
 have hl := h.leng
 cases p with
 | none => have : l = 0 := h.cut; omega
 | some a =>
  obtain ⟨hc1, hc2⟩ := h.cut
  have hr := h.row
  have hb1 : boundA (none : Option Value) l (capLow c) = some l := rfl
  have hbk : boundA (some (iV (k : Int))) l (capLow c) = some k := bound_some rfl (by omega)
  have hb3 : boundA (none : Option Value) 0 k = some 0 := rfl
  have hB : BytesP σ (some a) k (bs.take k) := by
   have hr2 : Row σ a ((bs.take k).map byV) := by
    have := hr.part (k := 0) (m := k) (by simp [hl]; omega)
    rw [List.drop_zero, ← List.map_take] at this
    exact this
   exact ⟨⟨by rw [flatB]; simp [hl]; omega, by show Row σ a _; rw [flatB]; exact hr2⟩, by simp [hl]; omega, by intro v hv; obtain ⟨x, _, rfl⟩ := List.mem_map.1 hv; exact elOk_byte x⟩
  have hq : (bif Nat.beq (capLow c) 0 then a else aadd a (0 * 1)) = a := by cases Nat.beq (capLow c) 0 <;> rfl
  cases hx : capExact c with
  | true =>
   refine ⟨some a, capLow c - 0, ?_, hB⟩
   have e1 : Nat.ble 0 (capLow c) = true := (ble_iff _ _).2 (Nat.zero_le _)
   simp only [sliceA, und22, size5, hc1, cond_true, sliceNums, hbk, hb3, hx, Bool.or_true, e1, hq, Nat.sub_zero]
  | false =>
   have e1 : Nat.ble (capLow c) 0 = false := by rw [Bool.eq_false_iff]; intro e; have := (ble_iff _ _).1 e; omega
   refine ⟨some (aadd a (0 * 1)), capLow c - 0 + INEX, ?_, by rw [Nat.zero_mul, aadd0]; exact hB⟩
   simp only [sliceA, und22, size5, hc1, cond_true, sliceNums, hbk, hb3, hx, Option.isSome_none, Bool.or_false, cond_false, e1, Nat.sub_zero]
theorem copyB (h : BytesP σ p l bs) (hl : l ≤ 1000000) : ∃ q d σ', appendA Pg 22 22 (.slice (some ⟨σ.q, 0, none⟩) 0 0) (.slice p l c) (σ.row [] 1) = some (.slice q l d, σ') ∧ New σ σ' ∧ AxB σ' σ.q q l d bs := by
 have hbl := BytesP.len h
 subst hbl
 have a1 : AxB (σ.row [] 1) σ.q (some ⟨σ.q, 0, none⟩) 0 0 [] := Ax.lit (own_new _ _ _) rfl (ex_small (by omega)) (Nat.le_refl _)
 obtain ⟨q, d, σ', g1, g2, g3, g4⟩ := AxB.push (d := c) (bs := []) (xs := bs) a1 (SlV.le h (Le.row _ _ _)) (by simp; omega) (Nat.le_succ _)
 rw [List.nil_append] at g1 g2
 exact ⟨q, d, σ', g1, (New.row σ [] 1).of_only g3 (by rintro b ⟨a, e, rfl⟩; cases e; exact Nat.le_refl _), g2⟩
theorem ax_setB {n0 i : Nat} {p' : Option Addr} {c' : Nat} {x : Int} (h : AxB σ n0 p' l c' bs) (hl : bs.length = l) (hi : i < l) {j : Int} (hj : j = i) : ∃ a σ', p' = some a ∧ effOp Pg (evL [.pointer (some (aadd a (Int.toNat j * 1))), .int .u8 x]) σ (.store 5 (.tmp 0) (.tmp 1)) = some (undef, σ') ∧ AxB σ' n0 p' l c' (bs.set i x) ∧ Only (AtP p') σ σ' := by
 subst hj
 rcases h with h | ⟨b, rfl, rfl, h1, h2, h3, h4⟩
 ·cases p' with
  | none =>
   exfalso
   generalize bs.map byV = cs at h
   cases h
   omega
  | some a =>
   obtain ⟨τ, g1, g2, g3⟩ := app_st (t := 5) (v := byV x) h rfl size5 rfl hi
   refine ⟨a, τ, rfl, g1, .inl (by rw [List.map_set]; exact g2), g3.mono fun b _ e => ⟨a, rfl, e.symm⟩⟩
 ·have hs := h3.stI (P := Pg) (t := 5) (v := byV x) (i := i) rfl size5 rfl (by simp; omega)
  rw [← List.map_set] at hs
  exact ⟨_, _, rfl, hs, .inr ⟨b, rfl, rfl, h1, by simpa using h2, h3.put, h4⟩, (Only.own (S := (· = b)) (.inr rfl)).mono fun b' _ e => ⟨_, rfl, e.symm⟩⟩
end
section
variable {l q1 q6 qA qK qC q4 qM qN qO qP qH qD qG qB qQ qI qU qF qX : Option Addr} {l_l l_c l1 c1 l6 c6 lA cA lM cI lC cC l4 c4 lN cK lO cL lP cM lQ cN lG cO lI cG lE cD lH cF lB cB lR cP lJ cH lU cU lF cE lX cX : Nat} {at_ change n3 n9 i10_1 i11_1 nF n7 nP nQ nAB zA zB zC nR nRB nH nZ nS : Int} {σ σ2 σD σU σ5 σ8 σO σG σL σP σA σE σC σK σM : St} {Q : Value → St → Prop} {Inv : Nat → Int → Int → St → Prop} {Qr Pr : Bool → St → Prop} {Q0 Nx P0 : Int → Int → St → Prop} {qE_a : Addr}
theorem lSpoilt_ra (nx : Q (.bool true) σ) (u1 : ((l_l : Nat) : Int) = 0 := by omega) : TopQ Pg 7 5 [.slice l l_l l_c, .int .u16 at_, .int .u16 change] σ Q :=
 topQ_of [.g, .g, .g, .b true, .g, .g, .g, .g, .c (.bool true) σ, .g] (kc (by kernel_rfl) (ai (eqI_tt u1) (ai (topE : CallsE (topR Pg 7) (.func 7) [] σ (.bool true) σ) nx)))
theorem lSpoilt_rb (nx : Q (.bool true) σ) (u1 : ¬ ((l_l : Nat) : Int) = 0 := by omega) (u2 : 59 < ((l_l : Nat) : Int) := by omega) : TopQ Pg 7 5 [.slice l l_l l_c, .int .u16 at_, .int .u16 change] σ Q :=
 topQ_of [.g, .g, .g, .b false, .g, .g, .g, .b true, .g, .g, .g, .c (.bool true) σ, .g] (kc (by kernel_rfl) (ai (eqI_ff u1) (ai (ltI_tt u2) (ai (topE : CallsE (topR Pg 7) (.func 7) [] σ (.bool true) σ) nx))))
theorem lSpoilt_rc (h1 : CallsA Pg 12 [.slice l l_l l_c] σ (.slice q1 l1 c1) σ2) (h2 : CallsA Pg 11 [.slice q1 l1 c1] σ2 (iV n3) σ2) (nx : Q (.bool true) σ2) (u1 : ¬ ((l_l : Nat) : Int) = 0 := by omega) (u2 : ¬ 59 < ((l_l : Nat) : Int) := by omega) (u3 : ¬ n3 = 0 := by omega) : TopQ Pg 7 5 [.slice l l_l l_c, .int .u16 at_, .int .u16 change] σ Q :=
 topQ_of [.g, .g, .g, .b false, .g, .g, .g, .b false, .g, .g, .g, .c (.slice q1 l1 c1) σ2, .c (iV n3) σ2, .b true, .g, .c (.bool true) σ2, .g] (kc (by kernel_rfl) (ai (eqI_ff u1) (ai (ltI_ff u2) (ai (CallsA.top (aw := 7) h1) (ai (CallsA.top (aw := 7) h2) (ai (neqI_tt u3) (ai (topE : CallsE (topR Pg 7) (.func 7) [] σ2 (.bool true) σ2) nx)))))))
noncomputable def lSpoilt_c1 : Code := (Code.part [1, 1, 1, 1, 1, 1, 0, 0, 0] (bodyOf Pg 5))
def lSpoilt_l1 (l : Option Addr) (l_l l_c : Nat) (change : Int) (q6 : Option Addr) (l6 c6 : Nat) (n9 i10_1 i11_1 : Int) : List (Nat × Value) := [(0, .slice l l_l l_c), (2, .int .u16 change), (7, .slice q6 l6 c6), (9, iV n9), (10, iV i10_1), (11, iV i11_1)]
def lSpoilt_a1n (l : Option Addr) (l_l l_c : Nat) (change : Int) (q6 : Option Addr) (l6 c6 : Nat) (n9 : Int) (Q : Int → Int → St → Prop) : Alt := ⟨Int × Int, .normal, fun t => lSpoilt_l1 l l_l l_c change q6 l6 c6 n9 t.1 t.2, fun t => [], fun t σ => Q t.1 t.2 σ⟩
def lSpoilt_l1xr (l : Option Addr) (l_l l_c : Nat) (change : Int) (q6 : Option Addr) (l6 c6 : Nat) (n9 : Int) (t6_1 : Bool) : List (Nat × Value) := [(6, .bool t6_1)]
def lSpoilt_a1xr (l : Option Addr) (l_l l_c : Nat) (change : Int) (q6 : Option Addr) (l6 c6 : Nat) (n9 : Int) (Q : Bool → St → Prop) : Alt := ⟨Bool, .ret, fun t => lSpoilt_l1xr l l_l l_c change q6 l6 c6 n9 t, fun t => [], fun t σ => Q t σ⟩
def lSpoilt_l1x0 (l : Option Addr) (l_l l_c : Nat) (change : Int) (q6 : Option Addr) (l6 c6 : Nat) (n9 i10_1 i11_1 : Int) : List (Nat × Value) := [(0, .slice l l_l l_c), (2, .int .u16 change), (7, .slice q6 l6 c6), (9, iV n9), (10, iV i10_1), (11, iV i11_1)]
def lSpoilt_a1x0 (l : Option Addr) (l_l l_c : Nat) (change : Int) (q6 : Option Addr) (l6 c6 : Nat) (n9 : Int) (Q : Int → Int → St → Prop) : Alt := ⟨Int × Int, (.exit 0), fun t => lSpoilt_l1x0 l l_l l_c change q6 l6 c6 n9 t.1 t.2, fun t => [], fun t σ => Q t.1 t.2 σ⟩
def lSpoilt_B1 (l : Option Addr) (l_l l_c : Nat) (change : Int) (q6 : Option Addr) (l6 c6 : Nat) (n9 i10_1 i11_1 : Int) (σ : St) (Nx : Int → Int → St → Prop) (Qr : Bool → St → Prop) (Q0 : Int → Int → St → Prop) : Prop := BodyG Pg (topR Pg 7) none lSpoilt_c1 168 (lSpoilt_l1 l l_l l_c change q6 l6 c6 n9 i10_1 i11_1) [] [lSpoilt_a1n l l_l l_c change q6 l6 c6 n9 Nx, lSpoilt_a1xr l l_l l_c change q6 l6 c6 n9 Qr, lSpoilt_a1x0 l l_l l_c change q6 l6 c6 n9 Q0] σ
def lSpoilt_L1 (l : Option Addr) (l_l l_c : Nat) (change : Int) (q6 : Option Addr) (l6 c6 : Nat) (n9 i10_1 i11_1 : Int) (σ : St) (Qr : Bool → St → Prop) (Q0 : Int → Int → St → Prop) : Prop := LoopG Pg (topR Pg 7) none lSpoilt_c1 168 (lSpoilt_l1 l l_l l_c change q6 l6 c6 n9 i10_1 i11_1) [] [lSpoilt_a1xr l l_l l_c change q6 l6 c6 n9 Qr, lSpoilt_a1x0 l l_l l_c change q6 l6 c6 n9 Q0] σ
theorem lSpoilt_loop1 (hb : ∀ k i10_1 i11_1 σ, Inv k i10_1 i11_1 σ → lSpoilt_B1 l l_l l_c change q6 l6 c6 n9 i10_1 i11_1 σ (fun i10_1' i11_1' σ' => ∃ k', k' < k ∧ Inv k' i10_1' i11_1' σ') Qr Q0) : ∀ k i10_1 i11_1 σ, Inv k i10_1 i11_1 σ → lSpoilt_L1 l l_l l_c change q6 l6 c6 n9 i10_1 i11_1 σ Qr Q0 :=
 fun k i10_1 i11_1 σ h => loopG_inv (alts := [lSpoilt_a1xr l l_l l_c change q6 l6 c6 n9 Qr, lSpoilt_a1x0 l l_l l_c change q6 l6 c6 n9 Q0]) (T := Int × Int) (lf := fun t => lSpoilt_l1 l l_l l_c change q6 l6 c6 n9 t.1 t.2) (mf := fun t => []) (Inv := fun k t σ => Inv k t.1 t.2 σ) (ai retNe (ai (exNe 0) trivial)) (fun k t σ h => hb k t.1 t.2 σ h) k (i10_1, i11_1) σ h
theorem lSpoilt_s1b (h1 : sliceA Pg σ 28 (.slice l l_l l_c) none (some (iV (i10_1 + 1))) none = some (.slice qA lA cA)) (h2 : CallsA Pg 14 [.slice qA lA cA] σ (.slice qK lM cI) σD) (h3 : CallsA Pg 13 [.slice qK lM cI] σD (.tuple ⟨[.slice qC lC cC, iV nF]⟩) σU) (nx : Q0 i10_1 i11_1 σU) (u1 : i10_1 < ((l_l : Nat) : Int) := by omega) (u2 : -9223372036854775808 ≤ i10_1 + 1 ∧ i10_1 + 1 ≤ 9223372036854775807 := by omega) (u3 : nF = 0 := by omega) (u4 : n9 < ((lC : Nat) : Int) := by omega) : lSpoilt_B1 l l_l l_c change q6 l6 c6 n9 i10_1 i11_1 σ Nx Qr Q0 :=
 body_of [.g, .g, .g, .b true, .g, .g, .n (i10_1 + 1), .v (.slice qA lA cA), .c (.slice qK lM cI) σD, .c (.tuple ⟨[.slice qC lC cC, iV nF]⟩) σU, .g, .g, .g, .g, .g, .g, .b false, .g, .g, .g, .b true, .fin (lSpoilt_a1x0 l l_l l_c change q6 l6 c6 n9 Q0) (i10_1, i11_1)] (fun g => kc (by kernel_rfl) (ai (ltI_tt u1) (ai (wrap64 (n := i10_1 + 1) u2.1 u2.2) (ai h1 (ai (CallsA.top (aw := 7) h2) (ai (CallsA.top (aw := 7) h3) (ai (neqI_ff u3) (ai (ltI_tt u4) (fin (alts := [lSpoilt_a1n l l_l l_c change q6 l6 c6 n9 Nx, lSpoilt_a1xr l l_l l_c change q6 l6 c6 n9 Qr, lSpoilt_a1x0 l l_l l_c change q6 l6 c6 n9 Q0]) (lSpoilt_a1x0 l l_l l_c change q6 l6 c6 n9 Q0) (i10_1, i11_1) nx (inS (inS in0)))))))))))
theorem lSpoilt_s1c (h1 : sliceA Pg σ 28 (.slice l l_l l_c) none (some (iV (i10_1 + 1))) none = some (.slice qA lA cA)) (h2 : CallsA Pg 14 [.slice qA lA cA] σ (.slice qK lM cI) σD) (h3 : CallsA Pg 13 [.slice qK lM cI] σD (.tuple ⟨[.slice qC lC cC, iV nF]⟩) σU) (nx : Nx (i10_1 + 1) ((lC : Nat) : Int) σU) (u1 : i10_1 < ((l_l : Nat) : Int) := by omega) (u2 : -9223372036854775808 ≤ i10_1 + 1 ∧ i10_1 + 1 ≤ 9223372036854775807 := by omega) (u3 : nF = 0 := by omega) (u4 : ¬ n9 < ((lC : Nat) : Int) := by omega) : lSpoilt_B1 l l_l l_c change q6 l6 c6 n9 i10_1 i11_1 σ Nx Qr Q0 :=
 body_of [.g, .g, .g, .b true, .g, .g, .n (i10_1 + 1), .v (.slice qA lA cA), .c (.slice qK lM cI) σD, .c (.tuple ⟨[.slice qC lC cC, iV nF]⟩) σU, .g, .g, .g, .g, .g, .g, .b false, .g, .g, .g, .b false, .g, .n (i10_1 + 1), .g, .g, .g, .g, .fin (lSpoilt_a1n l l_l l_c change q6 l6 c6 n9 Nx) (i10_1 + 1, ((lC : Nat) : Int))] (fun g => kc (by kernel_rfl) (ai (ltI_tt u1) (ai (wrap64 (n := i10_1 + 1) u2.1 u2.2) (ai h1 (ai (CallsA.top (aw := 7) h2) (ai (CallsA.top (aw := 7) h3) (ai (neqI_ff u3) (ai (ltI_ff u4) (ai (wrap64 (n := i10_1 + 1) u2.1 u2.2) (fin (alts := [lSpoilt_a1n l l_l l_c change q6 l6 c6 n9 Nx, lSpoilt_a1xr l l_l l_c change q6 l6 c6 n9 Qr, lSpoilt_a1x0 l l_l l_c change q6 l6 c6 n9 Q0]) (lSpoilt_a1n l l_l l_c change q6 l6 c6 n9 Nx) (i10_1 + 1, ((lC : Nat) : Int)) nx in0))))))))))
def lSpoilt_K1_r (l : Option Addr) (l_l l_c : Nat) (change : Int) (q6 : Option Addr) (l6 c6 : Nat) (n9 : Int) (t6_1 : Bool) (σ : St) (Q : Value → St → Prop) : Prop := ∀ g : Nat → Value, ∃ an, Hid (kAt Pg (topR Pg 7) none (bodyOf Pg 5) [1, 1, 1, 1, 1, 1, 0, 0] (kFn Pg 5 Q) .ret ⟨Fm 168 (ov (lSpoilt_l1xr l l_l l_c change q6 l6 c6 n9 t6_1) g), []⟩ σ an)
def lSpoilt_K1_0 (l : Option Addr) (l_l l_c : Nat) (change : Int) (q6 : Option Addr) (l6 c6 : Nat) (n9 i10_1 i11_1 : Int) (σ : St) (Q : Value → St → Prop) : Prop := ∀ g : Nat → Value, ∃ an, Hid (kAt Pg (topR Pg 7) none (bodyOf Pg 5) [1, 1, 1, 1, 1, 1, 0, 0] (kFn Pg 5 Q) (.exit 0) ⟨Fm 168 (ov (lSpoilt_l1x0 l l_l l_c change q6 l6 c6 n9 i10_1 i11_1) g), []⟩ σ an)
theorem lSpoilt_rf (h1 : CallsA Pg 12 [.slice l l_l l_c] σ (.slice q1 l1 c1) σ2) (h2 : CallsA Pg 11 [.slice q1 l1 c1] σ2 (iV n3) σ2) (h3 : CallsA Pg 14 [.slice l l_l l_c] σ2 (.slice q4 l4 c4) σ5) (h4 : CallsA Pg 13 [.slice q4 l4 c4] σ5 (.tuple ⟨[.slice q6 l6 c6, iV n7]⟩) σ8) (h5 : binA Pg .rem 3 (.tmp 53) (.tmp 55) (iV at_) (iV ((l6 : Nat) : Int)) = some (iV n9)) (hL : lSpoilt_L1 l l_l l_c change q6 l6 c6 n9 0 0 σ8 Pr P0) (kr : ∀ t6_1' σ', Pr t6_1' σ' → lSpoilt_K1_r l l_l l_c change q6 l6 c6 n9 t6_1' σ' Q) (k0 : ∀ i10_1' i11_1' σ', P0 i10_1' i11_1' σ' → lSpoilt_K1_0 l l_l l_c change q6 l6 c6 n9 i10_1' i11_1' σ' Q) (u1 : ¬ ((l_l : Nat) : Int) = 0 := by omega) (u2 : ¬ 59 < ((l_l : Nat) : Int) := by omega) (u3 : n3 = 0 := by omega) (u4 : n7 = 0 := by omega) (u5 : ¬ ((l6 : Nat) : Int) = 0 := by omega) (u6 : -9223372036854775808 ≤ at_ ∧ at_ ≤ 9223372036854775807 := by omega) : TopQ Pg 7 5 [.slice l l_l l_c, .int .u16 at_, .int .u16 change] σ Q :=
 topQ_of [.g, .g, .g, .b false, .g, .g, .g, .b false, .g, .g, .g, .c (.slice q1 l1 c1) σ2, .c (iV n3) σ2, .b false, .g, .g, .c (.slice q4 l4 c4) σ5, .c (.tuple ⟨[.slice q6 l6 c6, iV n7]⟩) σ8, .g, .g, .g, .g, .g, .g, .b false, .g, .g, .g, .b false, .g, .g, .n at_, .g, .g, .v (iV n9), .g, .g, .g, .lf 168 (lSpoilt_l1 l l_l l_c change q6 l6 c6 n9 0 0) [lSpoilt_a1xr l l_l l_c change q6 l6 c6 n9 Pr, lSpoilt_a1x0 l l_l l_c change q6 l6 c6 n9 P0]] (kc (by kernel_rfl) (ai (eqI_ff u1) (ai (ltI_ff u2) (ai (CallsA.top (aw := 7) h1) (ai (CallsA.top (aw := 7) h2) (ai (neqI_ff u3) (ai (CallsA.top (aw := 7) h3) (ai (CallsA.top (aw := 7) h4) (ai (neqI_ff u4) (ai (eqI_ff u5) (ai (wrap64 (n := at_) u6.1 u6.2) (ai h5 (ai (ai tt (ai (arf (lSpoilt_l1 l l_l l_c change q6 l6 c6 n9 0 0)) hL)) (ai (fun (t : Bool) (g' : Nat → Value) (σ' : St) (q : Pr t σ') => kr t σ' q g') (ai (fun (t : Int × Int) (g' : Nat → Value) (σ' : St) (q : P0 t.1 t.2 σ') => k0 t.1 t.2 σ' q g') trivial)))))))))))))))
theorem lSpoilt_t1x0d (h1 : sliceA Pg (σ.row [] 1) 22 (.slice q6 l6 c6) none (some (iV n9)) none = some (.slice qM lN cK)) (h2 : appendA Pg 22 22 (.slice (some ⟨σ.q, 0, none⟩) 0 0) (.slice qM lN cK) (σ.row [] 1) = some (.slice qN lO cL, σO)) (h3 : CallsA Pg 8 [.slice qN lO cL] σO (.tuple ⟨[.slice qO lP cM, iV nP, iV nQ]⟩) σG) (h4 : sliceA Pg σG 28 (.slice l l_l l_c) none (some (iV i10_1)) none = some (.slice qP lQ cN)) (h5 : CallsA Pg 10 [.slice qO lP cM, .slice qP lQ cN] σG (.bool true) σG) (h6 : appendA Pg 22 22 (.slice (some ⟨σG.q, 0, none⟩) 0 0) (.slice q6 l6 c6) (σG.row [] 1) = some (.slice (some qE_a) lG cO, σL)) (h7 : loadA Pg σL 5 (aadd qE_a (Int.toNat n9 * 1)) = some (.int .u8 nAB)) (h8 : wrapK .u16 (Int.add 1 (Int.tmod change 255)) = zA) (h9 : wrapK .u8 (zA) = zB) (h10 : wrapK .u8 (Int.add nAB zB) = zC) (h11 : effOp Pg (evL [.pointer (some (aadd qE_a (Int.toNat n9 * 1))), .int .u8 zC]) σL (.store 5 (.tmp 0) (.tmp 1)) = some (undef, σP)) (h12 : CallsA Pg 8 [.slice (some qE_a) lG cO] σP (.tuple ⟨[.slice qH lI cG, iV nR, iV nRB]⟩) σA) (h13 : sliceA Pg (σA.row [] 6) 28 (.slice l l_l l_c) none (some (iV i10_1)) none = some (.slice qD lE cD)) (h14 : appendA Pg 28 28 (.slice (some ⟨σA.q, 0, none⟩) 0 0) (.slice qD lE cD) (σA.row [] 6) = some (.slice qG lH cF, σE)) (h15 : seeOp Pg (evL [iV ((l_l : Nat) : Int), iV (i10_1 + 1)]) σE (.call { callee := .builtin .min, args := ⟨tmpsTo 2⟩, argTypes := ⟨[3, 3]⟩ }) = some (iV nH)) (h16 : sliceA Pg σE 28 (.slice l l_l l_c) (some (iV nH)) none none = some (.slice qB lB cB)) (h17 : appendA Pg 28 28 (.slice qG lH cF) (.slice qB lB cB) σE = some (.slice qQ lR cP, σC)) (h18 : belowL (σA.row [] 6).q [.slice l l_l l_c, iV i10_1]) (h19 : belowL (σA.row [] 6).q [.slice (some ⟨σA.q, 0, none⟩) 0 0, .slice qD lE cD]) (h20 : belowL σE.q [.slice l l_l l_c]) (h21 : belowL σE.q [.slice l l_l l_c, iV nH]) (h22 : belowL σE.q [.slice qG lH cF, .slice qB lB cB]) (h23 : ((belowL σA.q [.slice l l_l l_c, iV i10_1] ∧ goodB RD (.slice qD lE cD) = true) ∧ sliceA Pg σA 28 (.slice l l_l l_c) none (some (iV i10_1)) none = some (.slice qD lE cD))) (h24 : ((belowL (σA.row [] 6).q [.slice l l_l l_c, iV i10_1] ∧ goodB RD (.slice qD lE cD) = true) ∧ sliceA Pg (σA.row [] 6) 28 (.slice l l_l l_c) none (some (iV i10_1)) none = some (.slice qD lE cD))) (h25 : ((belowL σA.q [.slice l l_l l_c] ∧ goodB RD (iV ((l_l : Nat) : Int)) = true) ∧ Callee.builtin .len = Callee.builtin .len ∧ seeOp Pg (evL [.slice l l_l l_c]) σA (.call { callee := .builtin .len, args := ⟨tmpsTo 1⟩, argTypes := ⟨[28]⟩ }) = some (iV ((l_l : Nat) : Int)))) (h26 : ((belowL (σA.row [] 6).q [.slice l l_l l_c] ∧ goodB RD (iV ((l_l : Nat) : Int)) = true) ∧ Callee.builtin .len = Callee.builtin .len ∧ seeOp Pg (evL [.slice l l_l l_c]) (σA.row [] 6) (.call { callee := .builtin .len, args := ⟨tmpsTo 1⟩, argTypes := ⟨[28]⟩ }) = some (iV ((l_l : Nat) : Int)))) (h27 : ((belowL σE.q [.slice l l_l l_c] ∧ goodB RD (iV ((l_l : Nat) : Int)) = true) ∧ Callee.builtin .len = Callee.builtin .len ∧ seeOp Pg (evL [.slice l l_l l_c]) σE (.call { callee := .builtin .len, args := ⟨tmpsTo 1⟩, argTypes := ⟨[28]⟩ }) = some (iV ((l_l : Nat) : Int)))) (h28 : ((belowL σA.q [.slice l l_l l_c, iV nH] ∧ goodB RD (.slice qB lB cB) = true) ∧ sliceA Pg σA 28 (.slice l l_l l_c) (some (iV nH)) none none = some (.slice qB lB cB))) (h29 : ((belowL (σA.row [] 6).q [.slice l l_l l_c, iV nH] ∧ goodB RD (.slice qB lB cB) = true) ∧ sliceA Pg (σA.row [] 6) 28 (.slice l l_l l_c) (some (iV nH)) none none = some (.slice qB lB cB))) (h30 : ((belowL σE.q [.slice l l_l l_c, iV nH] ∧ goodB RD (.slice qB lB cB) = true) ∧ sliceA Pg σE 28 (.slice l l_l l_c) (some (iV nH)) none none = some (.slice qB lB cB))) (h31 : CallsA Pg 15 [.slice qH lI cG, .slice qQ lR cP] σC (.bool true) σC) (nx : Q (.bool true) σC) (u1 : -9223372036854775808 ≤ i11_1 + 1 ∧ i11_1 + 1 ≤ 9223372036854775807 := by omega) (u2 : (i11_1 + 1) < n9 := by omega) (u3 : nQ = 0 := by omega) (u4 : nP = 1 := by omega) (u5 : 0 ≤ n9 ∧ n9 < ((lG : Nat) : Int) := by omega) (u6 : nRB = 0 := by omega) (u7 : -9223372036854775808 ≤ i10_1 + 1 ∧ i10_1 + 1 ≤ 9223372036854775807 := by omega) : lSpoilt_K1_0 l l_l l_c change q6 l6 c6 n9 i10_1 i11_1 σ Q :=
 fun g => ⟨[.g, .g, .g, .v (.slice qM lN cK), .e (.slice qN lO cL) σO, .c (.tuple ⟨[.slice qO lP cM, iV nP, iV nQ]⟩) σG, .g, .g, .g, .g, .g, .g, .g, .g, .g, .g, .n (i11_1 + 1), .b true, .g, .g, .b false, .g, .g, .g, .g, .v (.slice qP lQ cN), .c (.bool true) σG, .g, .g, .g, .g, .g, .b false, .g, .g, .g, .e (.slice (some qE_a) lG cO) σL, .g, .g, .g, .i, .l (.int .u8 nAB), .g, .g, .n zA, .n zB, .n zC, .i, .e undef σP, .g, .c (.tuple ⟨[.slice qH lI cG, iV nR, iV nRB]⟩) σA, .g, .g, .g, .g, .g, .g, .g, .g, .b false, .g, .g, .g, .v (.slice qD lE cD), .e (.slice qG lH cF) σE, .g, .g, .g, .g, .n (i10_1 + 1), .v (iV nH), .v (.slice qB lB cB), .e (.slice qQ lR cP) σC, .g, .g, .g, .c (.bool true) σC, .c (.bool true) σC, .g], kc (by kernel_rfl) (ai h1 (ai h2 (ai (CallsA.top (aw := 7) h3) (ai (wrap64 (n := i11_1 + 1) u1.1 u1.2) (ai (ltI_tt u2) (ai (neqI_ff u3) (ai h4 (ai (CallsA.top (aw := 7) h5) (ai (neqI_ff u4) (ai h6 (ai u5 (ai h7 (ai h8 (ai h9 (ai h10 (ai u5 (ai h11 (ai (CallsA.top (aw := 7) h12) (ai (neqI_ff u6) (ai h13 (ai h14 (ai (wrap64 (n := i10_1 + 1) u7.1 u7.2) (ai h15 (ai h16 (ai h17 (ai h18 (ai h19 (ai h20 (ai h21 (ai h22 (ai h23 (ai h24 (ai h25 (ai h26 (ai h26 (ai h27 (ai h28 (ai h29 (ai h29 (ai h30 (ai (CallsA.top (aw := 7) h31) (ai (topE : CallsE (topR Pg 7) (.func 7) [] σC (.bool true) σC) nx))))))))))))))))))))))))))))))))))))))))))⟩
theorem lSpoilt_t1x0e (h1 : sliceA Pg (σ.row [] 1) 22 (.slice q6 l6 c6) none (some (iV n9)) none = some (.slice qM lN cK)) (h2 : appendA Pg 22 22 (.slice (some ⟨σ.q, 0, none⟩) 0 0) (.slice qM lN cK) (σ.row [] 1) = some (.slice qN lO cL, σO)) (h3 : CallsA Pg 8 [.slice qN lO cL] σO (.tuple ⟨[.slice qO lP cM, iV nP, iV nQ]⟩) σG) (h4 : sliceA Pg σG 28 (.slice l l_l l_c) none (some (iV i10_1)) none = some (.slice qP lQ cN)) (h5 : CallsA Pg 10 [.slice qO lP cM, .slice qP lQ cN] σG (.bool true) σG) (h6 : appendA Pg 22 22 (.slice (some ⟨σG.q, 0, none⟩) 0 0) (.slice q6 l6 c6) (σG.row [] 1) = some (.slice (some qE_a) lG cO, σL)) (h7 : loadA Pg σL 5 (aadd qE_a (Int.toNat n9 * 1)) = some (.int .u8 nAB)) (h8 : wrapK .u16 (Int.add 1 (Int.tmod change 255)) = zA) (h9 : wrapK .u8 (zA) = zB) (h10 : wrapK .u8 (Int.add nAB zB) = zC) (h11 : effOp Pg (evL [.pointer (some (aadd qE_a (Int.toNat n9 * 1))), .int .u8 zC]) σL (.store 5 (.tmp 0) (.tmp 1)) = some (undef, σP)) (h12 : CallsA Pg 8 [.slice (some qE_a) lG cO] σP (.tuple ⟨[.slice qH lI cG, iV nR, iV nRB]⟩) σA) (h13 : sliceA Pg (σA.row [] 6) 28 (.slice l l_l l_c) none (some (iV i10_1)) none = some (.slice qD lE cD)) (h14 : appendA Pg 28 28 (.slice (some ⟨σA.q, 0, none⟩) 0 0) (.slice qD lE cD) (σA.row [] 6) = some (.slice qG lH cF, σE)) (h15 : seeOp Pg (evL [iV ((l_l : Nat) : Int), iV (i10_1 + 1)]) σE (.call { callee := .builtin .min, args := ⟨tmpsTo 2⟩, argTypes := ⟨[3, 3]⟩ }) = some (iV nH)) (h16 : sliceA Pg σE 28 (.slice l l_l l_c) (some (iV nH)) none none = some (.slice qB lB cB)) (h17 : appendA Pg 28 28 (.slice qG lH cF) (.slice qB lB cB) σE = some (.slice qQ lR cP, σC)) (h18 : belowL (σA.row [] 6).q [.slice l l_l l_c, iV i10_1]) (h19 : belowL (σA.row [] 6).q [.slice (some ⟨σA.q, 0, none⟩) 0 0, .slice qD lE cD]) (h20 : belowL σE.q [.slice l l_l l_c]) (h21 : belowL σE.q [.slice l l_l l_c, iV nH]) (h22 : belowL σE.q [.slice qG lH cF, .slice qB lB cB]) (h23 : ((belowL σA.q [.slice l l_l l_c, iV i10_1] ∧ goodB RD (.slice qD lE cD) = true) ∧ sliceA Pg σA 28 (.slice l l_l l_c) none (some (iV i10_1)) none = some (.slice qD lE cD))) (h24 : ((belowL (σA.row [] 6).q [.slice l l_l l_c, iV i10_1] ∧ goodB RD (.slice qD lE cD) = true) ∧ sliceA Pg (σA.row [] 6) 28 (.slice l l_l l_c) none (some (iV i10_1)) none = some (.slice qD lE cD))) (h25 : ((belowL σA.q [.slice l l_l l_c] ∧ goodB RD (iV ((l_l : Nat) : Int)) = true) ∧ Callee.builtin .len = Callee.builtin .len ∧ seeOp Pg (evL [.slice l l_l l_c]) σA (.call { callee := .builtin .len, args := ⟨tmpsTo 1⟩, argTypes := ⟨[28]⟩ }) = some (iV ((l_l : Nat) : Int)))) (h26 : ((belowL (σA.row [] 6).q [.slice l l_l l_c] ∧ goodB RD (iV ((l_l : Nat) : Int)) = true) ∧ Callee.builtin .len = Callee.builtin .len ∧ seeOp Pg (evL [.slice l l_l l_c]) (σA.row [] 6) (.call { callee := .builtin .len, args := ⟨tmpsTo 1⟩, argTypes := ⟨[28]⟩ }) = some (iV ((l_l : Nat) : Int)))) (h27 : ((belowL σE.q [.slice l l_l l_c] ∧ goodB RD (iV ((l_l : Nat) : Int)) = true) ∧ Callee.builtin .len = Callee.builtin .len ∧ seeOp Pg (evL [.slice l l_l l_c]) σE (.call { callee := .builtin .len, args := ⟨tmpsTo 1⟩, argTypes := ⟨[28]⟩ }) = some (iV ((l_l : Nat) : Int)))) (h28 : ((belowL σA.q [.slice l l_l l_c, iV nH] ∧ goodB RD (.slice qB lB cB) = true) ∧ sliceA Pg σA 28 (.slice l l_l l_c) (some (iV nH)) none none = some (.slice qB lB cB))) (h29 : ((belowL (σA.row [] 6).q [.slice l l_l l_c, iV nH] ∧ goodB RD (.slice qB lB cB) = true) ∧ sliceA Pg (σA.row [] 6) 28 (.slice l l_l l_c) (some (iV nH)) none none = some (.slice qB lB cB))) (h30 : ((belowL σE.q [.slice l l_l l_c, iV nH] ∧ goodB RD (.slice qB lB cB) = true) ∧ sliceA Pg σE 28 (.slice l l_l l_c) (some (iV nH)) none none = some (.slice qB lB cB))) (h31 : CallsA Pg 15 [.slice qH lI cG, .slice qQ lR cP] σC (.bool false) σC) (h32 : seeOp Pg (evL [iV 0, iV (i10_1 - 1)]) (σC.row [] 6) (.call { callee := .builtin .max, args := ⟨tmpsTo 2⟩, argTypes := ⟨[3, 3]⟩ }) = some (iV nZ)) (h33 : sliceA Pg (σC.row [] 6) 28 (.slice l l_l l_c) none (some (iV nZ)) none = some (.slice qI lJ cH)) (h34 : appendA Pg 28 28 (.slice (some ⟨σC.q, 0, none⟩) 0 0) (.slice qI lJ cH) (σC.row [] 6) = some (.slice qU lU cU, σK)) (h35 : seeOp Pg (evL [iV ((l_l : Nat) : Int), iV (i10_1 + 1)]) σK (.call { callee := .builtin .min, args := ⟨tmpsTo 2⟩, argTypes := ⟨[3, 3]⟩ }) = some (iV nS)) (h36 : sliceA Pg σK 28 (.slice l l_l l_c) (some (iV nS)) none none = some (.slice qF lF cE)) (h37 : appendA Pg 28 28 (.slice qU lU cU) (.slice qF lF cE) σK = some (.slice qX lX cX, σM)) (h38 : belowL (σC.row [] 6).q [.slice l l_l l_c, iV nZ]) (h39 : belowL (σC.row [] 6).q [.slice (some ⟨σC.q, 0, none⟩) 0 0, .slice qI lJ cH]) (h40 : belowL σK.q [.slice l l_l l_c]) (h41 : belowL σK.q [.slice l l_l l_c, iV nS]) (h42 : belowL σK.q [.slice qU lU cU, .slice qF lF cE]) (h43 : ((belowL σC.q [.slice l l_l l_c, iV nZ] ∧ goodB RD (.slice qI lJ cH) = true) ∧ sliceA Pg σC 28 (.slice l l_l l_c) none (some (iV nZ)) none = some (.slice qI lJ cH))) (h44 : ((belowL (σC.row [] 6).q [.slice l l_l l_c, iV nZ] ∧ goodB RD (.slice qI lJ cH) = true) ∧ sliceA Pg (σC.row [] 6) 28 (.slice l l_l l_c) none (some (iV nZ)) none = some (.slice qI lJ cH))) (h45 : ((belowL σC.q [.slice l l_l l_c] ∧ goodB RD (iV ((l_l : Nat) : Int)) = true) ∧ Callee.builtin .len = Callee.builtin .len ∧ seeOp Pg (evL [.slice l l_l l_c]) σC (.call { callee := .builtin .len, args := ⟨tmpsTo 1⟩, argTypes := ⟨[28]⟩ }) = some (iV ((l_l : Nat) : Int)))) (h46 : ((belowL (σC.row [] 6).q [.slice l l_l l_c] ∧ goodB RD (iV ((l_l : Nat) : Int)) = true) ∧ Callee.builtin .len = Callee.builtin .len ∧ seeOp Pg (evL [.slice l l_l l_c]) (σC.row [] 6) (.call { callee := .builtin .len, args := ⟨tmpsTo 1⟩, argTypes := ⟨[28]⟩ }) = some (iV ((l_l : Nat) : Int)))) (h47 : ((belowL σK.q [.slice l l_l l_c] ∧ goodB RD (iV ((l_l : Nat) : Int)) = true) ∧ Callee.builtin .len = Callee.builtin .len ∧ seeOp Pg (evL [.slice l l_l l_c]) σK (.call { callee := .builtin .len, args := ⟨tmpsTo 1⟩, argTypes := ⟨[28]⟩ }) = some (iV ((l_l : Nat) : Int)))) (h48 : ((belowL σC.q [.slice l l_l l_c, iV nS] ∧ goodB RD (.slice qF lF cE) = true) ∧ sliceA Pg σC 28 (.slice l l_l l_c) (some (iV nS)) none none = some (.slice qF lF cE))) (h49 : ((belowL (σC.row [] 6).q [.slice l l_l l_c, iV nS] ∧ goodB RD (.slice qF lF cE) = true) ∧ sliceA Pg (σC.row [] 6) 28 (.slice l l_l l_c) (some (iV nS)) none none = some (.slice qF lF cE))) (h50 : ((belowL σK.q [.slice l l_l l_c, iV nS] ∧ goodB RD (.slice qF lF cE) = true) ∧ sliceA Pg σK 28 (.slice l l_l l_c) (some (iV nS)) none none = some (.slice qF lF cE))) (h51 : CallsA Pg 15 [.slice qH lI cG, .slice qX lX cX] σM (.bool true) σM) (nx : Q (.bool true) σM) (u1 : -9223372036854775808 ≤ i11_1 + 1 ∧ i11_1 + 1 ≤ 9223372036854775807 := by omega) (u2 : (i11_1 + 1) < n9 := by omega) (u3 : nQ = 0 := by omega) (u4 : nP = 1 := by omega) (u5 : 0 ≤ n9 ∧ n9 < ((lG : Nat) : Int) := by omega) (u6 : nRB = 0 := by omega) (u7 : -9223372036854775808 ≤ i10_1 + 1 ∧ i10_1 + 1 ≤ 9223372036854775807 := by omega) (u8 : -9223372036854775808 ≤ i10_1 - 1 ∧ i10_1 - 1 ≤ 9223372036854775807 := by omega) : lSpoilt_K1_0 l l_l l_c change q6 l6 c6 n9 i10_1 i11_1 σ Q :=
 fun g => ⟨[.g, .g, .g, .v (.slice qM lN cK), .e (.slice qN lO cL) σO, .c (.tuple ⟨[.slice qO lP cM, iV nP, iV nQ]⟩) σG, .g, .g, .g, .g, .g, .g, .g, .g, .g, .g, .n (i11_1 + 1), .b true, .g, .g, .b false, .g, .g, .g, .g, .v (.slice qP lQ cN), .c (.bool true) σG, .g, .g, .g, .g, .g, .b false, .g, .g, .g, .e (.slice (some qE_a) lG cO) σL, .g, .g, .g, .i, .l (.int .u8 nAB), .g, .g, .n zA, .n zB, .n zC, .i, .e undef σP, .g, .c (.tuple ⟨[.slice qH lI cG, iV nR, iV nRB]⟩) σA, .g, .g, .g, .g, .g, .g, .g, .g, .b false, .g, .g, .g, .v (.slice qD lE cD), .e (.slice qG lH cF) σE, .g, .g, .g, .g, .n (i10_1 + 1), .v (iV nH), .v (.slice qB lB cB), .e (.slice qQ lR cP) σC, .g, .g, .g, .c (.bool false) σC, .g, .g, .g, .n (i10_1 - 1), .v (iV nZ), .v (.slice qI lJ cH), .e (.slice qU lU cU) σK, .g, .g, .g, .g, .n (i10_1 + 1), .v (iV nS), .v (.slice qF lF cE), .e (.slice qX lX cX) σM, .g, .g, .g, .c (.bool true) σM, .g, .c (.bool true) σM, .g, .g], kc (by kernel_rfl) (ai h1 (ai h2 (ai (CallsA.top (aw := 7) h3) (ai (wrap64 (n := i11_1 + 1) u1.1 u1.2) (ai (ltI_tt u2) (ai (neqI_ff u3) (ai h4 (ai (CallsA.top (aw := 7) h5) (ai (neqI_ff u4) (ai h6 (ai u5 (ai h7 (ai h8 (ai h9 (ai h10 (ai u5 (ai h11 (ai (CallsA.top (aw := 7) h12) (ai (neqI_ff u6) (ai h13 (ai h14 (ai (wrap64 (n := i10_1 + 1) u7.1 u7.2) (ai h15 (ai h16 (ai h17 (ai h18 (ai h19 (ai h20 (ai h21 (ai h22 (ai h23 (ai h24 (ai h25 (ai h26 (ai h26 (ai h27 (ai h28 (ai h29 (ai h29 (ai h30 (ai (CallsA.top (aw := 7) h31) (ai (wrap64 (n := i10_1 - 1) u8.1 u8.2) (ai h32 (ai h33 (ai h34 (ai (wrap64 (n := i10_1 + 1) u7.1 u7.2) (ai h35 (ai h36 (ai h37 (ai h38 (ai h39 (ai h40 (ai h41 (ai h42 (ai h43 (ai h44 (ai h45 (ai h46 (ai h46 (ai h47 (ai h48 (ai h49 (ai h49 (ai h50 (ai (CallsA.top (aw := 7) h51) (ai (topE : CallsE (topR Pg 7) (.func 7) [] σM (.bool true) σM) nx))))))))))))))))))))))))))))))))))))))))))))))))))))))))))))))))))⟩
theorem lSpoilt_t1x0k (h1 : sliceA Pg (σ.row [] 1) 22 (.slice q6 l6 c6) none (some (iV n9)) none = some (.slice qM lN cK)) (h2 : appendA Pg 22 22 (.slice (some ⟨σ.q, 0, none⟩) 0 0) (.slice qM lN cK) (σ.row [] 1) = some (.slice qN lO cL, σO)) (h3 : CallsA Pg 8 [.slice qN lO cL] σO (.tuple ⟨[.slice qO lP cM, iV nP, iV nQ]⟩) σG) (h4 : sliceA Pg σG 28 (.slice l l_l l_c) none (some (iV i10_1)) none = some (.slice qP lQ cN)) (h5 : CallsA Pg 10 [.slice qO lP cM, .slice qP lQ cN] σG (.bool true) σG) (h6 : appendA Pg 22 22 (.slice (some ⟨σG.q, 0, none⟩) 0 0) (.slice q6 l6 c6) (σG.row [] 1) = some (.slice (some qE_a) lG cO, σL)) (h7 : loadA Pg σL 5 (aadd qE_a (Int.toNat n9 * 1)) = some (.int .u8 nAB)) (h8 : wrapK .u16 (Int.add 1 (Int.tmod change 255)) = zA) (h9 : wrapK .u8 (zA) = zB) (h10 : wrapK .u8 (Int.add nAB zB) = zC) (h11 : effOp Pg (evL [.pointer (some (aadd qE_a (Int.toNat n9 * 1))), .int .u8 zC]) σL (.store 5 (.tmp 0) (.tmp 1)) = some (undef, σP)) (h12 : CallsA Pg 8 [.slice (some qE_a) lG cO] σP (.tuple ⟨[.slice qH lI cG, iV nR, iV nRB]⟩) σA) (h13 : sliceA Pg (σA.row [] 6) 28 (.slice l l_l l_c) none (some (iV i10_1)) none = some (.slice qD lE cD)) (h14 : appendA Pg 28 28 (.slice (some ⟨σA.q, 0, none⟩) 0 0) (.slice qD lE cD) (σA.row [] 6) = some (.slice qG lH cF, σE)) (h15 : seeOp Pg (evL [iV ((l_l : Nat) : Int), iV (i10_1 + 1)]) σE (.call { callee := .builtin .min, args := ⟨tmpsTo 2⟩, argTypes := ⟨[3, 3]⟩ }) = some (iV nH)) (h16 : sliceA Pg σE 28 (.slice l l_l l_c) (some (iV nH)) none none = some (.slice qB lB cB)) (h17 : appendA Pg 28 28 (.slice qG lH cF) (.slice qB lB cB) σE = some (.slice qQ lR cP, σC)) (h18 : belowL (σA.row [] 6).q [.slice l l_l l_c, iV i10_1]) (h19 : belowL (σA.row [] 6).q [.slice (some ⟨σA.q, 0, none⟩) 0 0, .slice qD lE cD]) (h20 : belowL σE.q [.slice l l_l l_c]) (h21 : belowL σE.q [.slice l l_l l_c, iV nH]) (h22 : belowL σE.q [.slice qG lH cF, .slice qB lB cB]) (h23 : ((belowL σA.q [.slice l l_l l_c, iV i10_1] ∧ goodB RD (.slice qD lE cD) = true) ∧ sliceA Pg σA 28 (.slice l l_l l_c) none (some (iV i10_1)) none = some (.slice qD lE cD))) (h24 : ((belowL (σA.row [] 6).q [.slice l l_l l_c, iV i10_1] ∧ goodB RD (.slice qD lE cD) = true) ∧ sliceA Pg (σA.row [] 6) 28 (.slice l l_l l_c) none (some (iV i10_1)) none = some (.slice qD lE cD))) (h25 : ((belowL σA.q [.slice l l_l l_c] ∧ goodB RD (iV ((l_l : Nat) : Int)) = true) ∧ Callee.builtin .len = Callee.builtin .len ∧ seeOp Pg (evL [.slice l l_l l_c]) σA (.call { callee := .builtin .len, args := ⟨tmpsTo 1⟩, argTypes := ⟨[28]⟩ }) = some (iV ((l_l : Nat) : Int)))) (h26 : ((belowL (σA.row [] 6).q [.slice l l_l l_c] ∧ goodB RD (iV ((l_l : Nat) : Int)) = true) ∧ Callee.builtin .len = Callee.builtin .len ∧ seeOp Pg (evL [.slice l l_l l_c]) (σA.row [] 6) (.call { callee := .builtin .len, args := ⟨tmpsTo 1⟩, argTypes := ⟨[28]⟩ }) = some (iV ((l_l : Nat) : Int)))) (h27 : ((belowL σE.q [.slice l l_l l_c] ∧ goodB RD (iV ((l_l : Nat) : Int)) = true) ∧ Callee.builtin .len = Callee.builtin .len ∧ seeOp Pg (evL [.slice l l_l l_c]) σE (.call { callee := .builtin .len, args := ⟨tmpsTo 1⟩, argTypes := ⟨[28]⟩ }) = some (iV ((l_l : Nat) : Int)))) (h28 : ((belowL σA.q [.slice l l_l l_c, iV nH] ∧ goodB RD (.slice qB lB cB) = true) ∧ sliceA Pg σA 28 (.slice l l_l l_c) (some (iV nH)) none none = some (.slice qB lB cB))) (h29 : ((belowL (σA.row [] 6).q [.slice l l_l l_c, iV nH] ∧ goodB RD (.slice qB lB cB) = true) ∧ sliceA Pg (σA.row [] 6) 28 (.slice l l_l l_c) (some (iV nH)) none none = some (.slice qB lB cB))) (h30 : ((belowL σE.q [.slice l l_l l_c, iV nH] ∧ goodB RD (.slice qB lB cB) = true) ∧ sliceA Pg σE 28 (.slice l l_l l_c) (some (iV nH)) none none = some (.slice qB lB cB))) (h31 : CallsA Pg 15 [.slice qH lI cG, .slice qQ lR cP] σC (.bool true) σC) (nx : Q (.bool true) σC) (u1 : -9223372036854775808 ≤ i11_1 + 1 ∧ i11_1 + 1 ≤ 9223372036854775807 := by omega) (u2 : ¬ (i11_1 + 1) < n9 := by omega) (u3 : nQ = 0 := by omega) (u4 : nP = 0 := by omega) (u5 : 0 ≤ n9 ∧ n9 < ((lG : Nat) : Int) := by omega) (u6 : nRB = 0 := by omega) (u7 : -9223372036854775808 ≤ i10_1 + 1 ∧ i10_1 + 1 ≤ 9223372036854775807 := by omega) : lSpoilt_K1_0 l l_l l_c change q6 l6 c6 n9 i10_1 i11_1 σ Q :=
 fun g => ⟨[.g, .g, .g, .v (.slice qM lN cK), .e (.slice qN lO cL) σO, .c (.tuple ⟨[.slice qO lP cM, iV nP, iV nQ]⟩) σG, .g, .g, .g, .g, .g, .g, .g, .g, .g, .g, .n (i11_1 + 1), .b false, .g, .b false, .g, .g, .g, .g, .v (.slice qP lQ cN), .c (.bool true) σG, .g, .g, .g, .g, .g, .b false, .g, .g, .g, .e (.slice (some qE_a) lG cO) σL, .g, .g, .g, .i, .l (.int .u8 nAB), .g, .g, .n zA, .n zB, .n zC, .i, .e undef σP, .g, .c (.tuple ⟨[.slice qH lI cG, iV nR, iV nRB]⟩) σA, .g, .g, .g, .g, .g, .g, .g, .g, .b false, .g, .g, .g, .v (.slice qD lE cD), .e (.slice qG lH cF) σE, .g, .g, .g, .g, .n (i10_1 + 1), .v (iV nH), .v (.slice qB lB cB), .e (.slice qQ lR cP) σC, .g, .g, .g, .c (.bool true) σC, .c (.bool true) σC, .g], kc (by kernel_rfl) (ai h1 (ai h2 (ai (CallsA.top (aw := 7) h3) (ai (wrap64 (n := i11_1 + 1) u1.1 u1.2) (ai (ltI_ff u2) (ai (neqI_ff u3) (ai h4 (ai (CallsA.top (aw := 7) h5) (ai (neqI_ff u4) (ai h6 (ai u5 (ai h7 (ai h8 (ai h9 (ai h10 (ai u5 (ai h11 (ai (CallsA.top (aw := 7) h12) (ai (neqI_ff u6) (ai h13 (ai h14 (ai (wrap64 (n := i10_1 + 1) u7.1 u7.2) (ai h15 (ai h16 (ai h17 (ai h18 (ai h19 (ai h20 (ai h21 (ai h22 (ai h23 (ai h24 (ai h25 (ai h26 (ai h26 (ai h27 (ai h28 (ai h29 (ai h29 (ai h30 (ai (CallsA.top (aw := 7) h31) (ai (topE : CallsE (topR Pg 7) (.func 7) [] σC (.bool true) σC) nx))))))))))))))))))))))))))))))))))))))))))⟩
theorem lSpoilt_t1x0l (h1 : sliceA Pg (σ.row [] 1) 22 (.slice q6 l6 c6) none (some (iV n9)) none = some (.slice qM lN cK)) (h2 : appendA Pg 22 22 (.slice (some ⟨σ.q, 0, none⟩) 0 0) (.slice qM lN cK) (σ.row [] 1) = some (.slice qN lO cL, σO)) (h3 : CallsA Pg 8 [.slice qN lO cL] σO (.tuple ⟨[.slice qO lP cM, iV nP, iV nQ]⟩) σG) (h4 : sliceA Pg σG 28 (.slice l l_l l_c) none (some (iV i10_1)) none = some (.slice qP lQ cN)) (h5 : CallsA Pg 10 [.slice qO lP cM, .slice qP lQ cN] σG (.bool true) σG) (h6 : appendA Pg 22 22 (.slice (some ⟨σG.q, 0, none⟩) 0 0) (.slice q6 l6 c6) (σG.row [] 1) = some (.slice (some qE_a) lG cO, σL)) (h7 : loadA Pg σL 5 (aadd qE_a (Int.toNat n9 * 1)) = some (.int .u8 nAB)) (h8 : wrapK .u16 (Int.add 1 (Int.tmod change 255)) = zA) (h9 : wrapK .u8 (zA) = zB) (h10 : wrapK .u8 (Int.add nAB zB) = zC) (h11 : effOp Pg (evL [.pointer (some (aadd qE_a (Int.toNat n9 * 1))), .int .u8 zC]) σL (.store 5 (.tmp 0) (.tmp 1)) = some (undef, σP)) (h12 : CallsA Pg 8 [.slice (some qE_a) lG cO] σP (.tuple ⟨[.slice qH lI cG, iV nR, iV nRB]⟩) σA) (h13 : sliceA Pg (σA.row [] 6) 28 (.slice l l_l l_c) none (some (iV i10_1)) none = some (.slice qD lE cD)) (h14 : appendA Pg 28 28 (.slice (some ⟨σA.q, 0, none⟩) 0 0) (.slice qD lE cD) (σA.row [] 6) = some (.slice qG lH cF, σE)) (h15 : seeOp Pg (evL [iV ((l_l : Nat) : Int), iV (i10_1 + 1)]) σE (.call { callee := .builtin .min, args := ⟨tmpsTo 2⟩, argTypes := ⟨[3, 3]⟩ }) = some (iV nH)) (h16 : sliceA Pg σE 28 (.slice l l_l l_c) (some (iV nH)) none none = some (.slice qB lB cB)) (h17 : appendA Pg 28 28 (.slice qG lH cF) (.slice qB lB cB) σE = some (.slice qQ lR cP, σC)) (h18 : belowL (σA.row [] 6).q [.slice l l_l l_c, iV i10_1]) (h19 : belowL (σA.row [] 6).q [.slice (some ⟨σA.q, 0, none⟩) 0 0, .slice qD lE cD]) (h20 : belowL σE.q [.slice l l_l l_c]) (h21 : belowL σE.q [.slice l l_l l_c, iV nH]) (h22 : belowL σE.q [.slice qG lH cF, .slice qB lB cB]) (h23 : ((belowL σA.q [.slice l l_l l_c, iV i10_1] ∧ goodB RD (.slice qD lE cD) = true) ∧ sliceA Pg σA 28 (.slice l l_l l_c) none (some (iV i10_1)) none = some (.slice qD lE cD))) (h24 : ((belowL (σA.row [] 6).q [.slice l l_l l_c, iV i10_1] ∧ goodB RD (.slice qD lE cD) = true) ∧ sliceA Pg (σA.row [] 6) 28 (.slice l l_l l_c) none (some (iV i10_1)) none = some (.slice qD lE cD))) (h25 : ((belowL σA.q [.slice l l_l l_c] ∧ goodB RD (iV ((l_l : Nat) : Int)) = true) ∧ Callee.builtin .len = Callee.builtin .len ∧ seeOp Pg (evL [.slice l l_l l_c]) σA (.call { callee := .builtin .len, args := ⟨tmpsTo 1⟩, argTypes := ⟨[28]⟩ }) = some (iV ((l_l : Nat) : Int)))) (h26 : ((belowL (σA.row [] 6).q [.slice l l_l l_c] ∧ goodB RD (iV ((l_l : Nat) : Int)) = true) ∧ Callee.builtin .len = Callee.builtin .len ∧ seeOp Pg (evL [.slice l l_l l_c]) (σA.row [] 6) (.call { callee := .builtin .len, args := ⟨tmpsTo 1⟩, argTypes := ⟨[28]⟩ }) = some (iV ((l_l : Nat) : Int)))) (h27 : ((belowL σE.q [.slice l l_l l_c] ∧ goodB RD (iV ((l_l : Nat) : Int)) = true) ∧ Callee.builtin .len = Callee.builtin .len ∧ seeOp Pg (evL [.slice l l_l l_c]) σE (.call { callee := .builtin .len, args := ⟨tmpsTo 1⟩, argTypes := ⟨[28]⟩ }) = some (iV ((l_l : Nat) : Int)))) (h28 : ((belowL σA.q [.slice l l_l l_c, iV nH] ∧ goodB RD (.slice qB lB cB) = true) ∧ sliceA Pg σA 28 (.slice l l_l l_c) (some (iV nH)) none none = some (.slice qB lB cB))) (h29 : ((belowL (σA.row [] 6).q [.slice l l_l l_c, iV nH] ∧ goodB RD (.slice qB lB cB) = true) ∧ sliceA Pg (σA.row [] 6) 28 (.slice l l_l l_c) (some (iV nH)) none none = some (.slice qB lB cB))) (h30 : ((belowL σE.q [.slice l l_l l_c, iV nH] ∧ goodB RD (.slice qB lB cB) = true) ∧ sliceA Pg σE 28 (.slice l l_l l_c) (some (iV nH)) none none = some (.slice qB lB cB))) (h31 : CallsA Pg 15 [.slice qH lI cG, .slice qQ lR cP] σC (.bool false) σC) (h32 : seeOp Pg (evL [iV 0, iV (i10_1 - 1)]) (σC.row [] 6) (.call { callee := .builtin .max, args := ⟨tmpsTo 2⟩, argTypes := ⟨[3, 3]⟩ }) = some (iV nZ)) (h33 : sliceA Pg (σC.row [] 6) 28 (.slice l l_l l_c) none (some (iV nZ)) none = some (.slice qI lJ cH)) (h34 : appendA Pg 28 28 (.slice (some ⟨σC.q, 0, none⟩) 0 0) (.slice qI lJ cH) (σC.row [] 6) = some (.slice qU lU cU, σK)) (h35 : seeOp Pg (evL [iV ((l_l : Nat) : Int), iV (i10_1 + 1)]) σK (.call { callee := .builtin .min, args := ⟨tmpsTo 2⟩, argTypes := ⟨[3, 3]⟩ }) = some (iV nS)) (h36 : sliceA Pg σK 28 (.slice l l_l l_c) (some (iV nS)) none none = some (.slice qF lF cE)) (h37 : appendA Pg 28 28 (.slice qU lU cU) (.slice qF lF cE) σK = some (.slice qX lX cX, σM)) (h38 : belowL (σC.row [] 6).q [.slice l l_l l_c, iV nZ]) (h39 : belowL (σC.row [] 6).q [.slice (some ⟨σC.q, 0, none⟩) 0 0, .slice qI lJ cH]) (h40 : belowL σK.q [.slice l l_l l_c]) (h41 : belowL σK.q [.slice l l_l l_c, iV nS]) (h42 : belowL σK.q [.slice qU lU cU, .slice qF lF cE]) (h43 : ((belowL σC.q [.slice l l_l l_c, iV nZ] ∧ goodB RD (.slice qI lJ cH) = true) ∧ sliceA Pg σC 28 (.slice l l_l l_c) none (some (iV nZ)) none = some (.slice qI lJ cH))) (h44 : ((belowL (σC.row [] 6).q [.slice l l_l l_c, iV nZ] ∧ goodB RD (.slice qI lJ cH) = true) ∧ sliceA Pg (σC.row [] 6) 28 (.slice l l_l l_c) none (some (iV nZ)) none = some (.slice qI lJ cH))) (h45 : ((belowL σC.q [.slice l l_l l_c] ∧ goodB RD (iV ((l_l : Nat) : Int)) = true) ∧ Callee.builtin .len = Callee.builtin .len ∧ seeOp Pg (evL [.slice l l_l l_c]) σC (.call { callee := .builtin .len, args := ⟨tmpsTo 1⟩, argTypes := ⟨[28]⟩ }) = some (iV ((l_l : Nat) : Int)))) (h46 : ((belowL (σC.row [] 6).q [.slice l l_l l_c] ∧ goodB RD (iV ((l_l : Nat) : Int)) = true) ∧ Callee.builtin .len = Callee.builtin .len ∧ seeOp Pg (evL [.slice l l_l l_c]) (σC.row [] 6) (.call { callee := .builtin .len, args := ⟨tmpsTo 1⟩, argTypes := ⟨[28]⟩ }) = some (iV ((l_l : Nat) : Int)))) (h47 : ((belowL σK.q [.slice l l_l l_c] ∧ goodB RD (iV ((l_l : Nat) : Int)) = true) ∧ Callee.builtin .len = Callee.builtin .len ∧ seeOp Pg (evL [.slice l l_l l_c]) σK (.call { callee := .builtin .len, args := ⟨tmpsTo 1⟩, argTypes := ⟨[28]⟩ }) = some (iV ((l_l : Nat) : Int)))) (h48 : ((belowL σC.q [.slice l l_l l_c, iV nS] ∧ goodB RD (.slice qF lF cE) = true) ∧ sliceA Pg σC 28 (.slice l l_l l_c) (some (iV nS)) none none = some (.slice qF lF cE))) (h49 : ((belowL (σC.row [] 6).q [.slice l l_l l_c, iV nS] ∧ goodB RD (.slice qF lF cE) = true) ∧ sliceA Pg (σC.row [] 6) 28 (.slice l l_l l_c) (some (iV nS)) none none = some (.slice qF lF cE))) (h50 : ((belowL σK.q [.slice l l_l l_c, iV nS] ∧ goodB RD (.slice qF lF cE) = true) ∧ sliceA Pg σK 28 (.slice l l_l l_c) (some (iV nS)) none none = some (.slice qF lF cE))) (h51 : CallsA Pg 15 [.slice qH lI cG, .slice qX lX cX] σM (.bool true) σM) (nx : Q (.bool true) σM) (u1 : -9223372036854775808 ≤ i11_1 + 1 ∧ i11_1 + 1 ≤ 9223372036854775807 := by omega) (u2 : ¬ (i11_1 + 1) < n9 := by omega) (u3 : nQ = 0 := by omega) (u4 : nP = 0 := by omega) (u5 : 0 ≤ n9 ∧ n9 < ((lG : Nat) : Int) := by omega) (u6 : nRB = 0 := by omega) (u7 : -9223372036854775808 ≤ i10_1 + 1 ∧ i10_1 + 1 ≤ 9223372036854775807 := by omega) (u8 : -9223372036854775808 ≤ i10_1 - 1 ∧ i10_1 - 1 ≤ 9223372036854775807 := by omega) : lSpoilt_K1_0 l l_l l_c change q6 l6 c6 n9 i10_1 i11_1 σ Q :=
 fun g => ⟨[.g, .g, .g, .v (.slice qM lN cK), .e (.slice qN lO cL) σO, .c (.tuple ⟨[.slice qO lP cM, iV nP, iV nQ]⟩) σG, .g, .g, .g, .g, .g, .g, .g, .g, .g, .g, .n (i11_1 + 1), .b false, .g, .b false, .g, .g, .g, .g, .v (.slice qP lQ cN), .c (.bool true) σG, .g, .g, .g, .g, .g, .b false, .g, .g, .g, .e (.slice (some qE_a) lG cO) σL, .g, .g, .g, .i, .l (.int .u8 nAB), .g, .g, .n zA, .n zB, .n zC, .i, .e undef σP, .g, .c (.tuple ⟨[.slice qH lI cG, iV nR, iV nRB]⟩) σA, .g, .g, .g, .g, .g, .g, .g, .g, .b false, .g, .g, .g, .v (.slice qD lE cD), .e (.slice qG lH cF) σE, .g, .g, .g, .g, .n (i10_1 + 1), .v (iV nH), .v (.slice qB lB cB), .e (.slice qQ lR cP) σC, .g, .g, .g, .c (.bool false) σC, .g, .g, .g, .n (i10_1 - 1), .v (iV nZ), .v (.slice qI lJ cH), .e (.slice qU lU cU) σK, .g, .g, .g, .g, .n (i10_1 + 1), .v (iV nS), .v (.slice qF lF cE), .e (.slice qX lX cX) σM, .g, .g, .g, .c (.bool true) σM, .g, .c (.bool true) σM, .g, .g], kc (by kernel_rfl) (ai h1 (ai h2 (ai (CallsA.top (aw := 7) h3) (ai (wrap64 (n := i11_1 + 1) u1.1 u1.2) (ai (ltI_ff u2) (ai (neqI_ff u3) (ai h4 (ai (CallsA.top (aw := 7) h5) (ai (neqI_ff u4) (ai h6 (ai u5 (ai h7 (ai h8 (ai h9 (ai h10 (ai u5 (ai h11 (ai (CallsA.top (aw := 7) h12) (ai (neqI_ff u6) (ai h13 (ai h14 (ai (wrap64 (n := i10_1 + 1) u7.1 u7.2) (ai h15 (ai h16 (ai h17 (ai h18 (ai h19 (ai h20 (ai h21 (ai h22 (ai h23 (ai h24 (ai h25 (ai h26 (ai h26 (ai h27 (ai h28 (ai h29 (ai h29 (ai h30 (ai (CallsA.top (aw := 7) h31) (ai (wrap64 (n := i10_1 - 1) u8.1 u8.2) (ai h32 (ai h33 (ai h34 (ai (wrap64 (n := i10_1 + 1) u7.1 u7.2) (ai h35 (ai h36 (ai h37 (ai h38 (ai h39 (ai h40 (ai h41 (ai h42 (ai h43 (ai h44 (ai h45 (ai h46 (ai h46 (ai h47 (ai h48 (ai h49 (ai h49 (ai h50 (ai (CallsA.top (aw := 7) h51) (ai (topE : CallsE (topR Pg 7) (.func 7) [] σM (.bool true) σM) nx))))))))))))))))))))))))))))))))))))))))))))))))))))))))))))))))))⟩
end
section
variable {σ τ : St} {bs : List Int} {xs ys : List Rec} {p q : Option Addr} {l m c d : Nat}
theorem wrap16 (n : Int) : wrapK .u16 n = n % 65536 := by
 have e1 : (2 : Int) ^ 16 = 65536 := by decide
 rw [wrapK_eq]
 simp only [IntKind.wrap, IntKind.bits, IntKind.signed, e1, Bool.false_and, Bool.false_eq_true, if_false]
theorem copy0' (h : BytesP (σ.row [] 1) p l bs) (hl : l ≤ 1000000) : ∃ q d σ', appendA Pg 22 22 (.slice (some ⟨σ.q, 0, none⟩) 0 0) (.slice p l c) (σ.row [] 1) = some (.slice q l d, σ') ∧ New σ σ' ∧ BS σ' q l d bs ∧ ∀ b, AtP q b → σ.q ≤ b := by
 have hbl := BytesP.len h
 subst hbl
 have a1 : AxB (σ.row [] 1) σ.q (some ⟨σ.q, 0, none⟩) 0 0 [] := Ax.lit (own_new _ _ _) rfl (ex_small (by omega)) (Nat.le_refl _)
 obtain ⟨q, d, σ', g1, g2, g3, g4⟩ := AxB.push (d := c) (bs := []) (xs := bs) a1 h (by simp; omega) (Nat.le_succ _)
 rw [List.nil_append] at g1 g2
 refine ⟨q, d, σ', g1, (New.row σ [] 1).of_only g3 (by rintro b ⟨a, e, rfl⟩; cases e; exact Nat.le_refl _), g2.cutS, fun b hb => (g2.bd b hb).1⟩
abbrev belT (σ : St) (p : Option Addr) (l c i : Nat) (a : Int) : Prop := (belowL σ.q [.slice p l c, iV a] ∧ goodB RD (.slice (partP p 6 0 c) i c) = true) ∧ sliceA Pg σ 28 (.slice p l c) none (some (iV a)) none = some (.slice (partP p 6 0 c) i c)
abbrev belD (σ : St) (p : Option Addr) (l c j : Nat) (b : Int) : Prop := (belowL σ.q [.slice p l c, iV b] ∧ goodB RD (.slice (partP p 6 j c) (l - j) (c - j)) = true) ∧ sliceA Pg σ 28 (.slice p l c) (some (iV b)) none none = some (.slice (partP p 6 j c) (l - j) (c - j))
abbrev belN (σ : St) (p : Option Addr) (l c : Nat) : Prop := (belowL σ.q [.slice p l c] ∧ goodB RD (iV (l : Int)) = true) ∧ Callee.builtin .len = Callee.builtin .len ∧ seeOp Pg (evL [.slice p l c]) σ (.call { callee := .builtin .len, args := ⟨tmpsTo 1⟩, argTypes := ⟨[28]⟩ }) = some (iV (l : Int))
theorem near_all (h : RecsP σ 63 p l xs) (ag : ArgS σ 6 p l c) (hl : l ≤ 1000) {i j : Nat} (hi : i ≤ l) (hj : j ≤ l) {a b : Int} (ha : a = i) (hb : b = j) :
  ∃ q1 d1 s1 q2 m d2 s2,
   sliceA Pg (σ.row [] 6) 28 (.slice p l c) none (some (iV a)) none = some (.slice (partP p 6 0 c) i c) ∧
   appendA Pg 28 28 (.slice (some ⟨σ.q, 0, none⟩) 0 0) (.slice (partP p 6 0 c) i c) (σ.row [] 6) = some (.slice q1 i d1, s1) ∧
   sliceA Pg s1 28 (.slice p l c) (some (iV b)) none none = some (.slice (partP p 6 j c) (l - j) (c - j)) ∧
   appendA Pg 28 28 (.slice q1 i d1) (.slice (partP p 6 j c) (l - j) (c - j)) s1 = some (.slice q2 m d2, s2) ∧
   belowL (σ.row [] 6).q [.slice p l c, iV a] ∧ belowL (σ.row [] 6).q [.slice (some ⟨σ.q, 0, none⟩) 0 0, .slice (partP p 6 0 c) i c] ∧ belowL s1.q [.slice p l c] ∧ belowL s1.q [.slice p l c, iV b] ∧ belowL s1.q [.slice q1 i d1, .slice (partP p 6 j c) (l - j) (c - j)] ∧
   belT σ p l c i a ∧ belT (σ.row [] 6) p l c i a ∧ belN σ p l c ∧ belN (σ.row [] 6) p l c ∧ belN s1 p l c ∧ belD σ p l c j b ∧ belD (σ.row [] 6) p l c j b ∧ belD s1 p l c j b ∧
   New σ s1 ∧ New σ s2 ∧ m ≤ 2000 ∧ RecsP s2 63 q2 m (xs.take i ++ xs.drop j) := by
 have n0 : New σ (σ.row [] 6) := New.row _ _ _
 have a1 : Ax (σ.row [] 6) σ.q 6 (some ⟨σ.q, 0, none⟩) 0 0 [] := Ax.lit (own_new _ _ _) rfl (ex_small (by omega)) (Nat.le_refl _)
 have T0 := argTake (SlV.le h n0.le) (ag.le n0.le) hi ha
 obtain ⟨q1, d1, s1, g1, g2, g3, g4⟩ := Ax.append (k := c) appT_ref a1 T0.2.1 (by omega) (cellsR _) (Nat.le_succ _)
 rw [Nat.zero_add] at g1 g2
 rw [List.nil_append] at g2
 have n1 : New σ s1 := n0.of_only g3 (by rintro b ⟨a, e, rfl⟩; cases e; exact Nat.le_refl _)
 have D1 := argDrop (SlV.le h n1.le) (ag.le n1.le) hj hb
 obtain ⟨q2, d2, s2, f1, f2, f3, f4⟩ := Ax.append (k := c - j) appT_ref g2 D1.2.1 (by omega) (cellsR _) n1.nx
 have n2 : New σ s2 := n1.of_only f3 (fun b hb => (g2.bd b hb).1)
 have bl : ∀ s : St, Le σ s → belowB RD s.q (.slice p l c) = true := fun s hs => belowB_sl (slv_lt (SlV.le h hs))
 have bT : ∀ s : St, Le σ s → belT s p l c i a := fun s hs => ⟨⟨belowL_cons (bl s hs) (belowL_cons (belowB_rig rfl) belowL_nil), rfl⟩, (argTake (SlV.le h hs) (ag.le hs) hi ha).1⟩
 have bD : ∀ s : St, Le σ s → belD s p l c j b := fun s hs => ⟨⟨belowL_cons (bl s hs) (belowL_cons (belowB_rig rfl) belowL_nil), rfl⟩, (argDrop (SlV.le h hs) (ag.le hs) hj hb).1⟩
 have bN : ∀ s : St, Le σ s → belN s p l c := fun s hs => ⟨⟨belowL_cons (bl s hs) belowL_nil, rfl⟩, rfl, by cases p <;> rfl⟩
 refine ⟨q1, d1, s1, q2, i + (l - j), d2, s2, T0.1, g1, D1.1, f1, belowL_cons (bl _ n0.le) (belowL_cons (belowB_rig rfl) belowL_nil), belowL_cons (belowB_sl1 (Nat.lt_succ_self _)) (belowL_cons (belowB_sl (slv_lt T0.2)) belowL_nil), belowL_cons (bl _ n1.le) belowL_nil,
  belowL_cons (bl _ n1.le) (belowL_cons (belowB_rig rfl) belowL_nil), belowL_cons (belowB_sl fun a e => (g2.bd _ ⟨a, e, rfl⟩).2) (belowL_cons (belowB_sl (slv_lt D1.2)) belowL_nil),
  bT _ (Le.refl _), bT _ n0.le, bN _ (Le.refl _), bN _ n0.le, bN _ n1.le, bD _ (Le.refl _), bD _ n0.le, bD _ n1.le, n1, n2, by omega, ?_⟩
 have e : flat ((xs.take i).map recV) ++ flat ((xs.drop j).map recV) = flat ((xs.take i ++ xs.drop j).map recV) := by rw [List.map_append, flat_append]
 rw [e] at f2
 have hxl := h.len
 exact f2.slv (by simp; omega) (by intro v hv; obtain ⟨x, _, rfl⟩ := List.mem_map.1 hv; exact elOk_ref x)
theorem lSpoilt_top {at_ change : Int} (h : RecsP σ 63 p l xs) (hby : ∀ x ∈ xs, Byte x) (ag : ArgS σ 6 p l c) (hat : 0 ≤ at_ ∧ at_ ≤ 65535) (hch : 0 ≤ change ∧ change ≤ 65535) :
  TopQ Pg 7 5 [.slice p l c, .int .u16 at_, .int .u16 change] σ fun v _ => v = .bool true := by
 have hlen := h.len
 by_cases h0 : l = 0
 ·exact lSpoilt_ra rfl (by omega)
 by_cases h59 : 59 < l
 ·exact lSpoilt_rb rfl (by omega) (by omega)
 obtain ⟨b, σ2, k1, n1, o1, _⟩ := one_c (c := c) h
 have k2 := rFault_c (c := 1) (RowsP.single agg28 o1 (SlV.le h n1.le)) (by omega) (by intro r hr; simp at hr; subst hr; omega)
 by_cases hz : faultZ [xs] = 0
 rotate_left
 ·exact lSpoilt_rc k1 k2 rfl (by omega) (by omega) hz
 rw [hz] at k2
 obtain ⟨_, hall⟩ := faultZ_ok hz
 obtain ⟨q4, c4, σ5, k3, n3, r3, _⟩ := Records_c (c := c) (SlV.le h n1.le) (by omega)
 obtain ⟨hz', _⟩ | ⟨_, q6, c6, σ8, k4, n4, b4, cut4⟩ := Encode_c (c := c4) r3 (by omega) hby
 ·exact absurd hz hz'
 have hfl := file_le hall
 have hcf := count_file xs
 have hpos : 0 < (fileB xs).length := by
  have : (fileB xs).count 126 ≤ (fileB xs).length := List.count_le_length
  omega
 have N8 := (n1.trans n3).trans n4
 obtain ⟨cut, hcut⟩ : ∃ cut : Nat, cut = at_.toNat % (fileB xs).length := ⟨_, rfl⟩
 have hcl : cut < (fileB xs).length := by rw [hcut]; exact Nat.mod_lt _ hpos
 have hrem : binA Pg .rem 3 (.tmp 53) (.tmp 55) (iV at_) (iV (((fileB xs).length : Nat) : Int)) = some (iV (cut : Int)) := by
  rw [rem_eq (by omega), Int.tmod_eq_emod_of_nonneg hat.1]
  have e : at_ = (at_.toNat : Int) := by omega
  rw [hcut, e, Int.toNat_natCast]
  rfl
 refine lSpoilt_rf (Pr := fun _ _ => False) (P0 := fun i e τ => ∃ n : Nat, i = n ∧ n < l ∧ New σ8 τ ∧ e = ((fileB (xs.take n)).length : Int) ∧ (fileB (xs.take n)).length ≤ cut ∧ cut < (fileB (xs.take (n + 1))).length) k1 k2 k3 k4 hrem
  (lSpoilt_loop1 (Inv := fun k i e τ => ∃ n : Nat, i = n ∧ k + n = l ∧ New σ8 τ ∧ e = ((fileB (xs.take n)).length : Int) ∧ (fileB (xs.take n)).length ≤ cut) ?_ l 0 0 σ8 ⟨0, rfl, rfl, New.refl _, by simp [fileB], by simp [fileB]⟩) (fun _ _ h => h.elim) ?_ (by omega) (by omega) rfl rfl (by omega)
 ·rintro k i e τ ⟨n, rfl, hk, hN, rfl, hle⟩
  by_cases hn : n < l
  rotate_left
  ·exfalso
   rw [List.take_of_length_le (by omega)] at hle
   omega
  have L := N8.trans hN
  obtain ⟨s1, r1⟩ := argTake (c := c) (SlV.le h L.le) (ag.le L.le) (n := n + 1) (by omega) (i := (n : Int) + 1) (by omega)
  have hall' : (xs.take (n + 1)).all rightB = true := List.all_eq_true.2 fun y hy => List.all_eq_true.1 hall y (List.mem_of_mem_take hy)
  obtain ⟨q5, c5, τ2, f1, m1, r2, _⟩ := Records_c (c := c) r1 (by omega)
  have hln : (xs.take (n + 1)).length = n + 1 := by simp; omega
  obtain ⟨hz', _⟩ | ⟨_, q7, c7, τ3, f2, m2, _, _⟩ := Encode_c (c := c5) r2 (by omega) (right_byte hall')
  ·exact absurd (faultZ_of (by omega) hall') hz'
  by_cases hc : cut < (fileB (xs.take (n + 1))).length
  ·exact lSpoilt_s1b s1 f1 f2 ⟨n, rfl, hn, (hN.trans m1).trans m2, rfl, hle, hc⟩ (by omega) (by omega) rfl (by omega)
  ·exact lSpoilt_s1c s1 f1 f2 ⟨k - 1, by omega, n + 1, by omega, by omega, (hN.trans m1).trans m2, rfl, by omega⟩ (by omega) (by omega) rfl (by omega)
 ·rintro i e τ ⟨n, rfl, hn, hN, rfl, hle, hgt⟩
  obtain ⟨x, hx⟩ : ∃ x, xs[n]? = some x := ⟨xs[n]'(by omega), List.getElem?_eq_getElem _⟩
  obtain ⟨k, hk⟩ : ∃ k, cut = (fileB (xs.take n)).length + k := ⟨cut - (fileB (xs.take n)).length, by omega⟩
  have hkf : k < (frameB x).length := by
   have e : fileB (xs.take (n + 1)) = fileB (xs.take n) ++ frameB x := by rw [take_snoc hx]; unfold fileB; rw [List.flatMap_append]; simp
   rw [e, List.length_append] at hgt
   omega
  have bF : BytesP τ q6 (fileB xs).length (fileB xs) := SlV.le b4 hN.le
  have BF : BS τ q6 (fileB xs).length c6 (fileB xs) := (BS.mk b4 cut4).le hN.le
  obtain ⟨q9, c9, s1, b9⟩ := (BF.le (New.row τ [] 1).le).head (k := cut) (by omega) hpos (i := (cut : Int)) rfl
  have hcutl := cut_law hall hx hkf
  rw [← hk] at hcutl
  have htb : Bts ((fileB xs).take cut) := fun y hy => file_bts xs y (List.mem_of_mem_take hy)
  obtain ⟨q10, c10, σ9, f1, m1, b10, _⟩ := copy0' (c := c9) b9 (by omega)
  have hxl : (xs.take n).length = n := by simp; omega
  obtain ⟨hbad, _⟩ | ⟨_, _, q11, c11, σ11, f2, m2, r11, _⟩ := Decode_c (c := c10) b10.bt htb (by omega)
  ·rw [hcutl] at hbad
   exfalso
   have : ((xs.take n, if k ≤ 1 then (0 : Int) else 1)).1.length = n := hxl
   omega
  rw [hcutl] at f2 r11
  have f2 : CallsA Pg 8 [.slice q10 cut c10] σ9 (.tuple ⟨[.slice q11 (xs.take n).length c11, iV (if k ≤ 1 then 0 else 1), iV 0]⟩) σ11 := f2
  have r11 : RecsP σ11 40 q11 (xs.take n).length (xs.take n) := r11
  rw [hxl] at f2 r11
  have L11 := ((N8.trans hN).trans m1).trans m2
  obtain ⟨s2, r12⟩ := argTake (c := c) (SlV.le h L11.le) (ag.le L11.le) (n := n) (by omega) (i := (n : Int)) rfl
  have f3 := same_c (c := c11) (d := c) r11 r12 (by omega)
  rw [decide_eq_true rfl] at f3
  obtain ⟨q13, c13, σ13, f4, m3, a13⟩ := copyB (c := c6) (SlV.le bF (m1.trans m2).le) (by omega)
  obtain ⟨y0, hy0⟩ : ∃ y0, (fileB xs)[cut]? = some y0 := ⟨(fileB xs)[cut]'(by omega), List.getElem?_eq_getElem _⟩
  have hyb := file_bts xs y0 (List.mem_of_getElem? hy0)
  obtain ⟨z, hz1⟩ : ∃ z, z = (y0 + (1 + Int.tmod change 255)) % 256 := ⟨_, rfl⟩
  have hzb : 0 ≤ z ∧ z ≤ 255 := by omega
  have htm : 0 ≤ Int.tmod change 255 ∧ Int.tmod change 255 ≤ 254 := by rw [Int.tmod_eq_emod_of_nonneg hch.1]; omega
  obtain ⟨a, σ14, rfl, f5, a14, w14⟩ := ax_setB (x := z) a13 rfl hcl (j := (cut : Int)) rfl
  have ld := (AxB.bytes a13).ldB (i := (cut : Int)) hy0 rfl
  have w1 : wrapK .u16 (Int.add 1 (Int.tmod change 255)) = 1 + Int.tmod change 255 := by
   rw [show Int.add 1 (Int.tmod change 255) = 1 + Int.tmod change 255 from rfl, wrap16]; omega
  have w2 : wrapK .u8 (1 + Int.tmod change 255) = 1 + Int.tmod change 255 := by rw [wrap8]; omega
  have w3 : wrapK .u8 (Int.add y0 (1 + Int.tmod change 255)) = z := by rw [show Int.add y0 (1 + Int.tmod change 255) = y0 + (1 + Int.tmod change 255) from rfl, wrap8, hz1]
  have m4 : New σ11 σ14 := m3.of_only w14 (fun b hb => (a13.bd b hb).1)
  obtain ⟨bad, hbad⟩ : ∃ bad, bad = (fileB xs).set cut z := ⟨_, rfl⟩
  rw [← hbad] at a14
  have hbl : bad.length = (fileB xs).length := by rw [hbad, List.length_set]
  have a14' : AxB σ14 σ11.q (some a) bad.length c13 bad := by rw [hbl]; exact a14
  have hbc : bad.count 126 ≤ l + 1 := by
   have := count_set (fileB xs) cut z
   rw [hbad]; omega
  have hrf := read_few bad
  have bb : BytesP σ14 (some a) (fileB xs).length bad := by rw [← hbl]; exact a14'.bytes
  obtain ⟨hx2, _⟩ | ⟨_, _, q15, c15, σ15, f6, m5, r15, _⟩ := Decode_c (c := c13) bb (by rw [hbad]; exact bts_set (file_bts xs) hzb _) (by omega)
  ·exfalso; omega
  have L15 := (L11.trans m4).trans m5
  have law := spoilt_law hall hx hkf z
  rw [← hk, ← hbad] at law
  have hj : n + 1 ≤ l := by omega
  obtain ⟨q16, c16, σ16, q18, m18, c18, σ18, y1, y2, y3, y4, y5, y6, y7, y8, y9, y10, y11, y12, y13, y14, y15, y16, y17, N16, N18, hm18, r18⟩ := near_all (SlV.le h L15.le) (ag.le L15.le) (by omega) (i := n) (j := n + 1) (by omega) hj (a := (n : Int)) (b := min (l : Int) ((n : Int) + 1)) rfl (by omega)
  have f7 := has_c (c := c15) (d := c18) (SlV.le r15 N18.le) r18 (by omega) (by omega)
  by_cases hA : leftR (decL bad).1 (xs.take n ++ xs.drop (n + 1)) = []
  ·rw [decide_eq_true hA] at f7
   by_cases hk1 : k ≤ 1
   ·rw [if_pos hk1] at f2
    exact lSpoilt_t1x0k s1 f1 f2 s2 f3 f4 ld w1 w2 w3 f5 f6 y1 y2 min_see y3 y4 y5 y6 y7 y8 y9 y10 y11 y12 y13 y14 y15 y16 y17 f7 rfl (by omega) (by omega) rfl rfl ⟨by omega, by omega⟩ rfl (by omega)
   ·rw [if_neg hk1] at f2
    exact lSpoilt_t1x0d s1 f1 f2 s2 f3 f4 ld w1 w2 w3 f5 f6 y1 y2 min_see y3 y4 y5 y6 y7 y8 y9 y10 y11 y12 y13 y14 y15 y16 y17 f7 rfl (by omega) (by omega) rfl rfl ⟨by omega, by omega⟩ rfl (by omega)
  ·rw [decide_eq_false hA] at f7
   have hsub : (xs.take (n - 1) ++ xs.drop (n + 1)).Sublist (decL bad).1 := by
    rcases law with e | e
    ·exact absurd (leftR_sub e) hA
    ·exact e
   have L18 := L15.trans N18
   obtain ⟨q20, c20, σ20, q22, m22, c22, σ22, z1, z2, z3, z4, z5, z6, z7, z8, z9, z10, z11, z12, z13, z14, z15, z16, z17, N20, N22, hm22, r22⟩ := near_all (SlV.le h L18.le) (ag.le L18.le) (by omega) (i := n - 1) (j := n + 1) (by omega) hj (a := max 0 ((n : Int) - 1)) (b := min (l : Int) ((n : Int) + 1)) (by omega) (by omega)
   have f8 := has_c (c := c15) (d := c22) (SlV.le (SlV.le r15 N18.le) N22.le) r22 (by omega) (by omega)
   rw [decide_eq_true (leftR_sub hsub)] at f8
   by_cases hk1 : k ≤ 1
   ·rw [if_pos hk1] at f2
    exact lSpoilt_t1x0l s1 f1 f2 s2 f3 f4 ld w1 w2 w3 f5 f6 y1 y2 min_see y3 y4 y5 y6 y7 y8 y9 y10 y11 y12 y13 y14 y15 y16 y17 f7 max_see z1 z2 min_see z3 z4 z5 z6 z7 z8 z9 z10 z11 z12 z13 z14 z15 z16 z17 f8 rfl (by omega) (by omega) rfl rfl ⟨by omega, by omega⟩ rfl (by omega) (by omega)
   ·rw [if_neg hk1] at f2
    exact lSpoilt_t1x0e s1 f1 f2 s2 f3 f4 ld w1 w2 w3 f5 f6 y1 y2 min_see y3 y4 y5 y6 y7 y8 y9 y10 y11 y12 y13 y14 y15 y16 y17 f7 max_see z1 z2 min_see z3 z4 z5 z6 z7 z8 z9 z10 z11 z12 z13 z14 z15 z16 z17 f8 rfl (by omega) (by omega) rfl rfl ⟨by omega, by omega⟩ rfl (by omega) (by omega)
end
section
variable {σ : St}
theorem wt_int {n : Nat} {cs : List Value} (h : WT Pg σ (n + 1) 3 cs) : ∃ i, cs = [intV i] := by
 unfold WT at h
 simp only [Tryd.underlying3] at h
 obtain ⟨i, h, _⟩ := h
 exact ⟨i, h⟩
theorem wt_slice {n : Nat} {t e : TypeId} {cs : List Value} {k : Nat} (hu : Pg.underlying t = some (.slice e)) (hk : Pg.cellsOf e = k) (h : WT Pg σ (n + 1) t cs) :
  ∃ p len cap rs, cs = [.slice p len cap] ∧ len ≤ maxLen ∧ SlP σ k p len rs ∧ rs.length = len * k ∧ ∀ i, i < len → WT Pg σ n e ((rs.drop (i * k)).take k) := by
 unfold WT at h
 simp only [hu, hk] at h
 rcases h with rfl | ⟨b, len, cap, rs, rfl, h1, h2, h3, h4, h5, h6⟩
 ·exact ⟨none, 0, 0, [], rfl, by decide, SlP.nil _ _, by simp, fun i hi => by omega⟩
 ·refine ⟨_, len, cap, rs, rfl, h1, ⟨h3, ?_, h5⟩, h3, h6⟩
  simp only [readRow, h4, stampOf, extOf, Nat.zero_add, List.drop_zero, List.take_length]
  show (bif Nat.ble rs.length rs.length then some rs else none) = some rs
  rw [show Nat.ble rs.length rs.length = true from by simp]; rfl
theorem pieces {α : Type} {k : Nat} {Q : List Value → Prop} {f : α → List Value} (hq : ∀ cs, Q cs → ∃ x, cs = f x) : ∀ (len : Nat) (rs : List Value), rs.length = len * k → (∀ i, i < len → Q ((rs.drop (i * k)).take k)) → ∃ xs : List α, xs.length = len ∧ rs = xs.flatMap f
 | 0, rs, hl, _ => ⟨[], rfl, by simpa using hl⟩
 | len + 1, rs, hl, h => by
  obtain ⟨x, hx⟩ := hq _ (h 0 (by omega))
  obtain ⟨xs, h1, h2⟩ := pieces (k := k) hq len (rs.drop k) (by simp [hl, Nat.add_mul]) (fun i hi => by
   have := h (i + 1) (by omega)
   rwa [Nat.add_mul, Nat.one_mul, Nat.add_comm (i * k), ← List.drop_drop] at this)
  refine ⟨x :: xs, by simp [h1], ?_⟩
  simp only [List.flatMap_cons, ← h2, ← hx]
  simp
theorem flat_aggs {α : Type} (f : α → List Value) (xs : List α) : flat (xs.map fun x => .agg ⟨f x⟩) = xs.flatMap f := by
 induction xs with
 | nil => rfl
 | cons x xs ih => rw [List.map_cons, List.flatMap_cons, ← ih]; simp [flat, Value.cells]
theorem wt_u8 {n : Nat} {cs : List Value} (h : WT Pg σ (n + 1) 5 cs) : ∃ i : Int, cs = [.int .u8 i] ∧ 0 ≤ i ∧ i ≤ 255 := by
 unfold WT at h
 simp only [Tryd.underlying5] at h
 obtain ⟨i, h, hk⟩ := h
 refine ⟨i, h, ?_⟩
 rw [show IntKind.u8.min = 0 by decide, show IntKind.u8.max = 255 by decide] at hk; exact hk
theorem wt_u16 {n : Nat} {cs : List Value} (h : WT Pg σ (n + 1) 42 cs) : ∃ i : Int, cs = [.int .u16 i] ∧ 0 ≤ i ∧ i ≤ 65535 := by
 unfold WT at h
 simp only [Tryd.underlying42] at h
 obtain ⟨i, h, hk⟩ := h
 refine ⟨i, h, ?_⟩
 rw [show IntKind.u16.min = 0 by decide, show IntKind.u16.max = 65535 by decide] at hk; exact hk
theorem wt_arg {n : Nat} {t e : TypeId} {p : Option Addr} {l c k : Nat} (hu : Pg.underlying t = some (.slice e)) (hk : Pg.cellsOf e = k) (h : WT Pg σ (n + 1) t [.slice p l c]) : ArgS σ k p l c := by
 unfold WT at h
 simp only [hu, hk] at h
 rcases h with h | ⟨b, len, cap, rs, h1, h2, h3, h4, h5, h6, h7⟩
 ·obtain ⟨rfl, rfl, rfl⟩ : p = none ∧ l = 0 ∧ c = 0 := by simpa using h
  exact .inl ⟨rfl, rfl, rfl⟩
 ·obtain ⟨rfl, rfl, rfl⟩ : p = some ⟨b, 0, none⟩ ∧ l = len ∧ c = cap := by simpa using h1
  exact .inr ⟨b, rs, 1, true, rfl, by rw [← capLow_ex h3.2]; exact h3.1, h3.2, h5, h4, h6⟩
theorem wt_rec {n : Nat} {cs : List Value} (h : WT Pg σ (n + 2) 63 cs) : ∃ x : Rec, cs = recL x ∧ Byte x := by
 unfold WT at h
 simp only [Tryd.underlying63] at h
 obtain ⟨hl, h⟩ := h
 have hl : cs.length = 6 := hl.trans (by kernel_rfl)
 obtain ⟨c1, c2, c3, c4, c5, c6, rfl⟩ : ∃ c1 c2 c3 c4 c5 c6, cs = [c1, c2, c3, c4, c5, c6] := by
  match cs, hl with
  | [c1, c2, c3, c4, c5, c6], _ => exact ⟨_, _, _, _, _, _, rfl⟩
 have k3 : Pg.cellsOf 3 = 1 := by kernel_rfl
 have k5 : Pg.cellsOf 5 = 1 := by kernel_rfl
 simp only [List.mem_cons, List.not_mem_nil, or_false, forall_eq_or_imp, forall_eq, k3, k5] at h
 obtain ⟨⟨_, h1⟩, ⟨_, h2⟩, ⟨_, h3⟩, ⟨_, h4⟩, ⟨_, h5⟩, ⟨_, h6⟩⟩ := h
 obtain ⟨x1, h1⟩ := wt_int h1
 obtain ⟨x2, h2⟩ := wt_int h2
 obtain ⟨x3, h3⟩ := wt_int h3
 obtain ⟨x4, h4, hb⟩ := wt_u8 h4
 obtain ⟨x5, h5⟩ := wt_int h5
 obtain ⟨x6, h6⟩ := wt_int h6
 obtain rfl : c1 = intV x1 := by simpa using h1
 obtain rfl : c2 = intV x2 := by simpa using h2
 obtain rfl : c3 = intV x3 := by simpa using h3
 obtain rfl : c4 = .int .u8 x4 := by simpa using h4
 obtain rfl : c5 = intV x5 := by simpa using h5
 obtain rfl : c6 = intV x6 := by simpa using h6
 exact ⟨⟨x1, x2, x3, x4, x5, x6⟩, rfl, hb⟩
theorem wt_recs {n : Nat} {cs : List Value} (h : WT Pg σ (n + 3) 28 cs) : ∃ p l c xs, cs = [.slice p l c] ∧ RecsP σ 63 p l xs ∧ (∀ x ∈ xs, Byte x) ∧ ArgS σ 6 p l c := by
 obtain ⟨p, l, c, rs, e1, _, s1, l1, w1⟩ := wt_slice Tryd.underlying28 (k := 6) (by kernel_rfl) h
 subst e1
 have ha := wt_arg Tryd.underlying28 (k := 6) (by kernel_rfl) h
 obtain ⟨xs, n1, rfl⟩ := pieces (f := fun x : {x : Rec // Byte x} => recL x.1) (fun cs h => by
  obtain ⟨x, e, h⟩ := wt_rec h
  exact ⟨⟨x, h⟩, e⟩) l rs l1 w1
 refine ⟨p, l, c, xs.map (·.1), rfl, ⟨?_, by simpa using n1, fun v hv => ?_⟩, fun x hx => ?_, ha⟩
 ·rw [flat_aggs recL, List.flatMap_map]; exact s1
 ·obtain ⟨x, _, rfl⟩ := List.mem_map.1 hv
  exact elOk_ref x
 ·obtain ⟨y, _, rfl⟩ := List.mem_map.1 hx
  exact y.2
theorem not_agg {ι : Inj} {av v : Value} (h : VR ι av v) (hv : ∀ cs, v ≠ .agg cs) : ∀ cs, av ≠ .agg cs := by
 rintro cs rfl
 cases h with
 | atom h => simp [atomB] at h
 | agg _ _ => exact hv _ rfl
theorem sl_not {W : World} {t e : TypeId} {v : Value} (hu : Pg.underlying t = some (.slice e)) (h : Value.okWide Pg W .any 0 t v) : ∀ cs, v ≠ .agg cs := by
 rintro cs rfl
 unfold Value.okWide at h
 rw [hu] at h
 simp [Cell.okWide, Cell.ok, hu] at h
theorem int_not {W : World} {t : TypeId} {k : IntKind} {v : Value} (hu : Pg.underlying t = some (.int k)) (h : Value.okWide Pg W .any 0 t v) : ∀ cs, v ≠ .agg cs := by
 rintro cs rfl
 unfold Value.okWide at h
 rw [hu] at h
 simp [Cell.okWide, Cell.ok, hu] at h
theorem cells_slice {v : Value} {p : Option Addr} {l c : Nat} (h : v.cells.toList = [.slice p l c]) (hn : ∀ cs, v ≠ .agg cs) : v = .slice p l c := by
 cases v with
 | agg cs => exact absurd rfl (hn cs)
 | _ => first | (simp [Value.cells] at h; done) | simpa [Value.cells] using h
theorem cells_int {v : Value} {k : IntKind} {x : Int} (h : v.cells.toList = [.int k x]) (hn : ∀ cs, v ≠ .agg cs) : v = .int k x := by
 cases v with
 | agg cs => exact absurd rfl (hn cs)
 | _ => first | (simp [Value.cells] at h; done) | simpa [Value.cells] using h
end
end Go.Proofs.YtffgfojabcbegaaDoor
