/- Proved: the statement RunCovers returns true, whatever its arguments; no condition. -/

import Derived.Test.YtmdopblmkkameaaRows
import Derived.Test.YtmdopblmkkameaaSL
import Derived.Test.YtmdopblmkkameaaDA
import Derived.Test.YtmdopblmkkameaaAw
import Derived.WalkKit
import Derived.ProofKit
import Derived.OpenShut
namespace Go.Proofs.Ytmdopblmkkameaa.runCovers
open Go.ChangeShapes Go.WideShapes Go.ChangeAt Go.RowKit
open Go.Lay
set_option linter.unusedVariables false
theorem own : ownKnob Try.prog.godebug = none := by kernel_rfl
theorem hkids : Kids Try.prog (· < Try.prog.types.size) := kids_rows (by kernel_rfl) (by kernel_rfl)
theorem hfull : ∀ (t : Nat) (e : TypeId), t < Try.prog.types.size → Try.prog.underlying t = some (.slice e) → 0 < Try.prog.cellsOf e := slices_full_of Try.prog (by kernel_rfl)
theorem htys : ∀ t ∈ ([25, 41, 41, 3] : List TypeId), t < Try.prog.types.size := of_decide_eq_true (by kernel_rfl)
theorem trod_len {H : Type} {enc : TypeId × Value → H} {w : World} {b : Nat} {sp : Nat → Bool} {held : Bool} : ∀ {ts : List TypeId} {vs : List Value} {ds : List (DataW H)} {ps : List MemPlace}, DataW.TrodAll enc Try.prog w b sp held ts vs ds ps → vs.length = ts.length ∧ ds.length = ts.length
 | [], [], [], _, _ => ⟨rfl, rfl⟩
 | _ :: _, _ :: _, _ :: _, _, ⟨_, _, _, h, _⟩ => by have := trod_len h; simp [this.1, this.2]
 | [], _ :: _, _, _, h => h.elim
 | [], [], _ :: _, _, h => h.elim
 | _ :: _, [], _, _, h => h.elim
 | _ :: _, _ :: _, [], _, h => h.elim
theorem trod_n {H : Type} {enc : TypeId × Value → H} {w : World} {b : Nat} {sp : Nat → Bool} {held : Bool} {vs : List Value} {ds : List (DataW H)} {ps : List MemPlace} (h : DataW.TrodAll enc Try.prog w b sp held [25, 41, 41, 3] vs ds ps) : ∃ v1 v2 v3 v4 d1 d2 d3 d4, vs = [v1, v2, v3, v4] ∧ ds = [d1, d2, d3, d4] := by
 obtain ⟨h1, h2⟩ := trod_len h
 match vs, ds, h1, h2 with
 | [v1, v2, v3, v4], [d1, d2, d3, d4], _, _ => exact ⟨v1, v2, v3, v4, d1, d2, d3, d4, rfl, rfl⟩
theorem vrs3 {ι : Inj} {avs : List Value} {v2 v3 v4 : Value} (h : VRs ι avs [v2, v3, v4]) : ∃ a2 a3 a4, avs = [a2, a3, a4] ∧ VR ι a2 v2 ∧ VR ι a3 v3 ∧ VR ι a4 v4 := by
 match avs, h with
 | [a2, a3, a4], .cons y2 (.cons y3 (.cons y4 .nil)) => exact ⟨a2, a3, a4, rfl, y2, y3, y4⟩
set_option maxRecDepth 100000 in
theorem open_cov {H : Type} {enc : TypeId × Value → H} {W : World} {ι : Inj} {σ : St} {v1 v2 v3 v4 : Value} {ds : List (DataW H)} {ps : List MemPlace} (hA : DataW.TrodAll enc Try.prog W 0 (fun _ => true) true [25, 41, 41, 3] [v1, v2, v3, v4] ds ps)
  (ok1 : Value.okWide Try.prog W .any 0 25 v1) (ok2 : Value.okWide Try.prog W .any 0 41 v2) (ok3 : Value.okWide Try.prog W .any 0 41 v3) (ok4 : Value.okWide Try.prog W .any 0 3 v4) (hr : Rep ι σ W) (ho : Ro ι W) :
  ∃ ι' σ' a1 a2 a3 a4, Rep ι' σ' W ∧ Ro ι' W ∧ VR ι' a1 v1 ∧ VR ι' a2 v2 ∧ VR ι' a3 v3 ∧ VR ι' a4 v4 ∧ WT Try.prog σ' 6 25 a1.cells.toList ∧ WT Try.prog σ' 6 41 a2.cells.toList ∧ WT Try.prog σ' 6 41 a3.cells.toList ∧ WT Try.prog σ' 6 3 a4.cells.toList := by
 match ds, hA with
 | d1 :: ds, hA =>
  obtain ⟨_, _, t1, hA, _⟩ := hA
  obtain ⟨ι1, σ1, a1, r1, o1, s1, l1, y1, w1⟩ := open_value (n := 6) (by kernel_rfl) t1 hr ho (hasRow_of ok1)
  obtain ⟨ι2, σ2, avs, r2, o2, l2, s2, y2, w2⟩ := open_all (n := 6) hA (by simp only [List.mem_cons, List.not_mem_nil, or_false]; rintro t (rfl | rfl | rfl) <;> kernel_rfl) r1 o1 (by simp only [List.mem_cons, List.not_mem_nil, or_false]; rintro v (rfl | rfl | rfl) <;> first | exact hasRow_of ok2 | exact hasRow_of ok3 | exact hasRow_of ok4)
  obtain ⟨a2, a3, a4, rfl, y2, y3, y4⟩ := vrs3 y2
  have q2 : WT Try.prog σ2 6 41 a2.cells.toList := w2.1
  have q3 : WT Try.prog σ2 6 41 a3.cells.toList := w2.2.1
  have q4 : WT Try.prog σ2 6 3 a4.cells.toList := w2.2.2.1
  exact ⟨ι2, σ2, a1, a2, a3, a4, r2, o2, y1.sub s2, y2, y3, y4, w1.le l2, q2, q3, q4⟩
set_option maxRecDepth 100000 in
theorem walk {H : Type} {enc : TypeId × Value → H} {W : World} {v1 v2 v3 v4 : Value} {ds : List (DataW H)} {ps : List MemPlace} (hA : DataW.TrodAll enc Try.prog W 0 (fun _ => true) true [25, 41, 41, 3] [v1, v2, v3, v4] ds ps)
  (ok1 : Value.okWide Try.prog W .any 0 25 v1) (ok2 : Value.okWide Try.prog W .any 0 41 v2) (ok3 : Value.okWide Try.prog W .any 0 41 v3) (ok4 : Value.okWide Try.prog W .any 0 3 v4) :
  Calls Try.prog 12 ⟨[v1, v2, v3, v4]⟩ W fun e w' => e = .returned (.bool true) ∧ Grown W w' := by
 obtain ⟨hr, ho⟩ := ro_start W
 obtain ⟨ι, σ, a1, a2, a3, a4, r1, o1, y1, y2, y3, y4, w1, w2, w3, w4⟩ := open_cov hA ok1 ok2 ok3 ok4 hr ho
 obtain ⟨pe, le, ce, pt, lt, ct, t, e0, hR⟩ := wt_tab w1
 have h0 : a1 = .agg ⟨yB t pe le ce pt lt ct⟩ := by
  cases a1 with
  | agg cs => cases cs; simp [Value.cells] at e0; rw [e0]
  | _ => simp [Value.cells] at e0
 subst h0
 obtain ⟨p1, l1, c1, x1, e1, h1⟩ := wt_ints w2
 have k1 := cells_slice e1 (not_agg y2 (sl_not Try.underlying41 ok2))
 subst k1
 obtain ⟨p2, l2, c2, x2, e2, h2⟩ := wt_ints w3
 have k2 := cells_slice e2 (not_agg y3 (sl_not Try.underlying41 ok3))
 subst k2
 obtain ⟨x3, e3⟩ := zFT w4
 have k3 := cells_int e3 (not_agg y4 (int_not Try.underlying3 ok4))
 subst k3
 exact TopQ.walk zR Aw.shut (lCovers_top hR h1 h2) r1 o1 (.cons y1 (.cons y2 (.cons y3 (.cons y4 .nil))))
set_option maxRecDepth 100000 in
theorem lifted (os : Os) (started : os.Started) (H : Type) (enc : TypeId × Value → H) :
  ReturnsInHanded {} Try.checked os 12 .any (Rows.runCoversSpec.pre6 enc Try.prog Try.f12 Rows.runCoversRow.domain false) (Rows.runCoversSpec.post enc Try.prog Try.f12 false true false false) := by
 refine returnsInHanded_of_change (C := Try.checked) own started (by kernel_rfl) Try.func12
  (ChangeSpec.witness6 (enc := enc) (C := Try.checked) false ⟨#[], #[.agg #[.int .i64 0, .int .i64 0, .slice none 0 0, .slice none 0 0], .slice none 0 0, .slice none 0 0, .int .i64 0], []⟩ 12 (by kernel_rfl) (by kernel_rfl) (by kernel_rfl) (by kernel_rfl)) ?_
 intro W base args ds gs before hval0 hW hcnd _
 have hval : ∀ (j : Nat) t v, Try.f12.params[j]? = some t → args[j]? = some v → Value.okWide Try.prog W .any base t v := hval0
 have hW' := hW
 obtain ⟨p, q, hA0, hV, rfl, hfz, hnd⟩ := hW
 have hA : DataW.TrodAll enc Try.prog W 0 (fun _ => true) true Try.f12.params.toList args.toList ds p := hA0
 rw [Try.params12] at hA hval
 obtain ⟨v1, v2, v3, v4, d1, d2, d3, d4, hargs, rfl⟩ : ∃ v1 v2 v3 v4 d1 d2 d3 d4, args = #[v1, v2, v3, v4] ∧ ds = [d1, d2, d3, d4] := by
  obtain ⟨v1, v2, v3, v4, d1, d2, d3, d4, h1, h2⟩ := trod_n hA
  exact ⟨v1, v2, v3, v4, d1, d2, d3, d4, by cases args; simp at h1; rw [h1], h2⟩
 subst hargs
 obtain ⟨rfl, rfl⟩ := trodVars_none hV
 clear hA0 hval0
 simp only [List.append_nil] at hW'
 refine (walk hA (hval 0 25 v1 rfl rfl) (hval 1 41 v2 rfl rfl) (hval 2 41 v3 rfl rfl) (hval 3 3 v4 rfl rfl)).mono fun e W' ⟨he, hg⟩ => ?_
 subst he
 have hlt : ∀ x ∈ p, x.block < W.heap.size := fun x hx => hW'.lt x (by simpa using hx)
 exact ⟨_, rfl, post_of_same (pa := p) (pv := []) hW' (fun b sp hd => trodAll_cons_mk (shut_bool Try.underlying4 _) trodAll_mk0) (fun sp hs => args_same hkids hfull htys hA hg hlt hs) (fun _ _ => rfl) (by simp)
  (hg.frame _) hg.2.1 (ok_one (by kernel_rfl) rfl (okWide_bool_mk Try.underlying4 _))⟩
theorem over : Rows.runCoversRow.holds Try.pinned (OpenSpec.ofChange Rows.runCoversSpec) :=
 OpenClaim.holds_of_wide 12 Try.f12 rfl rfl rfl rfl rfl rfl rfl ⟨rfl, rfl, rfl, rfl, rfl⟩ rfl rfl rfl rfl rfl (by kernel_rfl) Try.func12 (by kernel_rfl)
  (of_decide_eq_true (by kernel_rfl)) (by unfold Func.isWrapper; first | (rw [if_pos (by decide +kernel)]; kernel_rfl) | (rw [if_neg (by decide +kernel)]; exact ⟨rfl, rfl⟩))
  (fun os started H enc _ => lifted os started H enc)
theorem proved : Rows.RunCoversSaid :=
 over
#print axioms proved
end Go.Proofs.Ytmdopblmkkameaa.runCovers
