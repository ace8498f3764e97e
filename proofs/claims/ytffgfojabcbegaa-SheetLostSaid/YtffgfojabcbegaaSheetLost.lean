/- Proved: the statement SheetLost returns true, whatever its arguments; no condition. -/

import Derived.Test.YtffgfojabcbegaaRows
import Derived.Test.YtffgfojabcbegaaWI
import Derived.Test.YtffgfojabcbegaaAw
import Derived.WalkKit
import Derived.ProofKit
import Derived.OpenShut
namespace Go.Proofs.Ytffgfojabcbegaa.sheetLost
open Go.ChangeShapes Go.WideShapes Go.ChangeAt Go.RowKit
open Go.Lay
set_option linter.unusedVariables false
theorem own : ownKnob Try.prog.godebug = none := by kernel_rfl
theorem hkids : Kids Try.prog (· < Try.prog.types.size) := kids_rows (by kernel_rfl) (by kernel_rfl)
theorem hfull : ∀ (t : Nat) (e : TypeId), t < Try.prog.types.size → Try.prog.underlying t = some (.slice e) → 0 < Try.prog.cellsOf e := slices_full_of Try.prog (by kernel_rfl)
theorem htys : ∀ t ∈ ([22, 55] : List TypeId), t < Try.prog.types.size := of_decide_eq_true (by kernel_rfl)
theorem yEP {H : Type} {enc : TypeId × Value → H} {w : World} {b : Nat} {sp : Nat → Bool} {held : Bool} : ∀ {ts : List TypeId} {vs : List Value} {ds : List (DataW H)} {ps : List MemPlace}, DataW.TrodAll enc Try.prog w b sp held ts vs ds ps → vs.length = ts.length ∧ ds.length = ts.length
 | [], [], [], _, _ => ⟨rfl, rfl⟩
 | _ :: _, _ :: _, _ :: _, _, ⟨_, _, _, h, _⟩ => by have := yEP h; simp [this.1, this.2]
 | [], _ :: _, _, _, h => h.elim
 | [], [], _ :: _, _, h => h.elim
 | _ :: _, [], _, _, h => h.elim
 | _ :: _, _ :: _, [], _, h => h.elim
theorem trod_n {H : Type} {enc : TypeId × Value → H} {w : World} {b : Nat} {sp : Nat → Bool} {held : Bool} {vs : List Value} {ds : List (DataW H)} {ps : List MemPlace} (h : DataW.TrodAll enc Try.prog w b sp held [22, 55] vs ds ps) : ∃ v1 v2 d1 d2, vs = [v1, v2] ∧ ds = [d1, d2] := by
 obtain ⟨h1, h2⟩ := yEP h
 match vs, ds, h1, h2 with
 | [v1, v2], [d1, d2], _, _ => exact ⟨v1, v2, d1, d2, rfl, rfl⟩
theorem vrs_n {ι : Inj} {v1 v2 : Value} : ∀ {avs : List Value}, VRs ι avs [v1, v2] → ∃ a1 a2, avs = [a1, a2] ∧ VR ι a1 v1 ∧ VR ι a2 v2
 | [a1, a2], (.cons y1 (.cons y2 .nil)) => ⟨a1, a2, rfl, y1, y2⟩
set_option maxRecDepth 100000 in
theorem walk {H : Type} {enc : TypeId × Value → H} {W : World} {v1 v2 : Value} {ds : List (DataW H)} {ps : List MemPlace} (hA : DataW.TrodAll enc Try.prog W 0 (fun _ => true) true [22, 55] [v1, v2] ds ps)
  (ok1 : Value.okWide Try.prog W .any 0 22 v1) (ok2 : Value.okWide Try.prog W .any 0 55 v2) :
  Calls Try.prog 6 ⟨[v1, v2]⟩ W fun e w' => e = .returned (.bool true) ∧ Grown W w' := by
 obtain ⟨hr, ho⟩ := yXL W
 obtain ⟨ι, σ, avs, r1, o1, _, _, v1', w1⟩ := yGL (n := 6) hA (by simp only [List.mem_cons, List.not_mem_nil, or_false]; rintro t (rfl | rfl) <;> kernel_rfl) hr ho (by simp only [List.mem_cons, List.not_mem_nil, or_false]; rintro v (rfl | rfl) <;> first | exact yAA ok1 | exact yAA ok2)
 obtain ⟨a1, a2, rfl, y1, y2⟩ := vrs_n v1'
 obtain ⟨p0, l0, c0, x0, e0, h0, b0, ag0⟩ := wt_recs w1.1
 have k0 := yIW e0 (yQS y1 (sl_not Try.underlying22 ok1))
 subst k0
 obtain ⟨x1, e1, h1⟩ := wt_u64 w1.2.1
 have k1 := yVW e1 (yQS y2 (int_not Try.underlying55 ok2))
 subst k1
 exact yOV.walk zGR Aw.shut (yUM h0 b0 h1) r1 o1 (.cons y1 (.cons y2 .nil))
set_option maxRecDepth 100000 in
theorem lifted (os : Os) (started : os.Started) (H : Type) (enc : TypeId × Value → H) :
  ReturnsInHanded {} Try.checked os 6 .any (Rows.sheetLostSpec.pre6 enc Try.prog Try.f6 Rows.sheetLostRow.domain false) (Rows.sheetLostSpec.post enc Try.prog Try.f6 false true false false) := by
 refine returnsInHanded_of_change (C := Try.checked) own started (by kernel_rfl) Try.func6
  (ChangeSpec.witness6 (enc := enc) (C := Try.checked) false ⟨#[], #[.slice none 0 0, .int .u64 0], []⟩ 6 (by kernel_rfl) (by kernel_rfl) (by kernel_rfl) (by kernel_rfl)) ?_
 intro W base args ds gs before hval0 hW hcnd _
 have hval : ∀ (j : Nat) t v, Try.f6.params[j]? = some t → args[j]? = some v → Value.okWide Try.prog W .any base t v := hval0
 have hW' := hW
 obtain ⟨p, q, hA0, hV, rfl, hfz, hnd⟩ := hW
 have hA : DataW.TrodAll enc Try.prog W 0 (fun _ => true) true Try.f6.params.toList args.toList ds p := hA0
 rw [Try.params6] at hA hval
 obtain ⟨v1, v2, d1, d2, hargs, rfl⟩ : ∃ v1 v2 d1 d2, args = #[v1, v2] ∧ ds = [d1, d2] := by
  obtain ⟨v1, v2, d1, d2, h1, h2⟩ := trod_n hA
  exact ⟨v1, v2, d1, d2, by cases args; simp at h1; rw [h1], h2⟩
 subst hargs
 obtain ⟨rfl, rfl⟩ := trodVars_none hV
 clear hA0 hval0
 simp only [List.append_nil] at hW'
 refine (walk hA (hval 0 22 v1 rfl rfl) (hval 1 55 v2 rfl rfl)).mono fun e W' ⟨he, hg⟩ => ?_
 subst he
 have hlt : ∀ x ∈ p, x.block < W.heap.size := fun x hx => hW'.lt x (by simpa using hx)
 exact ⟨_, rfl, post_of_same (pa := p) (pv := []) hW' (fun b sp hd => trodAll_cons_mk (shut_bool Try.underlying4 _) trodAll_mk0) (fun sp hs => yWE hkids hfull htys hA hg hlt hs) (fun _ _ => rfl) (by simp)
  (hg.frame _) hg.2.1 (ok_one (by kernel_rfl) rfl (okWide_bool_mk Try.underlying4 _))⟩
theorem over : Rows.sheetLostRow.holds Try.pinned (OpenSpec.ofChange Rows.sheetLostSpec) :=
 OpenClaim.holds_of_wide 6 Try.f6 rfl rfl rfl rfl rfl rfl rfl ⟨rfl, rfl, rfl, rfl, rfl⟩ rfl rfl rfl rfl rfl (by kernel_rfl) Try.func6 (by kernel_rfl)
  (of_decide_eq_true (by kernel_rfl)) (by unfold Func.isWrapper; first | (rw [if_pos (by decide +kernel)]; kernel_rfl) | (rw [if_neg (by decide +kernel)]; exact ⟨rfl, rfl⟩))
  (fun os started H enc _ => lifted os started H enc)
theorem proved : Rows.SheetLostSaid :=
 over
#print axioms proved
end Go.Proofs.Ytffgfojabcbegaa.sheetLost
