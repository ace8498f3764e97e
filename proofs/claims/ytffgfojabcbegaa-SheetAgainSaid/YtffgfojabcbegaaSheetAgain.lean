/- Proved: the statement SheetAgain returns true, whatever its arguments; no condition. -/

import Derived.Test.YtffgfojabcbegaaRows
import Derived.Test.YtffgfojabcbegaaWQ
import Derived.Test.YtffgfojabcbegaaAw
import Derived.WalkKit
import Derived.ProofKit
import Derived.OpenShut
namespace Go.Proofs.Ytffgfojabcbegaa.sheetAgain
open Go.ChangeShapes Go.WideShapes Go.ChangeAt Go.RowKit
open Go.Lay
set_option linter.unusedVariables false
theorem own : ownKnob Try.prog.godebug = none := by kernel_rfl
theorem hkids : Kids Try.prog (· < Try.prog.types.size) := kids_rows (by kernel_rfl) (by kernel_rfl)
theorem hfull : ∀ (t : Nat) (e : TypeId), t < Try.prog.types.size → Try.prog.underlying t = some (.slice e) → 0 < Try.prog.cellsOf e := slices_full_of Try.prog (by kernel_rfl)
theorem htys : ∀ t ∈ ([22, 55, 5] : List TypeId), t < Try.prog.types.size := of_decide_eq_true (by kernel_rfl)
theorem yGU {H : Type} {enc : TypeId × Value → H} {w : World} {b : Nat} {sp : Nat → Bool} {held : Bool} : ∀ {ts : List TypeId} {vs : List Value} {ds : List (DataW H)} {ps : List MemPlace}, DataW.TrodAll enc Try.prog w b sp held ts vs ds ps → vs.length = ts.length ∧ ds.length = ts.length
 | [], [], [], _, _ => ⟨rfl, rfl⟩
 | _ :: _, _ :: _, _ :: _, _, ⟨_, _, _, h, _⟩ => by have := yGU h; simp [this.1, this.2]
 | [], _ :: _, _, _, h => h.elim
 | [], [], _ :: _, _, h => h.elim
 | _ :: _, [], _, _, h => h.elim
 | _ :: _, _ :: _, [], _, h => h.elim
theorem trod_n {H : Type} {enc : TypeId × Value → H} {w : World} {b : Nat} {sp : Nat → Bool} {held : Bool} {vs : List Value} {ds : List (DataW H)} {ps : List MemPlace} (h : DataW.TrodAll enc Try.prog w b sp held [22, 55, 5] vs ds ps) : ∃ v1 v2 v3 d1 d2 d3, vs = [v1, v2, v3] ∧ ds = [d1, d2, d3] := by
 obtain ⟨h1, h2⟩ := yGU h
 match vs, ds, h1, h2 with
 | [v1, v2, v3], [d1, d2, d3], _, _ => exact ⟨v1, v2, v3, d1, d2, d3, rfl, rfl⟩
theorem vrs_n {ι : Inj} {v1 v2 v3 : Value} : ∀ {avs : List Value}, VRs ι avs [v1, v2, v3] → ∃ a1 a2 a3, avs = [a1, a2, a3] ∧ VR ι a1 v1 ∧ VR ι a2 v2 ∧ VR ι a3 v3
 | [a1, a2, a3], (.cons y1 (.cons y2 (.cons y3 .nil))) => ⟨a1, a2, a3, rfl, y1, y2, y3⟩
set_option maxRecDepth 100000 in
theorem walk {H : Type} {enc : TypeId × Value → H} {W : World} {v1 v2 v3 : Value} {ds : List (DataW H)} {ps : List MemPlace} (hA : DataW.TrodAll enc Try.prog W 0 (fun _ => true) true [22, 55, 5] [v1, v2, v3] ds ps)
  (ok1 : Value.okWide Try.prog W .any 0 22 v1) (ok2 : Value.okWide Try.prog W .any 0 55 v2) (ok3 : Value.okWide Try.prog W .any 0 5 v3) :
  Calls Try.prog 9 ⟨[v1, v2, v3]⟩ W fun e w' => e = .returned (.bool true) ∧ Grown W w' := by
 obtain ⟨hr, ho⟩ := ro_start W
 obtain ⟨ι, σ, avs, r1, o1, _, _, v1', w1⟩ := yIQ (n := 6) hA (by simp only [List.mem_cons, List.not_mem_nil, or_false]; rintro t (rfl | rfl | rfl) <;> kernel_rfl) hr ho (by simp only [List.mem_cons, List.not_mem_nil, or_false]; rintro v (rfl | rfl | rfl) <;> first | exact zRK ok1 | exact zRK ok2 | exact zRK ok3)
 obtain ⟨a1, a2, a3, rfl, y1, y2, y3⟩ := vrs_n v1'
 obtain ⟨p0, l0, c0, x0, e0, h0, b0, ag0⟩ := wt_recs w1.1
 have k0 := yKZ e0 (yEI y1 (sl_not Try.underlying22 ok1))
 subst k0
 obtain ⟨x1, e1, h1⟩ := wt_u64 w1.2.1
 have k1 := yCB e1 (yEI y2 (yTZ Try.underlying55 ok2))
 subst k1
 obtain ⟨x2, e2, h2⟩ := wt_u8 w1.2.2.1
 have k2 := yCB e2 (yEI y3 (yTZ Try.underlying5 ok3))
 subst k2
 exact yRU.walk zHV Aw.shut (yOY h0 b0 h1 h2) r1 o1 (.cons y1 (.cons y2 (.cons y3 .nil)))
set_option maxRecDepth 100000 in
theorem lifted (os : Os) (started : os.Started) (H : Type) (enc : TypeId × Value → H) :
  ReturnsInHanded {} Try.checked os 9 .any (Rows.sheetAgainSpec.pre6 enc Try.prog Try.f9 Rows.sheetAgainRow.domain false) (Rows.sheetAgainSpec.post enc Try.prog Try.f9 false true false false) := by
 refine returnsInHanded_of_change (C := Try.checked) own started (by kernel_rfl) Try.func9
  (ChangeSpec.witness6 (enc := enc) (C := Try.checked) false ⟨#[], #[.slice none 0 0, .int .u64 0, .int .u8 0], []⟩ 9 (by kernel_rfl) (by kernel_rfl) (by kernel_rfl) (by kernel_rfl)) ?_
 intro W base args ds gs before hval0 hW hcnd _
 have hval : ∀ (j : Nat) t v, Try.f9.params[j]? = some t → args[j]? = some v → Value.okWide Try.prog W .any base t v := hval0
 have hW' := hW
 obtain ⟨p, q, hA0, hV, rfl, hfz, hnd⟩ := hW
 have hA : DataW.TrodAll enc Try.prog W 0 (fun _ => true) true Try.f9.params.toList args.toList ds p := hA0
 rw [Try.params9] at hA hval
 obtain ⟨v1, v2, v3, d1, d2, d3, hargs, rfl⟩ : ∃ v1 v2 v3 d1 d2 d3, args = #[v1, v2, v3] ∧ ds = [d1, d2, d3] := by
  obtain ⟨v1, v2, v3, d1, d2, d3, h1, h2⟩ := trod_n hA
  exact ⟨v1, v2, v3, d1, d2, d3, by cases args; simp at h1; rw [h1], h2⟩
 subst hargs
 obtain ⟨rfl, rfl⟩ := trodVars_none hV
 clear hA0 hval0
 simp only [List.append_nil] at hW'
 refine (walk hA (hval 0 22 v1 rfl rfl) (hval 1 55 v2 rfl rfl) (hval 2 5 v3 rfl rfl)).mono fun e W' ⟨he, hg⟩ => ?_
 subst he
 have hlt : ∀ x ∈ p, x.block < W.heap.size := fun x hx => hW'.lt x (by simpa using hx)
 exact ⟨_, rfl, post_of_same (pa := p) (pv := []) hW' (fun b sp hd => trodAll_cons_mk (shut_bool Try.underlying4 _) trodAll_mk0) (fun sp hs => yYN hkids hfull htys hA hg hlt hs) (fun _ _ => rfl) (by simp)
  (hg.frame _) hg.2.1 (ok_one (by kernel_rfl) rfl (okWide_bool_mk Try.underlying4 _))⟩
theorem over : Rows.sheetAgainRow.holds Try.pinned (OpenSpec.ofChange Rows.sheetAgainSpec) :=
 OpenClaim.holds_of_wide 9 Try.f9 rfl rfl rfl rfl rfl rfl rfl ⟨rfl, rfl, rfl, rfl, rfl⟩ rfl rfl rfl rfl rfl (by kernel_rfl) Try.func9 (by kernel_rfl)
  (of_decide_eq_true (by kernel_rfl)) (by unfold Func.isWrapper; first | (rw [if_pos (by decide +kernel)]; kernel_rfl) | (rw [if_neg (by decide +kernel)]; exact ⟨rfl, rfl⟩))
  (fun os started H enc _ => lifted os started H enc)
theorem proved : Rows.SheetAgainSaid :=
 over
#print axioms proved
end Go.Proofs.Ytffgfojabcbegaa.sheetAgain
