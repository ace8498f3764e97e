/- Proved: the statement ChargeNeeds returns true, whatever the garage. -/
import Derived.Test.YthcdddbghldmiaaRows
import Derived.Test.YthcdddbghldmiaaL8
import Derived.Test.YthcdddbghldmiaaC9
import Derived.Test.YthcdddbghldmiaaAw
import Derived.Test.YthcdddbghldmiaaLayArgs
import Derived.WalkKit
import Derived.ProofKit
import Derived.OpenShut
namespace Go.Proofs.Ythcdddbghldmiaa.chargeNeeds
open Go.ChangeShapes Go.WideShapes Go.ChangeAt Go.RowKit
open Go.Lay
set_option linter.unusedVariables false

theorem own : ownKnob Try.prog.godebug = none := by kernel_rfl
theorem hkids : Kids Try.prog (· < Try.prog.types.size) := kids_rows (by kernel_rfl) (by kernel_rfl)
theorem hfull : ∀ (t : Nat) (e : TypeId), t < Try.prog.types.size → Try.prog.underlying t = some (.slice e) → 0 < Try.prog.cellsOf e := slices_full_of Try.prog (by kernel_rfl)

set_option maxRecDepth 100000 in
theorem walk {H : Type} {enc : TypeId × Value → H} {W : World} {args : List Value} {ds : List (DataW H)} {ps : List MemPlace} (hA : DataW.TrodAll enc Try.prog W 0 (fun _ => true) true [25] args ds ps)
    (hval : ∀ v ∈ args, Value.okWide Try.prog W .any 0 25 v) :
    Calls Try.prog 8 ⟨args⟩ W fun e w' => e = .returned (.bool true) ∧ Grown W w' := by
  obtain ⟨hr, ho⟩ := ro_start W
  obtain ⟨ι, σ, avs, r1, o1, _, _, v1, w1⟩ := open_all (n := 6) hA (by intro t ht; simp at ht; subst ht; kernel_rfl) hr ho (fun v hv => hasRow_of (hval v hv))
  match avs, w1 with
  | [av], w1 =>
    obtain ⟨p, l, c, q, m, d, g, e, hR⟩ := wt_gar w1.1
    have hav : av = .agg ⟨garL p l c q m d⟩ := by
      cases av with
      | agg cs => cases cs; simp [Value.cells] at e; rw [e]
      | _ => simp [Value.cells] at e
    subst hav
    obtain ⟨N, an, hw⟩ := lNeeds_top hR
    exact walk_top prog_ok Aw.shut hw r1 o1 v1

/-! ### THE ROW's STEP -/
set_option maxRecDepth 100000 in
theorem lifted (os : Os) (started : os.Started) (H : Type) (enc : TypeId × Value → H) :
    ReturnsInHanded {} Try.checked os 8 .any (Rows.chargeNeedsSpec.pre6 enc Try.prog Try.f8 Rows.chargeNeedsRow.domain false) (Rows.chargeNeedsSpec.post enc Try.prog Try.f8 false true false false) := by
  refine returnsInHanded_of_change (C := Try.checked) own started (by kernel_rfl) Try.func8
    (ChangeSpec.witness6 (enc := enc) (C := Try.checked) false ⟨#[], #[.agg #[.slice none 0 0, .slice none 0 0]], []⟩ 8 (by kernel_rfl) (by kernel_rfl) (by kernel_rfl) (by kernel_rfl)) ?_
  intro W base args ds gs before hval0 hW hcnd _
  have hval : ∀ (j : Nat) t v, Try.f8.params[j]? = some t → args[j]? = some v → Value.okWide Try.prog W .any base t v := hval0
  have hW' := hW
  obtain ⟨p, q, hA0, hV, rfl, hfz, hnd⟩ := hW
  have hA : DataW.TrodAll enc Try.prog W 0 (fun _ => true) true Try.f8.params.toList args.toList ds p := hA0
  rw [Try.params8] at hA hval
  obtain ⟨v, d, hargs, rfl⟩ : ∃ v d, args = #[v] ∧ ds = [d] := by
    obtain ⟨v, d, h1, h2⟩ := trod_one hA
    exact ⟨v, d, by cases args; simp at h1; rw [h1], h2⟩
  subst hargs
  obtain ⟨rfl, rfl⟩ := trodVars_none hV
  clear hA0 hval0
  simp only [List.append_nil] at hW'
  have hv : Value.okWide Try.prog W .any base 25 v := hval 0 25 v rfl rfl
  refine (walk hA (fun x hx => by simp at hx; subst hx; exact hv)).mono fun e W' ⟨he, hg⟩ => ?_
  subst he
  have hlt : ∀ x ∈ p, x.block < W.heap.size := fun x hx => hW'.lt x (by simpa using hx)
  exact ⟨_, rfl, post_of_same (pa := p) (pv := []) hW' (fun b sp hd => trodAll_cons_mk (shut_bool Try.underlying4 _) trodAll_mk0) (fun sp hs => args_same hkids hfull (by intro t ht; simp at ht; subst ht; exact of_decide_eq_true (by kernel_rfl)) hA hg hlt hs) (fun _ _ => rfl) (by simp)
    (hg.frame _) hg.2.1 (ok_one (by kernel_rfl) rfl (okWide_bool_mk Try.underlying4 _))⟩


theorem over : Rows.chargeNeedsRow.holds Try.pinned (OpenSpec.ofChange Rows.chargeNeedsSpec) :=
  OpenClaim.holds_of_wide 8 Try.f8 rfl rfl rfl rfl rfl rfl rfl ⟨rfl, rfl, rfl, rfl, rfl⟩ rfl rfl rfl rfl rfl (by kernel_rfl) Try.func8 (by kernel_rfl)
    (of_decide_eq_true (by kernel_rfl)) (by unfold Func.isWrapper; first | (rw [if_pos (by decide +kernel)]; kernel_rfl) | (rw [if_neg (by decide +kernel)]; exact ⟨rfl, rfl⟩))
    (fun os started H enc _ => lifted os started H enc)

/-- ████ THE STATEMENT ████ -/
theorem proved : Rows.ChargeNeedsSaid :=
  over
#print axioms proved
end Go.Proofs.Ythcdddbghldmiaa.chargeNeeds
