/- Proved: the statement SheetLacks returns true, whatever its arguments; no condition. -/

import Derived.Test.YtffgfojabcbegaaRows
import Derived.Test.YtffgfojabcbegaaVK
import Derived.Test.YtffgfojabcbegaaAw
import Derived.WalkKit
import Derived.ProofKit
import Derived.OpenShut
namespace Go.Proofs.Ytffgfojabcbegaa.sheetLacks
open Go.ChangeShapes Go.WideShapes Go.ChangeAt Go.RowKit
open Go.Lay
set_option linter.unusedVariables false
theorem own : ownKnob Try.prog.godebug = none := by kernel_rfl
theorem hkids : Kids Try.prog (· < Try.prog.types.size) := kids_rows (by kernel_rfl) (by kernel_rfl)
theorem hfull : ∀ (t : Nat) (e : TypeId), t < Try.prog.types.size → Try.prog.underlying t = some (.slice e) → 0 < Try.prog.cellsOf e := slices_full_of Try.prog (by kernel_rfl)
theorem htys : ∀ t ∈ ([22] : List TypeId), t < Try.prog.types.size := of_decide_eq_true (by kernel_rfl)
theorem trod_n {H : Type} {enc : TypeId × Value → H} {w : World} {b : Nat} {sp : Nat → Bool} {held : Bool} {vs : List Value} {ds : List (DataW H)} {ps : List MemPlace} (h : DataW.TrodAll enc Try.prog w b sp held [22] vs ds ps) : ∃ v1 d1, vs = [v1] ∧ ds = [d1] := trod_one h
set_option maxRecDepth 100000 in
theorem walk {H : Type} {enc : TypeId × Value → H} {W : World} {v1 : Value} {ds : List (DataW H)} {ps : List MemPlace} (hA : DataW.TrodAll enc Try.prog W 0 (fun _ => true) true [22] [v1] ds ps)
  (ok1 : Value.okWide Try.prog W .any 0 22 v1) :
  Calls Try.prog 4 ⟨[v1]⟩ W fun e w' => e = .returned (.bool true) ∧ Grown W w' := by
 obtain ⟨hr, ho⟩ := ro_start W
 obtain ⟨ι, σ, avs, r1, o1, _, _, v1', w1⟩ := open_all (n := 6) hA (by simp only [List.mem_cons, List.not_mem_nil, or_false]; rintro t (rfl) <;> kernel_rfl) hr ho (by simp only [List.mem_cons, List.not_mem_nil, or_false]; rintro v (rfl) <;> first | exact hasRow_of ok1)
 match avs, v1', w1 with
 | [a1], (.cons y1 .nil), w1 =>
  obtain ⟨p0, l0, c0, x0, e0, h0, b0, ag0⟩ := wt_recs w1.1
  have k0 := cells_slice e0 (not_agg y1 (sl_not Try.underlying22 ok1))
  subst k0
  exact TopQ.walk zGI Aw.shut (lLacks_top h0 b0) r1 o1 (.cons y1 .nil)
set_option maxRecDepth 100000 in
theorem lifted (os : Os) (started : os.Started) (H : Type) (enc : TypeId × Value → H) :
  ReturnsInHanded {} Try.checked os 4 .any (Rows.sheetLacksSpec.pre6 enc Try.prog Try.f4 Rows.sheetLacksRow.domain false) (Rows.sheetLacksSpec.post enc Try.prog Try.f4 false true false false) := by
 refine returnsInHanded_of_change (C := Try.checked) own started (by kernel_rfl) Try.func4
  (ChangeSpec.witness6 (enc := enc) (C := Try.checked) false ⟨#[], #[.slice none 0 0], []⟩ 4 (by kernel_rfl) (by kernel_rfl) (by kernel_rfl) (by kernel_rfl)) ?_
 intro W base args ds gs before hval0 hW hcnd _
 have hval : ∀ (j : Nat) t v, Try.f4.params[j]? = some t → args[j]? = some v → Value.okWide Try.prog W .any base t v := hval0
 have hW' := hW
 obtain ⟨p, q, hA0, hV, rfl, hfz, hnd⟩ := hW
 have hA : DataW.TrodAll enc Try.prog W 0 (fun _ => true) true Try.f4.params.toList args.toList ds p := hA0
 rw [Try.params4] at hA hval
 obtain ⟨v1, d1, hargs, rfl⟩ : ∃ v1 d1, args = #[v1] ∧ ds = [d1] := by
  obtain ⟨v1, d1, h1, h2⟩ := trod_n hA
  exact ⟨v1, d1, by cases args; simp at h1; rw [h1], h2⟩
 subst hargs
 obtain ⟨rfl, rfl⟩ := trodVars_none hV
 clear hA0 hval0
 simp only [List.append_nil] at hW'
 refine (walk hA (hval 0 22 v1 rfl rfl)).mono fun e W' ⟨he, hg⟩ => ?_
 subst he
 have hlt : ∀ x ∈ p, x.block < W.heap.size := fun x hx => hW'.lt x (by simpa using hx)
 exact ⟨_, rfl, post_of_same (pa := p) (pv := []) hW' (fun b sp hd => trodAll_cons_mk (shut_bool Try.underlying4 _) trodAll_mk0) (fun sp hs => args_same hkids hfull htys hA hg hlt hs) (fun _ _ => rfl) (by simp)
  (hg.frame _) hg.2.1 (ok_one (by kernel_rfl) rfl (okWide_bool_mk Try.underlying4 _))⟩
theorem over : Rows.sheetLacksRow.holds Try.pinned (OpenSpec.ofChange Rows.sheetLacksSpec) :=
 OpenClaim.holds_of_wide 4 Try.f4 rfl rfl rfl rfl rfl rfl rfl ⟨rfl, rfl, rfl, rfl, rfl⟩ rfl rfl rfl rfl rfl (by kernel_rfl) Try.func4 (by kernel_rfl)
  (of_decide_eq_true (by kernel_rfl)) (by unfold Func.isWrapper; first | (rw [if_pos (by decide +kernel)]; kernel_rfl) | (rw [if_neg (by decide +kernel)]; exact ⟨rfl, rfl⟩))
  (fun os started H enc _ => lifted os started H enc)
theorem proved : Rows.SheetLacksSaid :=
 over
#print axioms proved
end Go.Proofs.Ytffgfojabcbegaa.sheetLacks
