/- Proved: the statement RunLacks returns true, whatever its arguments; no condition. -/

import Derived.Test.YtmdopblmkkameaaRows
import Derived.Test.YtmdopblmkkameaaTP
import Derived.Test.YtmdopblmkkameaaDA
import Derived.Test.YtmdopblmkkameaaAw
import Derived.WalkKit
import Derived.ProofKit
import Derived.OpenShut
namespace Go.Proofs.Ytmdopblmkkameaa.runLacks
open Go.ChangeShapes Go.WideShapes Go.ChangeAt Go.RowKit
open Go.Lay
set_option linter.unusedVariables false
theorem own : ownKnob Try.prog.godebug = none := by kernel_rfl
theorem hkids : Kids Try.prog (· < Try.prog.types.size) := kids_rows (by kernel_rfl) (by kernel_rfl)
theorem hfull : ∀ (t : Nat) (e : TypeId), t < Try.prog.types.size → Try.prog.underlying t = some (.slice e) → 0 < Try.prog.cellsOf e := slices_full_of Try.prog (by kernel_rfl)
theorem htys : ∀ t ∈ ([25, 41] : List TypeId), t < Try.prog.types.size := of_decide_eq_true (by kernel_rfl)
theorem trod_len {H : Type} {enc : TypeId × Value → H} {w : World} {b : Nat} {sp : Nat → Bool} {held : Bool} : ∀ {ts : List TypeId} {vs : List Value} {ds : List (DataW H)} {ps : List MemPlace}, DataW.TrodAll enc Try.prog w b sp held ts vs ds ps → vs.length = ts.length ∧ ds.length = ts.length
 | [], [], [], _, _ => ⟨rfl, rfl⟩
 | _ :: _, _ :: _, _ :: _, _, ⟨_, _, _, h, _⟩ => by have := trod_len h; simp [this.1, this.2]
 | [], _ :: _, _, _, h => h.elim
 | [], [], _ :: _, _, h => h.elim
 | _ :: _, [], _, _, h => h.elim
 | _ :: _, _ :: _, [], _, h => h.elim
theorem trod_n {H : Type} {enc : TypeId × Value → H} {w : World} {b : Nat} {sp : Nat → Bool} {held : Bool} {vs : List Value} {ds : List (DataW H)} {ps : List MemPlace} (h : DataW.TrodAll enc Try.prog w b sp held [25, 41] vs ds ps) : ∃ v1 v2 d1 d2, vs = [v1, v2] ∧ ds = [d1, d2] := by
 obtain ⟨h1, h2⟩ := trod_len h
 match vs, ds, h1, h2 with
 | [v1, v2], [d1, d2], _, _ => exact ⟨v1, v2, d1, d2, rfl, rfl⟩
set_option maxRecDepth 100000 in
theorem walk {H : Type} {enc : TypeId × Value → H} {W : World} {v1 v2 : Value} {ds : List (DataW H)} {ps : List MemPlace} (hA : DataW.TrodAll enc Try.prog W 0 (fun _ => true) true [25, 41] [v1, v2] ds ps)
  (ok1 : Value.okWide Try.prog W .any 0 25 v1) (ok2 : Value.okWide Try.prog W .any 0 41 v2) :
  Calls Try.prog 4 ⟨[v1, v2]⟩ W fun e w' => e = .returned (.bool true) ∧ Grown W w' := by
 obtain ⟨hr, ho⟩ := ro_start W
 obtain ⟨ι, σ, avs, r1, o1, _, _, v1', w1⟩ := open_all (n := 6) hA (by simp only [List.mem_cons, List.not_mem_nil, or_false]; rintro t (rfl | rfl) <;> kernel_rfl) hr ho (by simp only [List.mem_cons, List.not_mem_nil, or_false]; rintro v (rfl | rfl) <;> first | exact hasRow_of ok1 | exact hasRow_of ok2)
 match avs, v1', w1 with
 | [a1, a2], (.cons y1 (.cons y2 .nil)), w1 =>
  obtain ⟨pe, le, ce, pt, lt, ct, t, e0, hR⟩ := wt_tab w1.1
  have h0 : a1 = .agg ⟨yI t pe le ce pt lt ct⟩ := by
   cases a1 with
   | agg cs => cases cs; simp [Value.cells] at e0; rw [e0]
   | _ => simp [Value.cells] at e0
  subst h0
  obtain ⟨p1, l1, c1, x1, e1, h1⟩ := wt_ints w1.2.1
  have k1 := cells_slice e1 (not_agg y2 (sl_not Try.underlying41 ok2))
  subst k1
  exact TopQ.walk zW Aw.shut (lLacks_top hR h1) r1 o1 (.cons y1 (.cons y2 .nil))
set_option maxRecDepth 100000 in
theorem lifted (os : Os) (started : os.Started) (H : Type) (enc : TypeId × Value → H) :
  ReturnsInHanded {} Try.checked os 4 .any (Rows.runLacksSpec.pre6 enc Try.prog Try.f4 Rows.runLacksRow.domain false) (Rows.runLacksSpec.post enc Try.prog Try.f4 false true false false) := by
 refine returnsInHanded_of_change (C := Try.checked) own started (by kernel_rfl) Try.func4
  (ChangeSpec.witness6 (enc := enc) (C := Try.checked) false ⟨#[], #[.agg #[.int .i64 0, .int .i64 0, .slice none 0 0, .slice none 0 0], .slice none 0 0], []⟩ 4 (by kernel_rfl) (by kernel_rfl) (by kernel_rfl) (by kernel_rfl)) ?_
 intro W base args ds gs before hval0 hW hcnd _
 have hval : ∀ (j : Nat) t v, Try.f4.params[j]? = some t → args[j]? = some v → Value.okWide Try.prog W .any base t v := hval0
 have hW' := hW
 obtain ⟨p, q, hA0, hV, rfl, hfz, hnd⟩ := hW
 have hA : DataW.TrodAll enc Try.prog W 0 (fun _ => true) true Try.f4.params.toList args.toList ds p := hA0
 rw [Try.params4] at hA hval
 obtain ⟨v1, v2, d1, d2, hargs, rfl⟩ : ∃ v1 v2 d1 d2, args = #[v1, v2] ∧ ds = [d1, d2] := by
  obtain ⟨v1, v2, d1, d2, h1, h2⟩ := trod_n hA
  exact ⟨v1, v2, d1, d2, by cases args; simp at h1; rw [h1], h2⟩
 subst hargs
 obtain ⟨rfl, rfl⟩ := trodVars_none hV
 clear hA0 hval0
 simp only [List.append_nil] at hW'
 refine (walk hA (hval 0 25 v1 rfl rfl) (hval 1 41 v2 rfl rfl)).mono fun e W' ⟨he, hg⟩ => ?_
 subst he
 have hlt : ∀ x ∈ p, x.block < W.heap.size := fun x hx => hW'.lt x (by simpa using hx)
 exact ⟨_, rfl, post_of_same (pa := p) (pv := []) hW' (fun b sp hd => trodAll_cons_mk (shut_bool Try.underlying4 _) trodAll_mk0) (fun sp hs => args_same hkids hfull htys hA hg hlt hs) (fun _ _ => rfl) (by simp)
  (hg.frame _) hg.2.1 (ok_one (by kernel_rfl) rfl (okWide_bool_mk Try.underlying4 _))⟩
theorem over : Rows.runLacksRow.holds Try.pinned (OpenSpec.ofChange Rows.runLacksSpec) :=
 OpenClaim.holds_of_wide 4 Try.f4 rfl rfl rfl rfl rfl rfl rfl ⟨rfl, rfl, rfl, rfl, rfl⟩ rfl rfl rfl rfl rfl (by kernel_rfl) Try.func4 (by kernel_rfl)
  (of_decide_eq_true (by kernel_rfl)) (by unfold Func.isWrapper; first | (rw [if_pos (by decide +kernel)]; kernel_rfl) | (rw [if_neg (by decide +kernel)]; exact ⟨rfl, rfl⟩))
  (fun os started H enc _ => lifted os started H enc)
theorem proved : Rows.RunLacksSaid :=
 over
#print axioms proved
end Go.Proofs.Ytmdopblmkkameaa.runLacks
