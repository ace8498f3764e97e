/- Proved: the statement RunLeft returns true, whatever its arguments; no condition. -/

import Derived.Test.YtmdopblmkkameaaRows
import Derived.Test.YtmdopblmkkameaaTQ
import Derived.Test.YtmdopblmkkameaaDA
import Derived.Test.YtmdopblmkkameaaAw
import Derived.WalkKit
import Derived.ProofKit
import Derived.OpenShut
namespace Go.Proofs.Ytmdopblmkkameaa.runLeft
open Go.ChangeShapes Go.WideShapes Go.ChangeAt Go.RowKit
open Go.Lay
set_option linter.unusedVariables false
theorem own : ownKnob Try.prog.godebug = none := by kernel_rfl
theorem hkids : Kids Try.prog (· < Try.prog.types.size) := kids_rows (by kernel_rfl) (by kernel_rfl)
theorem hfull : ∀ (t : Nat) (e : TypeId), t < Try.prog.types.size → Try.prog.underlying t = some (.slice e) → 0 < Try.prog.cellsOf e := slices_full_of Try.prog (by kernel_rfl)
theorem htys : ∀ t ∈ ([25, 55, 5, 41] : List TypeId), t < Try.prog.types.size := of_decide_eq_true (by kernel_rfl)
theorem trod_len {H : Type} {enc : TypeId × Value → H} {w : World} {b : Nat} {sp : Nat → Bool} {held : Bool} : ∀ {ts : List TypeId} {vs : List Value} {ds : List (DataW H)} {ps : List MemPlace}, DataW.TrodAll enc Try.prog w b sp held ts vs ds ps → vs.length = ts.length ∧ ds.length = ts.length
 | [], [], [], _, _ => ⟨rfl, rfl⟩
 | _ :: _, _ :: _, _ :: _, _, ⟨_, _, _, h, _⟩ => by have := trod_len h; simp [this.1, this.2]
 | [], _ :: _, _, _, h => h.elim
 | [], [], _ :: _, _, h => h.elim
 | _ :: _, [], _, _, h => h.elim
 | _ :: _, _ :: _, [], _, h => h.elim
theorem trod_n {H : Type} {enc : TypeId × Value → H} {w : World} {b : Nat} {sp : Nat → Bool} {held : Bool} {vs : List Value} {ds : List (DataW H)} {ps : List MemPlace} (h : DataW.TrodAll enc Try.prog w b sp held [25, 55, 5, 41] vs ds ps) : ∃ v1 v2 v3 v4 d1 d2 d3 d4, vs = [v1, v2, v3, v4] ∧ ds = [d1, d2, d3, d4] := by
 obtain ⟨h1, h2⟩ := trod_len h
 match vs, ds, h1, h2 with
 | [v1, v2, v3, v4], [d1, d2, d3, d4], _, _ => exact ⟨v1, v2, v3, v4, d1, d2, d3, d4, rfl, rfl⟩
set_option maxRecDepth 100000 in
theorem open_left {H : Type} {enc : TypeId × Value → H} {W : World} {ι : Inj} {σ : St} {v1 v2 v3 v4 : Value} {ds : List (DataW H)} {ps : List MemPlace} (hA : DataW.TrodAll enc Try.prog W 0 (fun _ => true) true [25, 55, 5, 41] [v1, v2, v3, v4] ds ps)
  (ok1 : Value.okWide Try.prog W .any 0 25 v1) (ok3 : Value.okWide Try.prog W .any 0 5 v3) (ok4 : Value.okWide Try.prog W .any 0 41 v4) (hr : Rep ι σ W) (ho : Ro ι W) :
  ∃ ι' σ' a1 g0 g1 g2 a3 a4, Rep ι' σ' W ∧ Ro ι' W ∧ VR ι' a1 v1 ∧ VR ι' (.agg ⟨[.int .u8 g0, .int .u8 g1, .int .u8 g2]⟩) v2 ∧ VR ι' a3 v3 ∧ VR ι' a4 v4 ∧ ((0 ≤ g0 ∧ g0 ≤ 255) ∧ (0 ≤ g1 ∧ g1 ≤ 255) ∧ (0 ≤ g2 ∧ g2 ≤ 255)) ∧ WT Try.prog σ' 6 25 a1.cells.toList ∧ WT Try.prog σ' 6 5 a3.cells.toList ∧ WT Try.prog σ' 6 41 a4.cells.toList := by
 match ds, hA with
 | d1 :: d2 :: d3 :: d4 :: [], hA =>
  obtain ⟨_, _, t1, hA, _⟩ := hA
  obtain ⟨_, _, t2, hA, _⟩ := hA
  obtain ⟨ι1, σ1, a1, r1, o1, s1, l1, y1, w1⟩ := open_value (n := 6) (by kernel_rfl) t1 hr ho (hasRow_of ok1)
  obtain ⟨ι2, σ2, avs, r2, o2, l2, s2, y2, w2⟩ := open_all (n := 6) hA (by simp only [List.mem_cons, List.not_mem_nil, or_false]; rintro t (rfl | rfl) <;> kernel_rfl) r1 o1 (by simp only [List.mem_cons, List.not_mem_nil, or_false]; rintro v (rfl | rfl) <;> first | exact hasRow_of ok3 | exact hasRow_of ok4)
  match avs, y2, w2 with
  | [a3, a4], (.cons y3 (.cons y4 .nil)), w2 =>
   obtain ⟨fuel, t2⟩ := t2
   obtain ⟨xs, m, _, _, hl, hxl, hget⟩ := DataW.trod_array Try.underlying55 t2
   have hl : v2.cells.toList.length = 3 := hl.trans (by kernel_rfl)
   have k5 : Try.prog.cellsOf 5 = 1 := by kernel_rfl
   have el : ∀ i, i < 3 → ∃ g : Int, v2.cells.toList[i]? = some (.int .u8 g) ∧ 0 ≤ g ∧ g ≤ 255 := fun i hi => by
    have h := hget i hi
    have hx : xs[i]? = some (xs[i]'(by omega)) := by simp
    rw [hx] at h
    obtain ⟨g, e, _, hw⟩ := DataW.trod_int Try.underlying5 h
    rw [k5, Nat.mul_one] at e
    have e2 : v2.cells.toList[i]? = some (.int .u8 g) := by
     have := congrArg (fun l : List Value => l[0]?) e
     simpa [List.getElem?_take, List.getElem?_drop] using this
    have hb : IntKind.u8.min ≤ g ∧ g ≤ IntKind.u8.max := by simpa [Lit.wf] using hw
    rw [show IntKind.u8.min = 0 by decide, show IntKind.u8.max = 255 by decide] at hb
    exact ⟨g, e2, hb⟩
   obtain ⟨g0, e0, b0⟩ := el 0 (by omega)
   obtain ⟨g1, e1, b1⟩ := el 1 (by omega)
   obtain ⟨g2, e2, b2⟩ := el 2 (by omega)
   have hc : v2.cells.toList = [.int .u8 g0, .int .u8 g1, .int .u8 g2] := by
    apply List.ext_getElem?
    intro i
    match i with
    | 0 => exact e0
    | 1 => exact e1
    | 2 => exact e2
    | i + 3 => rw [List.getElem?_eq_none (by omega), List.getElem?_eq_none (by simp)]
   have hv : v2 = .agg ⟨[.int .u8 g0, .int .u8 g1, .int .u8 g2]⟩ := by
    cases v2 with
    | agg cs => cases cs; simp [Value.cells] at hc; rw [hc]
    | _ => simp [Value.cells] at hc
   subst hv
   exact ⟨ι2, σ2, a1, g0, g1, g2, a3, a4, r2, o2, y1.sub s2, .refl_rigid RD rfl, y3, y4, ⟨b0, b1, b2⟩, w1.le l2, w2.1, w2.2.1⟩
set_option maxRecDepth 100000 in
theorem walk {H : Type} {enc : TypeId × Value → H} {W : World} {v1 v2 v3 v4 : Value} {ds : List (DataW H)} {ps : List MemPlace} (hA : DataW.TrodAll enc Try.prog W 0 (fun _ => true) true [25, 55, 5, 41] [v1, v2, v3, v4] ds ps)
  (ok1 : Value.okWide Try.prog W .any 0 25 v1) (ok2 : Value.okWide Try.prog W .any 0 55 v2) (ok3 : Value.okWide Try.prog W .any 0 5 v3) (ok4 : Value.okWide Try.prog W .any 0 41 v4) :
  Calls Try.prog 6 ⟨[v1, v2, v3, v4]⟩ W fun e w' => e = .returned (.bool true) ∧ Grown W w' := by
 obtain ⟨hr, ho⟩ := ro_start W
 obtain ⟨ι, σ, a1, g0, g1, g2, a3, a4, r1, o1, y1, y2, y3, y4, hg, w1, w3, w4⟩ := open_left hA ok1 ok3 ok4 hr ho
 obtain ⟨pe, le, ce, pt, lt, ct, t, e0, hR⟩ := wt_tab w1
 have h0 : a1 = .agg ⟨yE t pe le ce pt lt ct⟩ := by
  cases a1 with
  | agg cs => cases cs; simp [Value.cells] at e0; rw [e0]
  | _ => simp [Value.cells] at e0
 subst h0
 obtain ⟨x2, e2, h2⟩ := wt_u8 w3
 have k2 := cells_int e2 (not_agg y3 (int_not Try.underlying5 ok3))
 subst k2
 obtain ⟨p3, l3, c3, x3, e3, h3⟩ := wt_ints w4
 have k3 := cells_slice e3 (not_agg y4 (sl_not Try.underlying41 ok4))
 subst k3
 exact TopQ.walk zW Aw.shut (lLeft_top hR hg h2 h3) r1 o1 (.cons y1 (.cons y2 (.cons y3 (.cons y4 .nil))))
set_option maxRecDepth 100000 in
theorem lifted (os : Os) (started : os.Started) (H : Type) (enc : TypeId × Value → H) :
  ReturnsInHanded {} Try.checked os 6 .any (Rows.runLeftSpec.pre6 enc Try.prog Try.f6 Rows.runLeftRow.domain false) (Rows.runLeftSpec.post enc Try.prog Try.f6 false true false false) := by
 refine returnsInHanded_of_change (C := Try.checked) own started (by kernel_rfl) Try.func6
  (ChangeSpec.witness6 (enc := enc) (C := Try.checked) false ⟨#[], #[.agg #[.int .i64 0, .int .i64 0, .slice none 0 0, .slice none 0 0], .agg #[.int .u8 0, .int .u8 0, .int .u8 0], .int .u8 0, .slice none 0 0], []⟩ 6 (by kernel_rfl) (by kernel_rfl) (by kernel_rfl) (by kernel_rfl)) ?_
 intro W base args ds gs before hval0 hW hcnd _
 have hval : ∀ (j : Nat) t v, Try.f6.params[j]? = some t → args[j]? = some v → Value.okWide Try.prog W .any base t v := hval0
 have hW' := hW
 obtain ⟨p, q, hA0, hV, rfl, hfz, hnd⟩ := hW
 have hA : DataW.TrodAll enc Try.prog W 0 (fun _ => true) true Try.f6.params.toList args.toList ds p := hA0
 rw [Try.params6] at hA hval
 obtain ⟨v1, v2, v3, v4, d1, d2, d3, d4, hargs, rfl⟩ : ∃ v1 v2 v3 v4 d1 d2 d3 d4, args = #[v1, v2, v3, v4] ∧ ds = [d1, d2, d3, d4] := by
  obtain ⟨v1, v2, v3, v4, d1, d2, d3, d4, h1, h2⟩ := trod_n hA
  exact ⟨v1, v2, v3, v4, d1, d2, d3, d4, by cases args; simp at h1; rw [h1], h2⟩
 subst hargs
 obtain ⟨rfl, rfl⟩ := trodVars_none hV
 clear hA0 hval0
 simp only [List.append_nil] at hW'
 refine (walk hA (hval 0 25 v1 rfl rfl) (hval 1 55 v2 rfl rfl) (hval 2 5 v3 rfl rfl) (hval 3 41 v4 rfl rfl)).mono fun e W' ⟨he, hg⟩ => ?_
 subst he
 have hlt : ∀ x ∈ p, x.block < W.heap.size := fun x hx => hW'.lt x (by simpa using hx)
 exact ⟨_, rfl, post_of_same (pa := p) (pv := []) hW' (fun b sp hd => trodAll_cons_mk (shut_bool Try.underlying4 _) trodAll_mk0) (fun sp hs => args_same hkids hfull htys hA hg hlt hs) (fun _ _ => rfl) (by simp)
  (hg.frame _) hg.2.1 (ok_one (by kernel_rfl) rfl (okWide_bool_mk Try.underlying4 _))⟩
theorem over : Rows.runLeftRow.holds Try.pinned (OpenSpec.ofChange Rows.runLeftSpec) :=
 OpenClaim.holds_of_wide 6 Try.f6 rfl rfl rfl rfl rfl rfl rfl ⟨rfl, rfl, rfl, rfl, rfl⟩ rfl rfl rfl rfl rfl (by kernel_rfl) Try.func6 (by kernel_rfl)
  (of_decide_eq_true (by kernel_rfl)) (by unfold Func.isWrapper; first | (rw [if_pos (by decide +kernel)]; kernel_rfl) | (rw [if_neg (by decide +kernel)]; exact ⟨rfl, rfl⟩))
  (fun os started H enc _ => lifted os started H enc)
theorem proved : Rows.RunLeftSaid :=
 over
#print axioms proved
end Go.Proofs.Ytmdopblmkkameaa.runLeft
