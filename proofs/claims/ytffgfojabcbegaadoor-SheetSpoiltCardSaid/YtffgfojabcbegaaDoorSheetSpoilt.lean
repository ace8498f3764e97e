/- Proved: the statement SheetSpoiltCard returns true, whatever its arguments; no condition. -/

import Derived.Test.YtffgfojabcbegaaDoorCards
import Derived.Test.YtffgfojabcbegaaDoorTie
import Derived.Test.YtffgfojabcbegaaDoorDA
import Derived.Test.YtffgfojabcbegaaDoorAw
import Derived.WalkKit
import Derived.ProofKit
import Derived.OpenShut
import Derived.Deep.DeepHandedRow
import Derived.LaidMore
namespace Go.Proofs.YtffgfojabcbegaaDoor.sheetSpoilt
open Go.ChangeShapes Go.WideShapes Go.ChangeAt Go.RowKit
open Go.Lay
theorem own : ownKnob Tryd.prog.godebug = none := by kernel_rfl
theorem hkids : Kids Tryd.prog (· < Tryd.prog.types.size) := kids_rows (by kernel_rfl) (by kernel_rfl)
theorem hfull : ∀ (t : Nat) (e : TypeId), t < Tryd.prog.types.size → Tryd.prog.underlying t = some (.slice e) → 0 < Tryd.prog.cellsOf e := slices_full_of Tryd.prog (by kernel_rfl)
theorem htys : ∀ t ∈ ([28, 42, 42] : List TypeId), t < Tryd.prog.types.size := of_decide_eq_true (by kernel_rfl)
theorem trod_len {H : Type} {enc : TypeId × Value → H} {w : World} {b : Nat} {sp : Nat → Bool} {held : Bool} : ∀ {ts : List TypeId} {vs : List Value} {ds : List (DataW H)} {ps : List MemPlace}, DataW.TrodAll enc Tryd.prog w b sp held ts vs ds ps → vs.length = ts.length ∧ ds.length = ts.length
 | [], [], [], _, _ => ⟨rfl, rfl⟩
 | _ :: _, _ :: _, _ :: _, _, ⟨_, _, _, h, _⟩ => by have := trod_len h; simp [this.1, this.2]
 | [], _ :: _, _, _, h => h.elim
 | [], [], _ :: _, _, h => h.elim
 | _ :: _, [], _, _, h => h.elim
 | _ :: _, _ :: _, [], _, h => h.elim
theorem trod_n {H : Type} {enc : TypeId × Value → H} {w : World} {b : Nat} {sp : Nat → Bool} {held : Bool} {vs : List Value} {ds : List (DataW H)} {ps : List MemPlace} (h : DataW.TrodAll enc Tryd.prog w b sp held [28, 42, 42] vs ds ps) : ∃ v1 v2 v3 d1 d2 d3, vs = [v1, v2, v3] ∧ ds = [d1, d2, d3] := by
 obtain ⟨h1, h2⟩ := trod_len h
 match vs, ds, h1, h2 with
 | [v1, v2, v3], [d1, d2, d3], _, _ => exact ⟨v1, v2, v3, d1, d2, d3, rfl, rfl⟩
theorem vrs_n {ι : Inj} {v1 v2 v3 : Value} : ∀ {avs : List Value}, VRs ι avs [v1, v2, v3] → ∃ a1 a2 a3, avs = [a1, a2, a3] ∧ VR ι a1 v1 ∧ VR ι a2 v2 ∧ VR ι a3 v3
 | [a1, a2, a3], (.cons y1 (.cons y2 (.cons y3 .nil))) => ⟨a1, a2, a3, rfl, y1, y2, y3⟩
set_option maxRecDepth 100000 in
theorem walk {H : Type} {enc : TypeId × Value → H} {W : World} {v1 v2 v3 : Value} {ds : List (DataW H)} {ps : List MemPlace} (hA : DataW.TrodAll enc Tryd.prog W 0 (fun _ => true) true [28, 42, 42] [v1, v2, v3] ds ps)
  (ok1 : Value.okWide Tryd.prog W .any 0 28 v1) (ok2 : Value.okWide Tryd.prog W .any 0 42 v2) (ok3 : Value.okWide Tryd.prog W .any 0 42 v3) :
  Calls Tryd.prog 5 ⟨[v1, v2, v3]⟩ W fun e w' => e = .returned (.bool true) ∧ Grown W w' := by
 obtain ⟨hr, ho⟩ := ro_start W
 obtain ⟨ι, σ, avs, r1, o1, _, _, v1', w1⟩ := open_all (n := 6) hA (by simp only [List.mem_cons, List.not_mem_nil, or_false]; rintro t (rfl | rfl | rfl) <;> kernel_rfl) hr ho (by simp only [List.mem_cons, List.not_mem_nil, or_false]; rintro v (rfl | rfl | rfl) <;> first | exact hasRow_of ok1 | exact hasRow_of ok2 | exact hasRow_of ok3)
 obtain ⟨a1, a2, a3, rfl, y1, y2, y3⟩ := vrs_n v1' 
 obtain ⟨p0, l0, c0, x0, e0, h0, b0, ag0⟩ := wt_recs w1.1
 have k0 := cells_slice e0 (not_agg y1 (sl_not Tryd.underlying28 ok1))
 subst k0
 obtain ⟨x1, e1, h1⟩ := wt_u16 w1.2.1
 have k1 := cells_int e1 (not_agg y2 (int_not Tryd.underlying42 ok2))
 subst k1
 obtain ⟨x2, e2, h2⟩ := wt_u16 w1.2.2.1
 have k2 := cells_int e2 (not_agg y3 (int_not Tryd.underlying42 ok3))
 subst k2
 exact TopQ.walk prog_ok Aw.shut (lSpoilt_top h0 b0 ag0 h1 h2) r1 o1 (.cons y1 (.cons y2 (.cons y3 .nil)))
set_option maxRecDepth 100000 in
theorem contract (H : Type) (enc : TypeId × Value → H) (W : World) (base : Nat) (args : Array Value) (ds gs : List (DataW H)) (before : List MemPlace)
  (hval0 : ∀ (j : Nat) t v, Tryd.f5.params[j]? = some t → args[j]? = some v → Value.okWide Tryd.prog W .any base t v)
  (hW : DataW.Whole enc Tryd.prog Tryd.f5.params.toList Rows.sheetSpoiltSpec.vars false W args.toList ds gs before) :
  Calls Tryd.prog 5 args W fun e W' => ∃ v, e = .returned v ∧ Rows.sheetSpoiltSpec.post enc Tryd.prog Tryd.f5 false true false false W args v W' := by
 have hval : ∀ (j : Nat) t v, Tryd.f5.params[j]? = some t → args[j]? = some v → Value.okWide Tryd.prog W .any base t v := hval0
 have hW' := hW
 obtain ⟨p, q, hA0, hV, rfl, hfz, hnd⟩ := hW
 have hA : DataW.TrodAll enc Tryd.prog W 0 (fun _ => true) true Tryd.f5.params.toList args.toList ds p := hA0
 rw [Tryd.params5] at hA hval
 obtain ⟨v1, v2, v3, d1, d2, d3, hargs, rfl⟩ : ∃ v1 v2 v3 d1 d2 d3, args = #[v1, v2, v3] ∧ ds = [d1, d2, d3] := by
  obtain ⟨v1, v2, v3, d1, d2, d3, h1, h2⟩ := trod_n hA
  exact ⟨v1, v2, v3, d1, d2, d3, by cases args; simp at h1; rw [h1], h2⟩
 subst hargs
 obtain ⟨rfl, rfl⟩ := trodVars_none hV
 clear hA0 hval0
 simp only [List.append_nil] at hW'
 refine (walk hA (hval 0 28 v1 rfl rfl) (hval 1 42 v2 rfl rfl) (hval 2 42 v3 rfl rfl)).mono fun e W' ⟨he, hg⟩ => ?_
 subst he
 have hlt : ∀ x ∈ p, x.block < W.heap.size := fun x hx => hW'.lt x (by simpa using hx)
 exact ⟨_, rfl, post_of_same (pa := p) (pv := []) hW' (fun b sp hd => trodAll_cons_mk (shut_bool Tryd.underlying4 _) trodAll_mk0) (fun sp hs => args_same hkids hfull htys hA hg hlt hs) (fun _ _ => rfl) (by simp)
  (hg.frame _) hg.2.1 (ok_one (by kernel_rfl) rfl (okWide_bool_mk Tryd.underlying4 _))⟩
def cells2 : List Value := ([128, 191, 160, 191, 128, 159, 144, 191, 128, 143, 0, 0, 0, 0, 0, 0, 0, 0, 0, 0, 0, 0, 0, 0, 0, 0, 0, 0, 0, 0, 0, 0] : List Int).map fun n => .int .u8 n
def cells1 : List Value := Go.Pinned.utf8FirstZ.map fun n : Nat => .int .u8 (n : Int)
def layCells (cs : List Value) : Obj → Obj
 | .cells _ t f => .cells ⟨cs⟩ t f
 | o => o
noncomputable def laidHeap (os : Os) : Array Obj := ((World.holding Tryd.prog os ⟨#[], #[], []⟩).heap.modify 2 (layCells cells2)).modify 1 (layCells cells1)
noncomputable def laidWorld (os : Os) : World := { World.holding Tryd.prog os ⟨#[], #[], []⟩ with heap := laidHeap os }
theorem laid_met (os : Os) : laidMet Tryd.prog Rows.sheetSpoiltRow.laid ((laidWorld os).forCall (fun _ _ => 0) ⟨#[], #[.slice none 0 0, .int .u16 0, .int .u16 0], []⟩).memory :=
 laidMet_of_run' 8 (by kernel_rfl) (by kernel_rfl)
theorem reads (os : Os) {H : Type} (enc : TypeId × Value → H) : ∃ places, DataW.whole enc Tryd.prog ((laidWorld os).forCall (fun _ _ => 0) ⟨#[], #[.slice none 0 0, .int .u16 0, .int .u16 0], []⟩).memory Tryd.f5.params.toList Rows.sheetSpoiltSpec.vars false (#[.slice none 0 0, .int .u16 0, .int .u16 0] : Array Value).toList 8 = some ([.nil, .lit (.int .u16 0), .lit (.int .u16 0)], [], places) :=
 ⟨[], by kernel_rfl⟩
set_option maxRecDepth 100000 in
theorem lifted (os : Os) (started : os.Started) (H : Type) (enc : TypeId × Value → H) (F : Stop.Interp) :
  ReturnsInHanded {} Tryd.checked os 5 .any ((OpenSpec.ofChange Rows.sheetSpoiltSpec).preRow enc Tryd.prog Tryd.f5 Rows.sheetSpoiltRow.domain false Rows.sheetSpoiltRow.laid) (((OpenSpec.ofChange Rows.sheetSpoiltSpec).at F).post enc Tryd.prog Tryd.f5 false true false false) := by
 obtain ⟨places, hx⟩ := reads os enc
 refine returnsInHanded_of_row (C := Tryd.checked) (s := OpenSpec.ofChange Rows.sheetSpoiltSpec) own started (by kernel_rfl) Tryd.func5
  (witness_row_at (enc := enc) (C := Tryd.checked) false (laidWorld os) #[.slice none 0 0, .int .u16 0, .int .u16 0] rfl (by kernel_rfl) (by kernel_rfl) (by kernel_rfl)
   (OpenSpec.preRow_of_cond 8 hx (by kernel_rfl) (fun k hk => by cases hk) (by kernel_rfl) (laid_met os))) ?_
 intro W base args ds gs before hval hW _ _ _ _ _ _
 exact contract H enc W base args ds gs before hval hW
theorem over : Rows.SheetSpoiltSaid :=
 OpenClaim.holds_of_cond 5 Tryd.f5 rfl rfl rfl rfl rfl rfl rfl ⟨rfl, rfl, rfl, rfl, rfl⟩ rfl rfl rfl rfl rfl (by kernel_rfl) Tryd.func5 (by kernel_rfl)
  (of_decide_eq_true (by kernel_rfl)) (by unfold Func.isWrapper; first | (rw [if_pos (by decide +kernel)]; kernel_rfl) | (rw [if_neg (by decide +kernel)]; exact ⟨rfl, rfl⟩))
  (fun os started H enc _ F => by rw [OpenClaim.pre_eq_preRow]; exact lifted os started H enc F)
theorem plain (f : FuncId) (fn : Func) (hf : Tryd.pinned.checked.prog.funcNamed "layover/layoverlaw11.SheetSpoilt" = some f) (hfn : Tryd.pinned.checked.prog.funcs[f]? = some fn) :
  true = Tryd.pinned.checked.prog.looks [] ∧ ∀ (j : Nat) t, fn.params[j]? = some t → Tryd.pinned.checked.prog.wantsStandIn t = false := by
 obtain rfl : f = 5 := Option.some.inj ((show Tryd.prog.funcNamed "layover/layoverlaw11.SheetSpoilt" = some 5 by kernel_rfl).symm.trans hf) |>.symm
 obtain rfl : fn = Tryd.f5 := (Option.some.inj (Tryd.func5.symm.trans hfn)).symm
 refine ⟨by kernel_rfl, fun j t ht => ?_⟩
 rw [Tryd.params5] at ht
 have hm : t ∈ ([28, 42, 42] : List TypeId) := by simpa using Array.mem_of_getElem? ht
 have hall : (([28, 42, 42] : List TypeId).all fun u => !Tryd.prog.wantsStandIn u) = true := by kernel_rfl
 exact (show Tryd.prog.wantsStandIn t = false by simpa using List.all_eq_true.1 hall t hm)
theorem proved : Rows.SheetSpoiltCardSaid :=
 Claim7.holds_tied_plain_at .later [] _ _ _ _ over (fun _ h => by cases h) (by kernel_rfl) (fun _ h => by cases h) sheetSpoilt_row_tie rfl ⟨rfl, rfl⟩ (by kernel_rfl) rfl plain (by kernel_rfl)
#print axioms proved
end Go.Proofs.YtffgfojabcbegaaDoor.sheetSpoilt
