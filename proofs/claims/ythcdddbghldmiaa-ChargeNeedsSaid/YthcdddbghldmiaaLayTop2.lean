/- A statement's function: it leans on a closed one, and on calls by their contracts. -/
import Derived.Test.YthcdddbghldmiaaLayInv
set_option linter.unusedVariables false
set_option linter.unusedSimpArgs false
namespace Go.Lay
open Go
section
variable {P : Program} {rec : Rec} {ι : Inj} {σ σ' : St} {w : World}

/-- One function without arguments is known: it returns true and leaves nothing. -/
def patchR (aw : FuncId) (rec : Rec) : Rec := fun r args σ => match r with
  | .func f => match args with
    | [] => bif Nat.beq f aw then some (.bool true, σ) else rec (.func f) [] σ
    | a :: l => rec (.func f) (a :: l) σ
  | .yield l => rec (.yield l) args σ
def topR (P : Program) (aw : FuncId) (N : Nat) : Rec := patchR aw (runA P N)
structure ShutF (P : Program) (aw : FuncId) : Prop where
  ok : ∀ (ι : Inj) (σ : St) (w : World), Rep ι σ w → (∃ fn, P.funcs[aw]? = some fn ∧ fn.body.isSome = true ∧ fn.name ≠ "runtime.NumGoroutine") ∧ ∀ n, CallsIn (Fw none) n P aw ⟨[]⟩ w (RetR ι σ w (.bool true) σ)
theorem patch_sound {aw : FuncId} (h : RecSound P rec) (hc : ShutF P aw) : RecSound P (patchR aw rec) := by
  refine ⟨fun f args σ v σ' hr ι w args' hrep ha => ?_, fun l args σ v σ' hr => h.yield l args σ v σ' hr⟩
  cases args with
  | cons a l => exact h.func f (a :: l) σ v σ' hr ι w args' hrep ha
  | nil =>
    have hr : (bif Nat.beq f aw then some (.bool true, σ) else rec (.func f) [] σ) = some (v, σ') := hr
    rcases bif_cases hr with ⟨hf, hr⟩ | ⟨_, hr⟩
    · have hf := Nat.eq_of_beq_eq_true hf
      simp at hr; obtain ⟨rfl, rfl⟩ := hr
      subst hf
      cases ha
      exact hc.ok ι σ w hrep
    · exact h.func f [] σ v σ' hr ι w args' hrep ha
theorem topR_sound (hP : ProgOk P) {aw : FuncId} (hc : ShutF P aw) (N : Nat) : RecSound P (topR P aw N) := patch_sound (runA_sound hP N) hc
/-- A closed function, by a table of calls. -/
theorem closed_of (hP : ProgOk P) {l : List Ent} (hl : TblSnd P l) {N : Nat} {f : FuncId} (h : okB (bodyF P (memoR l (runA P N)) N f [] noSt) = true) : ShutF P f := by
  refine ⟨fun ι σ w hr => ?_⟩
  obtain ⟨σ', hb⟩ := okB_some h
  obtain ⟨h1, h2⟩ := bodyF_sound hP (memo_sound hP hl N) hb (rep_no w) .nil
  refine ⟨h1, fun n => CallsIn.mono (h2 n) (fun e w' hR => ?_)⟩
  cases e with
  | returned v' =>
    obtain ⟨ι', hv, hg⟩ := hR
    have hs : ∀ c, c < w.heap.size → w'.heap[c]? = w.heap[c]? := fun c hc => hg.pres.same c hc (fun b hb => by simp [noInj] at hb)
    have hv := hv.bool_inv; subst hv
    exact ⟨ι, .bool true, Ext.refl _ _ _, hr.grown hg.pres.size hs, ⟨hg.pres.size, fun c hc _ => hs c hc, hg.pres.tape, hg.pres.os, hg.pres.output, hg.pres.fr⟩, Nat.le_refl _, Nat.le_refl _⟩
  | panicked _ => exact hR.elim
  | outgrown => exact hR.elim
theorem top_awake {aw : FuncId} {N : Nat} : callA (topR P aw N) (.func aw) [] σ = some (.bool true, σ) := by
  unfold callA
  have e : topR P aw N (.func aw) [] ⟨σ.heap, σ.next, σ.next⟩ = some (.bool true, ⟨σ.heap, σ.next, σ.next⟩) := by
    show (bif Nat.beq aw aw then _ else _) = _
    rw [Nat.beq_refl]; rfl
  rw [e]
  show backA σ _ _ = _
  unfold backA
  rw [(ble_iff _ _).2 (Nat.le_refl _)]; rfl

/-- The same as wpFn, over any calls. -/
def wpFnR (P : Program) (rec : Rec) (n : Nat) (f : FuncId) (args : List Value) (as : List Ans) (σ : St) (K : Value → St → Prop) : Prop :=
  match P.funcs[f]? with
  | some fn => match fn.body with
    | some c => wpC P rec n none c as ⟨(Tm.args 0 args).foldl (fun f p => f.set p.1 p.2) (fresh (args.length + (fn.ntmps - args.length))), []⟩ σ fun e fr σ as => match e with
      | .normal => wpDone P fn fr σ as K
      | .ret => wpDone P fn fr σ as K
      | _ => False
    | none => False
  | none => False
theorem wpFnR_sound {n : Nat} {f : FuncId} {args : List Value} {as : List Ans} {K : Value → St → Prop} (h : wpFnR P rec n f args as σ K) : ∃ v σ', bodyF P rec n f args σ = some (v, σ') ∧ K v σ' := by
  unfold wpFnR at h
  split at h
  · rename_i fn hfn
    split at h
    · rename_i c hc
      obtain ⟨e, fr, σ₁, as', h1, h2⟩ := wpC_sound _ _ _ _ _ _ _ h
      have key : endA P fn (codeA P rec n none c ⟨(Tm.args 0 args).foldl (fun f p => f.set p.1 p.2) (fresh (args.length + (fn.ntmps - args.length))), []⟩ σ) = bodyF P rec n f args σ := by
        simp only [bodyF, hfn, hc, Tm.puts_eq]
      rw [← key, h1]
      cases e with
      | normal => exact wpDone_sound h2
      | ret => exact wpDone_sound h2
      | _ => exact h2.elim
    · exact h.elim
  · exact h.elim

/-- What is shown of a statement's function: from its arguments, read alone. -/
theorem walk_top (hP : ProgOk P) {aw : FuncId} (hc : ShutF P aw) {f : FuncId} {avs args : List Value} {N : Nat} {as : List Ans} (h : wpFnR P (topR P aw N) N f avs as σ fun v _ => v = .bool true) (hr : Rep ι σ w) (ho : Ro ι w) (ha : VRs ι avs args) :
    Calls P f ⟨args⟩ w fun e w' => e = .returned (.bool true) ∧ RowKit.Grown w w' := by
  obtain ⟨v, σ', hb, rfl⟩ := wpFnR_sound h
  obtain ⟨_, h2⟩ := bodyF_sound hP (topR_sound hP hc N) hb hr ha
  refine Calls.mono (callsIn_wide.1 (h2 0)) (fun e w' hR => ?_)
  cases e with
  | returned v' =>
    obtain ⟨ι', hv, hg⟩ := hR
    exact ⟨by rw [hv.bool_inv], grown_of hg ho.own⟩
  | panicked _ => exact hR.elim
  | outgrown => exact hR.elim

/-! ### The arguments of a statement -/
variable {H : Type} {enc : TypeId × Value → H} {held : Bool}
def WTs (P : Program) (σ : St) (n : Nat) : List TypeId → List Value → Prop
  | [], [] => True
  | t :: ts, v :: vs => WT P σ n t v.cells.toList ∧ WTs P σ n ts vs
  | _, _ => False
theorem WTs.le {n : Nat} : ∀ {ts : List TypeId} {vs : List Value}, WTs P σ n ts vs → Le σ σ' → WTs P σ' n ts vs
  | [], [], _, _ => trivial
  | _ :: _, _ :: _, h, k => ⟨h.1.le k, WTs.le h.2 k⟩
  | [], _ :: _, h, _ => h.elim
  | _ :: _, [], h, _ => h.elim
theorem open_value {n : Nat} {t : TypeId} {v : Value} {d : DataW H} {ps : List MemPlace} (hp : plainT P n t = true) (h : DataW.Trod enc P w 0 (fun _ => true) held t v d ps) (hr : Rep ι σ w) (ho : Ro ι w) (hrow : HasRow w v.cells.toList) :
    ∃ ι' σ' av, Rep ι' σ' w ∧ Ro ι' w ∧ Sub ι ι' ∧ Le σ σ' ∧ VR ι' av v ∧ WT P σ' n t av.cells.toList := by
  obtain ⟨fuel, h⟩ := h
  obtain ⟨ι', σ', cs, r1, o1, s1, l1, v1, w1⟩ := open_cells n t hp fuel _ _ ι σ h hr ho hrow
  have one : (∀ c, v ≠ .agg c) → v.cells.toList = [v] → ∃ ι' σ' av, Rep ι' σ' w ∧ Ro ι' w ∧ Sub ι ι' ∧ Le σ σ' ∧ VR ι' av v ∧ WT P σ' n t av.cells.toList := by
    intro hna e
    rw [e] at v1
    cases v1 with
    | cons hx hn =>
      cases hn
      rename_i x
      refine ⟨ι', σ', x, r1, o1, s1, l1, hx, ?_⟩
      have hc := hx.cells
      rw [e] at hc
      have : x.cells.toList = [x] := by
        cases x with
        | agg cs =>
          exfalso
          cases hx with
          | atom hat => exact absurd hat (by simp [atomB])
          | agg _ _ => exact hna _ rfl
        | _ => rfl
      rw [this]; exact w1
  cases v with
  | agg c =>
    refine ⟨ι', σ', .agg ⟨cs⟩, r1, o1, s1, l1, ?_, w1⟩
    cases c with | mk l => exact VR.agg' v1
  | _ => exact one (by simp) rfl
theorem open_all {n : Nat} : ∀ {ts : List TypeId} {vs : List Value} {ds : List (DataW H)} {ps : List MemPlace} {ι : Inj} {σ : St}, DataW.TrodAll enc P w 0 (fun _ => true) held ts vs ds ps → (∀ t ∈ ts, plainT P n t = true) → Rep ι σ w → Ro ι w → (∀ v ∈ vs, HasRow w v.cells.toList) →
    ∃ ι' σ' avs, Rep ι' σ' w ∧ Ro ι' w ∧ Le σ σ' ∧ Sub ι ι' ∧ VRs ι' avs vs ∧ WTs P σ' n ts avs
  | [], [], [], ps, ι, σ, h, _, hr, ho, _ => ⟨ι, σ, [], hr, ho, Le.refl _, Sub.refl _, .nil, trivial⟩
  | t :: ts, v :: vs, d :: ds, ps, ι, σ, h, hp, hr, ho, hrow => by
    obtain ⟨p, q, h1, h2, _⟩ := h
    obtain ⟨ι1, σ1, av, r1, o1, s1, l1, v1, w1⟩ := open_value (hp t (by simp)) h1 hr ho (hrow v (by simp))
    obtain ⟨ι2, σ2, avs, r2, o2, l2, s2, v2, w2⟩ := open_all h2 (fun t ht => hp t (by simp [ht])) r1 o1 (fun v hv => hrow v (by simp [hv]))
    exact ⟨ι2, σ2, av :: avs, r2, o2, l1.trans l2, s1.trans s2, .cons (v1.sub s2) v2, w1.le l2, w2⟩
  | [], _ :: _, _, _, _, _, h, _, _, _, _ => h.elim
  | _ :: _, [], _, _, _, _, h, _, _, _, _ => h.elim
  | [], [], _ :: _, _, _, _, h, _, _, _, _ => h.elim
  | _ :: _, _ :: _, [], _, _, _, h, _, _, _, _ => h.elim

/-- Where a value is as its type asks, a slice's row is there. -/
theorem hasRow_of {t : TypeId} {v : Value} (h : Value.okWide P w .any 0 t v) : HasRow w v.cells.toList := by
  have cell : ∀ {u : TypeId} {A : Addr} {len cap : Nat}, Cell.okWide P w .any 0 u (.slice (some A) len cap) → ∃ (c : Nat) (arr : Array Value) (el : TypeId) (fr : Nat × Nat), w.heap[c]? = some (.cells arr el fr) := by
    intro u A len cap hc
    have hok : Cell.ok P w .any 0 u (.slice (some A) len cap) := by
      unfold Cell.okWide at hc
      split at hc <;> first | exact hc | (rename_i heq; cases heq)
    unfold Cell.ok at hok
    split at hok <;> first | (rename_i heq; cases heq; done) | skip
    all_goals first
      | (rename_i heq; cases heq; obtain ⟨_, _, _, _, row, cells, hs, _⟩ := hok
         unfold World.shape? at hs
         split at hs
         · rename_i c elem hh; exact ⟨_, _, _, _, hh⟩
         · cases hs)
      | exact hok.elim
      | skip
  intro A len cap hm
  unfold Value.okWide at h
  split at h
  · obtain ⟨cs, rfl, _, ts, _, _, hc⟩ := h
    obtain ⟨i, hi⟩ := List.getElem?_of_mem hm
    obtain ⟨u, _, hu⟩ := hc i _ (by simpa [Value.cells] using hi)
    exact cell hu
  · obtain ⟨cs, rfl, _, ts, _, _, hc⟩ := h
    obtain ⟨i, hi⟩ := List.getElem?_of_mem hm
    obtain ⟨u, _, hu⟩ := hc i _ (by simpa [Value.cells] using hi)
    exact cell hu
  · cases v with
    | slice a l c =>
      simp [Value.cells] at hm
      obtain ⟨rfl, rfl, rfl⟩ := hm
      exact cell h
    | agg cs =>
      exfalso
      unfold Cell.okWide at h
      split at h <;> first | (rename_i heq; cases heq; done) | skip
      unfold Cell.ok at h
      split at h <;> first | (rename_i heq; cases heq; done) | exact h.elim | skip
    | _ => simp [Value.cells] at hm
end
end Go.Lay
