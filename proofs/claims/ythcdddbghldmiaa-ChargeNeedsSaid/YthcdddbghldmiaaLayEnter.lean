/- From the abstract semantics to a row: programs that are fit; a start in no memory. -/
import Derived.Test.YthcdddbghldmiaaLayTop
import Derived.RowKit3
set_option linter.unusedVariables false
set_option linter.unusedSimpArgs false
namespace Go.Lay
open Go

/-! ### Fit programs -/
def typesOk (P : Program) : Bool := P.types.toList.all fun i => match i.zero with | some z => rigidB RD z | none => true
def funcOk (fn : Func) : Bool := match fn.body with | some c => codeOk c && !(fn.name == "runtime.NumGoroutine") | none => true
def funcsOk (P : Program) : Bool := P.funcs.toList.all funcOk
theorem progOk_of {P : Program} (h1 : P.follows .mixedOrders = true) (h2 : typesOk P = true) (h3 : funcsOk P = true) : ProgOk P := by
  refine ⟨h1, fun t z hz => ?_, fun f fn c hf hc => ?_⟩
  · unfold zeroT at hz
    cases hi : P.types[t]? with
    | none => rw [hi] at hz; simp at hz
    | some i =>
      rw [hi] at hz; simp at hz
      have hm : i ∈ P.types.toList := List.mem_of_getElem? (by simpa using hi)
      have := List.all_eq_true.1 h2 i hm
      rw [hz] at this; exact this
  · have hm : fn ∈ P.funcs.toList := List.mem_of_getElem? (by simpa using hf)
    have := List.all_eq_true.1 h3 fn hm
    unfold funcOk at this
    rw [hc] at this
    simp only [Bool.and_eq_true, Bool.not_eq_true'] at this
    exact ⟨this.1, by simpa using this.2⟩

/-! ### The start -/
def noInj : Inj := { loc := fun _ _ => none, own := fun _ => none, csz := fun _ => 0 }
def noSt : St := ⟨.leaf, 0, 0⟩
theorem rep_no (w : World) : Rep noInj noSt w :=
  ⟨fun b y h => by simp [noSt, getB, Tr.getP_leaf] at h, fun _ _ _ h => by simp [noInj] at h, fun _ _ h => by simp [noInj] at h, fun _ _ _ => rfl⟩

/-- Nothing that was there is anybody's: it has been kept. -/
theorem grown_of {ι ι' : Inj} {σ σ' : St} {w w' : World} (h : Good ι σ w ι' σ' w') (ho : ∀ c, ι.own c = none) : RowKit.Grown w w' := by
  have hs : ∀ c, c < w.heap.size → w'.heap[c]? = w.heap[c]? := fun c hc => h.pres.same c hc (fun b hb => by rw [ho c] at hb; cases hb)
  refine ⟨⟨h.pres.os, h.pres.output, fun i hi => ?_⟩, fun a => ?_, h.pres.size⟩
  · rw [hs i hi]
    split <;> rename_i h1 h2
    · rw [h1] at h2; cases h2; exact ⟨rfl, rfl, rfl, fun _ _ => rfl⟩
    · rw [h1] at h2; cases h2; exact .inr ⟨rfl, rfl⟩
    · rfl
  · rcases Nat.lt_or_ge a.block w.heap.size with hlt | hge
    · simp only [World.frozen?, hs _ hlt]
    · have e1 : w.heap[a.block]? = none := by simp [hge]
      have e2 : w.frozen? a = false := by simp only [World.frozen?, e1]
      rw [e2]
      unfold World.frozen?
      split
      · rename_i arr elem lo hi hc
        rcases h.pres.fr _ _ _ _ hc with ⟨arr', elem', hc'⟩ | hf
        · rw [e1] at hc'; cases hc'
        · simp at hf; obtain ⟨rfl, rfl⟩ := hf; simp
      · rfl

def okB : Option (Value × St) → Bool
  | some (.bool b, _) => b
  | _ => false
theorem okB_some {r : Option (Value × St)} (h : okB r = true) : ∃ σ', r = some (.bool true, σ') := by
  unfold okB at h
  split at h
  · rename_i b σ'; exact ⟨σ', by rw [h]⟩
  · cases h

/-- A closed statement. -/
theorem walk_closed {P : Program} (hP : ProgOk P) {n : Nat} {f : FuncId} (h : okB (runA P n (.func f) [] noSt) = true) (w : World) :
    Calls P f #[] w fun e w' => e = .returned (.bool true) ∧ RowKit.Grown w w' := by
  obtain ⟨σ', hr⟩ := okB_some h
  refine Calls.mono (calls_of_runA hP hr (rep_no w) .nil) (fun e w' hR => ?_)
  cases e with
  | returned v' =>
    obtain ⟨ι', hv, hg⟩ := hR
    exact ⟨by rw [hv.bool_inv], grown_of hg (fun _ => rfl)⟩
  | panicked _ => exact hR.elim
  | outgrown => exact hR.elim
end Go.Lay
