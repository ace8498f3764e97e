/- Calls; every operation, in the calculus of walks. -/
import Derived.Test.YthcdddbghldmiaaLayMem8
import Derived.RangeFuncLeaves
set_option linter.unusedVariables false
set_option linter.unusedSimpArgs false
namespace Go.Lay
open Go

/-- No fence; the round that one is in. -/
def Fw (rd : Option Nat) : Fence := { Fence.wide with round := rd }
theorem Fw_fn (rd : Option Nat) (f : FuncId) : (Fw rd).fn f := trivial
theorem Fw_room (rd : Option Nat) (k : Nat) : (Fw rd).room k := fun _ h => by simp [Fw, Fence.wide] at h
theorem Fw_depth (rd : Option Nat) : (Fw rd).depth.isSome = true → ∀ n : Nat, 1 ≤ n := fun h => by simp [Fw, Fence.wide] at h
theorem callsIn_rd {rd rd' : Option Nat} {n : Nat} {P : Program} {f : FuncId} {args : Array Value} {w : World} {R : Ending → World → Prop} (h : CallsIn (Fw rd) n P f args w R) : CallsIn (Fw rd') n P f args w R := h
theorem roundIn_rd {rd rd' : Option Nat} {n : Nat} {P : Program} {l : Nat} {f : FuncId} {t : Array Value} {as bo : Code} {w : World} {R : Ending → World → Prop} (h : RoundIn (Fw rd) n P l f t as bo w R) : RoundIn (Fw rd') n P l f t as bo w R := h

/-- A call has ended: as the abstract one. -/
def RetR (ι : Inj) (σ : St) (w : World) (v : Value) (σ' : St) : Ending → World → Prop
  | .returned v', w' => ∃ ι', VR ι' v v' ∧ Good ι σ w ι' σ' w'
  | _, _ => False

/-- What is asked of the calls on which one leans. -/
structure RecSound (P : Program) (rec : Rec) : Prop where
  func : ∀ f args σ v σ', rec (.func f) args σ = some (v, σ') → ∀ (ι : Inj) (w : World) (args' : List Value), Rep ι σ w → VRs ι args args' →
    (∃ fn, P.funcs[f]? = some fn ∧ fn.body.isSome = true ∧ fn.name ≠ "runtime.NumGoroutine") ∧ ∀ n, CallsIn (Fw none) n P f ⟨args'⟩ w (RetR ι σ w v σ')
  yield : ∀ l args σ v σ', rec (.yield l) args σ = some (v, σ') → ∀ (ι : Inj) (w : World) (args' : List Value) (L : Loc), Rep ι σ w → VRs ι args args' → ι.loc l 0 = some L →
    ∀ n, ∃ fn tmps as bo, (Instr.yield L.c ⟨args'⟩).run P w = .ok (.round L.c fn tmps as bo) w ∧ RoundIn (Fw none) n P L.c fn tmps as bo w (RetR ι σ w v σ')

section
variable {P : Program} {ι : Inj} {σ : St} {w : World} {rec : Rec}

theorem Rep.relow (h : Rep ι σ w) (l : Nat) : Rep ι ⟨σ.heap, σ.next, l⟩ w := ⟨h.blk, h.lt, h.ownlt, h.fresh⟩

theorem back_sound {v v' : Value} {σ₁ σ' : St} {ι' : Inj} {w' : World} {v₀ : Value} (h : backA σ v σ₁ = some (v₀, σ')) (hr : Rep ι σ w) (hv : VR ι' v v') (hg : Good ι ⟨σ.heap, σ.next, σ.next⟩ w ι' σ₁ w') :
    v₀ = v ∧ ∃ ι'', VR ι'' v v' ∧ Good ι σ w ι'' σ' w' := by
  unfold backA at h
  cases hc : Nat.ble σ.next σ₁.low && rigidB RD v with
  | true =>
    rw [hc, cond_true] at h
    simp only [Bool.and_eq_true] at hc
    have hlow := (ble_iff _ _).1 hc.1
    simp at h; obtain ⟨rfl, rfl⟩ := h
    have he := hv.rigid _ hc.2; subst he
    have hsame : ∀ c, c < w.heap.size → (∀ b, ι.own c = some b → b < σ.next) → w'.heap[c]? = w.heap[c]? := fun c hcs ho =>
      hg.pres.same c hcs (fun b hb => Nat.lt_of_lt_of_le (ho b hb) hlow)
    refine ⟨rfl, ι, .refl_rigid _ hc.2, Ext.refl _ _ _, ⟨fun b y hb => ⟨(hr.blk b y hb).1, (hr.blk b y hb).2.keep (Ext.refl ι w.heap.size 0) hr.lt (fun c hcs ho => ?_) (fun cs esz log next ro hy s hs' => ?_)⟩, fun b s L hl => ?_, fun c b hb => ?_, hr.fresh⟩,
      ⟨hg.pres.size, fun c hcs ho => hsame c hcs (fun b hb => (hr.ownlt c b hb).2), hg.pres.tape, hg.pres.os, hg.pres.output, hg.pres.fr⟩, Nat.le_refl _, Nat.le_refl _⟩
    · refine hsame c hcs (fun b' hb' => ?_)
      rcases ho with ho | ho
      · exact (hr.ownlt c b' hb').2
      · rw [ho] at hb'; cases hb'
    · have := (hr.blk b y hb).2; subst hy; cases this with | cells _ _ _ fresh => exact fresh s hs'
    · exact Nat.lt_of_lt_of_le (hr.lt b s L hl) hg.pres.size
    · exact ⟨Nat.lt_of_lt_of_le (hr.ownlt c b hb).1 hg.pres.size, (hr.ownlt c b hb).2⟩
  | false =>
    rw [hc, cond_false] at h
    cases hn : Nat.ble σ.next σ₁.next with
    | false => rw [hn, cond_false] at h; cases h
    | true =>
      rw [hn, cond_true, fN_eq, cond_ble] at h
      have hn := (ble_iff _ _).1 hn
      simp at h; obtain ⟨rfl, rfl⟩ := h
      refine ⟨rfl, ι', hv, hg.ext, hg.rep.relow _, ⟨hg.pres.size, fun c hcs ho => hg.pres.same c hcs (fun b hb => ?_), hg.pres.tape, hg.pres.os, hg.pres.output, hg.pres.fr⟩, Nat.min_le_left _ _, hn⟩
      have := ho b hb
      simp at this; omega

theorem back_next {v v₀ : Value} {σ₁ σ' : St} (h : backA σ v σ₁ = some (v₀, σ')) : σ.next ≤ σ'.next := by
  unfold backA at h
  cases hc : Nat.ble σ.next σ₁.low && rigidB RD v with
  | true => rw [hc, cond_true] at h; simp at h; rw [h.2]; exact Nat.le_refl _
  | false =>
    rw [hc, cond_false] at h
    cases hn : Nat.ble σ.next σ₁.next with
    | false => rw [hn, cond_false] at h; cases h
    | true => rw [hn, cond_true, fN_eq] at h; simp at h; rw [← h.2]; exact (ble_iff _ _).1 hn

theorem callA_next {r : FnRef} {args : List Value} {v : Value} {σ' : St} (h : callA rec r args σ = some (v, σ')) : σ.next ≤ σ'.next := by
  unfold callA at h
  split at h
  · cases h
  · exact back_next h

theorem RetR.mono {v : Value} {σ₁ σ' : St} {v₀ : Value} (hr : Rep ι σ w) (hb : backA σ v σ₁ = some (v₀, σ')) {e : Ending} {w' : World} (h : RetR ι ⟨σ.heap, σ.next, σ.next⟩ w v σ₁ e w') : RetR ι σ w v₀ σ' e w' := by
  cases e with
  | returned v' =>
    obtain ⟨ι', hv, hg⟩ := h
    obtain ⟨rfl, ι'', h1, h2⟩ := back_sound hb hr hv hg
    exact ⟨ι'', h1, h2⟩
  | panicked _ => exact h
  | outgrown => exact h

theorem callA_func (hrec : RecSound P rec) {f : FuncId} {args args' : List Value} {v : Value} {σ' : St} (h : callA rec (.func f) args σ = some (v, σ')) (hr : Rep ι σ w) (ha : VRs ι args args') :
    (∃ fn, P.funcs[f]? = some fn ∧ fn.body.isSome = true ∧ fn.name ≠ "runtime.NumGoroutine") ∧ ∀ rd n, CallsIn (Fw rd) n P f ⟨args'⟩ w (RetR ι σ w v σ') := by
  unfold callA at h
  split at h
  · cases h
  · rename_i v₁ σ₁ hc
    obtain ⟨h1, h2⟩ := hrec.func _ _ _ _ _ hc ι w args' (hr.relow _) ha
    exact ⟨h1, fun rd n => callsIn_rd (CallsIn.mono (h2 n) (fun e w' => RetR.mono hr h))⟩

theorem callA_yield (hrec : RecSound P rec) {l : Nat} {args args' : List Value} {v : Value} {σ' : St} {L : Loc} (h : callA rec (.yield l) args σ = some (v, σ')) (hr : Rep ι σ w) (ha : VRs ι args args') (hl : ι.loc l 0 = some L) :
    ∀ rd n, ∃ fn tmps as bo, (Instr.yield L.c ⟨args'⟩).run P w = .ok (.round L.c fn tmps as bo) w ∧ RoundIn (Fw rd) n P L.c fn tmps as bo w (RetR ι σ w v σ') := by
  unfold callA at h
  split at h
  · cases h
  · rename_i v₁ σ₁ hc
    intro rd n
    obtain ⟨fn, tmps, as, bo, h1, h2⟩ := hrec.yield _ _ _ _ _ hc ι w args' L (hr.relow _) ha hl n
    exact ⟨fn, tmps, as, bo, h1, roundIn_rd (RoundIn.mono h2 (fun e w' => RetR.mono hr h))⟩

/-! ### Operands -/
theorem POI_any {v' : Value} (h : cellB v' = true) : VR ι POI v' := .any h
theorem aeval_sound {f : Tm} {a : Act} (h : TmR ι f a.tmps) {x : Operand} (hx : constOk x = true) : VR ι (aeval f x) (a.eval x) := by
  cases x with
  | tmp t => exact h.2 t
  | const v => exact .refl_rigid _ hx
  | global g => exact .any rfl
  | func g => exact .func (.func g) rfl (fun i v v' h => by simp at h) rfl (fun i v v' h => by simp at h)

theorem opsOk {o : Oper} (h : operOk o = true) {x : Operand} (hx : x ∈ o.op.operands) : constOk x = true :=
  List.all_eq_true.1 h x (by simpa using hx)

theorem NextV.upon {rd : Option Nat} {n : Nat} {o : Oper} {a : Act} {next : Act → World → Prop} {Q : Exit → Act → World → Prop} {nx : Next} {v' : Value} {w' : World} (h : NextV nx v') (hn : next (a.put o.dst v') w') :
    o.uponIn (Fw rd) n P a next Q (.ok nx w') := by
  cases h with
  | value => exact hn
  | skip => exact hn

theorem wp_of_run {rd : Option Nat} {n : Nat} {o : Oper} {a : Act} {next : Act → World → Prop} {Q : Exit → Act → World → Prop} {nx : Next} {v' : Value} {w' : World} (hd : ∀ c, o.op ≠ .defer c)
    (hrun : (execOp a.eval o).run P w = .ok nx w') (h : NextV nx v') (hn : next (a.put o.dst v') w') : o.wpIn (Fw rd) n P a w next Q := by
  refine ⟨fun f _ => Fw_fn rd f, ?_⟩
  rw [Oper.semAt_eq _ _ _ hd, hrun]
  exact h.upon hn

theorem bif_some {α : Type} {c : Bool} {x : Option α} {z : α} (h : (bif c then x else none) = some z) : c = true ∧ x = some z := by cases c <;> simp_all
theorem bif_cases {α : Type} {c : Bool} {x y : Option α} {z : α} (h : (bif c then x else y) = some z) : (c = true ∧ x = some z) ∨ (c = false ∧ y = some z) := by cases c <;> simp_all

theorem writeRow_next {a : Addr} {vs : List Value} {σ' : St} (h : writeRow σ a vs = some σ') : σ.next ≤ σ'.next := by
  unfold writeRow at h
  split at h
  · split at h
    · obtain ⟨_, h⟩ := bif_some h
      rw [fVs_eq, St.write_eq] at h; simp at h; rw [← h]; simp
    · cases h
  · cases h

theorem appRows_next {n : Nat} {base : Option Addr} {len cap cnt : Nat} {cs : List Value} {v : Value} {σ' : St} (h : appRows σ n base len cap cnt cs = some (v, σ')) : σ.next ≤ σ'.next := by
  unfold appRows at h
  rcases bif_cases h with ⟨_, h⟩ | ⟨_, h⟩
  · split at h
    · obtain ⟨_, h⟩ := bif_some h
      simp at h; rw [← h.2]; exact Nat.le_refl _
    · rcases bif_cases h with ⟨_, h⟩ | ⟨_, h⟩
      · simp at h; rw [← h.2]; exact Nat.le_refl _
      · simp only [Option.map_eq_some_iff] at h
        obtain ⟨σ₁, h1, h2⟩ := h
        simp at h2; rw [← h2.2]; exact writeRow_next h1
  · rcases bif_cases h with ⟨_, h⟩ | ⟨_, h⟩
    · split at h
      · obtain ⟨_, h⟩ := bif_some h
        rw [newRow_eq] at h; simp at h; rw [← h.2]; simp
      · split at h
        · rw [newRow_eq] at h; simp at h; rw [← h.2]; simp
        · cases h
    · split at h
      · cases h
      · unfold appGrow at h
        split at h
        · split at h
          · obtain ⟨_, h⟩ := bif_some h
            rw [fVs_eq, fN_eq, fN_eq, St.write_eq] at h; simp at h; rw [← h.2]; simp
          · cases h
        · cases h

theorem effOp_next {o : Op} {ev : Operand → Value} {v : Value} {σ' : St} (h : effOp P ev σ o = some (v, σ')) : σ.next ≤ σ'.next := by
  unfold effOp at h
  split at h
  · split at h
    · rw [fN_eq, newRow_eq] at h; simp at h; rw [← h.2]; simp
    · cases h
  · rw [fN_eq, newRow_eq] at h; simp at h; rw [← h.2]; simp
  · split at h
    · split at h
      · obtain ⟨_, h⟩ := bif_some h
        split at h
        · rw [newRow_eq] at h; simp at h; rw [← h.2]; simp
        · cases h
      · cases h
    · cases h
  · split at h
    · split at h
      · rw [St.new_eq] at h; simp at h; rw [← h.2]; simp
      · cases h
    · split at h
      · rw [St.new_eq] at h; simp at h; rw [← h.2]; simp
      · cases h
  · split at h
    · split at h
      · obtain ⟨_, h⟩ := bif_some h
        rw [newRow_eq] at h; simp at h; rw [← h.2]; simp
      · cases h
    · cases h
  · split at h
    · simp only [Option.map_eq_some_iff] at h
      obtain ⟨σ₁, h1, h2⟩ := h
      simp at h2; rw [← h2.2]
      unfold storeA at h1
      split at h1
      · obtain ⟨_, h1⟩ := bif_some h1
        exact writeRow_next h1
      · cases h1
    · cases h
  · split at h
    · split at h
      · obtain ⟨_, h⟩ := bif_some h
        split at h
        · split at h
          · obtain ⟨_, h⟩ := bif_some h
            rw [St.write_eq] at h; simp at h; rw [← h.2]; simp
          · cases h
        · rw [St.write_eq] at h; simp at h; rw [← h.2]; simp
        · cases h
      · cases h
    · cases h
  · split at h
    · split at h
      · obtain ⟨_, h⟩ := bif_some h
        split at h
        · split at h
          · obtain ⟨_, h⟩ := bif_some h
            rw [St.write_eq] at h; simp at h; rw [← h.2]; simp
          · cases h
        · rw [St.write_eq] at h; simp at h; rw [← h.2]; simp
        · cases h
      · cases h
    · cases h
  · split at h
    · split at h
      · unfold appendA at h
        split at h
        · split at h
          · split at h
            · split at h
              · obtain ⟨_, h⟩ := bif_some h
                exact appRows_next h
              · cases h
            · cases h
          · cases h
        · cases h
      · cases h
    · split at h
      · split at h
        · split at h
          · split at h
            · simp at h; rw [← h.2]; exact Nat.le_refl _
            · rcases bif_cases h with ⟨_, h⟩ | ⟨_, h⟩
              · simp at h; rw [← h.2]; exact Nat.le_refl _
              · simp only [Option.map_eq_some_iff] at h
                obtain ⟨σ₁, h1, h2⟩ := h
                simp at h2; rw [← h2.2]; exact writeRow_next h1
          · cases h
        · cases h
      · cases h
    · split at h
      · simp only [Option.map_eq_some_iff] at h
        obtain ⟨v0, h1, h2⟩ := h
        simp at h2; rw [← h2.2]; exact Nat.le_refl _
      · cases h
    · cases h
  · cases h
end
end Go.Lay
