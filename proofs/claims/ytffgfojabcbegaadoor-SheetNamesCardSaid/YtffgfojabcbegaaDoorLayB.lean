/- The library, part B: the abstract semantics of the code, and its use. -/
import Derived.RangeFuncLeaves
import Derived.RangeFuncRecord
import Derived.Recover
import Derived.RowKit3
import Derived.Test.YtffgfojabcbegaaDoorLayA
set_option linter.unusedVariables false
set_option linter.unusedSimpArgs false
/-! Call: Calls; every operation, in the calculus of walks. -/
namespace Go.Lay
open Go

/-- No fence; the round that one is in. -/
def Fw (rd : Option Nat) : Fence := { Fence.wide with round := rd }
theorem Fw_fn (rd : Option Nat) (f : FuncId) : (Fw rd).fn f := trivial
theorem Fw_depth (rd : Option Nat) : (Fw rd).depth.isSome = true → ∀ n : Nat, 1 ≤ n := fun h => by simp [Fw, Fence.wide] at h
theorem callsIn_rd {rd rd' : Option Nat} {n : Nat} {P : Program} {f : FuncId} {args : Array Value} {w : World} {R : Ending → World → Prop} (h : CallsIn (Fw rd) n P f args w R) : CallsIn (Fw rd') n P f args w R := h
theorem roundIn_rd {rd rd' : Option Nat} {n : Nat} {P : Program} {l : Nat} {f : FuncId} {t : Array Value} {as bo : Code} {w : World} {R : Ending → World → Prop} (h : RoundIn (Fw rd) n P l f t as bo w R) : RoundIn (Fw rd') n P l f t as bo w R := h

/-- A call has ended: as the abstract one. -/
def RetR (ι : Inj) (σ : St) (w : World) (v : Value) (σ' : St) : Ending → World → Prop
  | .returned v', w' => ∃ ι', VR ι' v v' ∧ Good ι σ w ι' σ' w'
  | _, _ => False

/-- What is asked of the calls on which one leans. -/
structure RecSound (P : Program) (rec : Rec) : Prop where
  func : ∀ f args σ v σ', rec (.func f) args σ = some (v, σ') → ∀ (ι : Inj) (w : World) (args' : List Value), Rep ι σ w → VRs ι args args' →
    (∃ fn, P.funcs[f]? = some fn ∧ fn.body.isSome = true ∧ fn.name ≠ "runtime.NumGoroutine") ∧ ∀ n, CallsIn (Fw none) n P f ⟨args'⟩ w (RetR ι σ w v σ')
  yield : ∀ l args σ v σ', rec (.yield l) args σ = some (v, σ') → ∀ (ι : Inj) (w : World) (args' : List Value) (L : Loc), Rep ι σ w → VRs ι args args' → ι.loc l 0 = some L →
    ∀ n, ∃ fn tmps as bo, (Instr.yield L.c ⟨args'⟩).run P w = .ok (.round L.c fn tmps as bo) w ∧ RoundIn (Fw none) n P L.c fn tmps as bo w (RetR ι σ w v σ')

section
variable {P : Program} {ι : Inj} {σ : St} {w : World} {rec : Rec}

theorem Rep.relow (h : Rep ι σ w) (l : Nat) : Rep ι ⟨σ.heap, σ.q, l⟩ w := ⟨h.blk, h.lt, h.ownlt, h.fresh⟩

theorem back_sound {v v' : Value} {σ₁ σ' : St} {ι' : Inj} {w' : World} {v₀ : Value} (h : backA σ v σ₁ = some (v₀, σ')) (hr : Rep ι σ w) (hv : VR ι' v v') (hg : Good ι ⟨σ.heap, σ.q, σ.q⟩ w ι' σ₁ w') :
    v₀ = v ∧ ∃ ι'', VR ι'' v v' ∧ Good ι σ w ι'' σ' w' := by
  unfold backA at h
  cases hc : Nat.ble σ.q σ₁.low && rigidB RD v with
  | true =>
    rw [hc, cond_true] at h
    simp only [Bool.and_eq_true] at hc
    have hlow := (ble_iff _ _).1 hc.1
    simp at h; obtain ⟨rfl, rfl⟩ := h
    have he := hv.rigid _ hc.2; subst he
    have hsame : ∀ c, c < w.heap.size → (∀ b, ι.own c = some b → b < σ.q) → w'.heap[c]? = w.heap[c]? := fun c hcs ho =>
      hg.pres.same c hcs (fun b hb => Nat.lt_of_lt_of_le (ho b hb) hlow)
    refine ⟨rfl, ι, .refl_rigid _ hc.2, Ext.refl _ _ _, ⟨fun b y hb => ⟨(hr.blk b y hb).1, (hr.blk b y hb).2.keep (Ext.refl ι w.heap.size 0) hr.lt (fun c hcs ho => ?_) (fun cs esz log next ro hy s hs' => ?_)⟩, fun b s L hl => ?_, fun c b hb => ?_, hr.fresh⟩,
      ⟨hg.pres.size, fun c hcs ho => hsame c hcs (fun b hb => (hr.ownlt c b hb).2), hg.pres.tape, hg.pres.os, hg.pres.output, hg.pres.fr⟩, Nat.le_refl _, Nat.le_refl _⟩
    · refine hsame c hcs (fun b' hb' => ?_)
      rcases ho with ho | ho
      · exact (hr.ownlt c b' hb').2
      · rw [ho] at hb'; cases hb'
    · have := (hr.blk b y hb).2; subst hy; cases this with | cells _ _ _ fresh => exact fresh s hs'
    · exact Nat.lt_of_lt_of_le (hr.lt b s L hl) hg.pres.size
    · exact ⟨Nat.lt_of_lt_of_le (hr.ownlt c b hb).1 hg.pres.size, (hr.ownlt c b hb).2⟩
  | false =>
    rw [hc, cond_false] at h
    cases hn : Nat.ble σ.q σ₁.q with
    | false => rw [hn, cond_false] at h; cases h
    | true =>
      rw [hn, cond_true, fN_eq, cond_ble] at h
      have hn := (ble_iff _ _).1 hn
      simp at h; obtain ⟨rfl, rfl⟩ := h
      refine ⟨rfl, ι', hv, hg.ext, hg.rep.relow _, ⟨hg.pres.size, fun c hcs ho => hg.pres.same c hcs (fun b hb => ?_), hg.pres.tape, hg.pres.os, hg.pres.output, hg.pres.fr⟩, Nat.min_le_left _ _, hn⟩
      have := ho b hb
      simp at this; omega

theorem back_next {v v₀ : Value} {σ₁ σ' : St} (h : backA σ v σ₁ = some (v₀, σ')) : σ.q ≤ σ'.q := by
  unfold backA at h
  cases hc : Nat.ble σ.q σ₁.low && rigidB RD v with
  | true => rw [hc, cond_true] at h; simp at h; rw [h.2]; exact Nat.le_refl _
  | false =>
    rw [hc, cond_false] at h
    cases hn : Nat.ble σ.q σ₁.q with
    | false => rw [hn, cond_false] at h; cases h
    | true => rw [hn, cond_true, fN_eq] at h; simp at h; rw [← h.2]; exact (ble_iff _ _).1 hn

theorem callA_next {r : FnRef} {args : List Value} {v : Value} {σ' : St} (h : callA rec r args σ = some (v, σ')) : σ.q ≤ σ'.q := by
  unfold callA at h
  split at h
  · cases h
  · exact back_next h

theorem RetR.mono {v : Value} {σ₁ σ' : St} {v₀ : Value} (hr : Rep ι σ w) (hb : backA σ v σ₁ = some (v₀, σ')) {e : Ending} {w' : World} (h : RetR ι ⟨σ.heap, σ.q, σ.q⟩ w v σ₁ e w') : RetR ι σ w v₀ σ' e w' := by
  cases e with
  | returned v' =>
    obtain ⟨ι', hv, hg⟩ := h
    obtain ⟨rfl, ι'', h1, h2⟩ := back_sound hb hr hv hg
    exact ⟨ι'', h1, h2⟩
  | panicked _ => exact h
  | outgrown => exact h

theorem callA_func (hrec : RecSound P rec) {f : FuncId} {args args' : List Value} {v : Value} {σ' : St} (h : callA rec (.func f) args σ = some (v, σ')) (hr : Rep ι σ w) (ha : VRs ι args args') :
    (∃ fn, P.funcs[f]? = some fn ∧ fn.body.isSome = true ∧ fn.name ≠ "runtime.NumGoroutine") ∧ ∀ rd n, CallsIn (Fw rd) n P f ⟨args'⟩ w (RetR ι σ w v σ') := by
  unfold callA at h
  split at h
  · cases h
  · rename_i v₁ σ₁ hc
    obtain ⟨h1, h2⟩ := hrec.func _ _ _ _ _ hc ι w args' (hr.relow _) ha
    exact ⟨h1, fun rd n => callsIn_rd (CallsIn.mono (h2 n) (fun e w' => RetR.mono hr h))⟩

theorem callA_yield (hrec : RecSound P rec) {l : Nat} {args args' : List Value} {v : Value} {σ' : St} {L : Loc} (h : callA rec (.yield l) args σ = some (v, σ')) (hr : Rep ι σ w) (ha : VRs ι args args') (hl : ι.loc l 0 = some L) :
    ∀ rd n, ∃ fn tmps as bo, (Instr.yield L.c ⟨args'⟩).run P w = .ok (.round L.c fn tmps as bo) w ∧ RoundIn (Fw rd) n P L.c fn tmps as bo w (RetR ι σ w v σ') := by
  unfold callA at h
  split at h
  · cases h
  · rename_i v₁ σ₁ hc
    intro rd n
    obtain ⟨fn, tmps, as, bo, h1, h2⟩ := hrec.yield _ _ _ _ _ hc ι w args' L (hr.relow _) ha hl n
    exact ⟨fn, tmps, as, bo, h1, roundIn_rd (RoundIn.mono h2 (fun e w' => RetR.mono hr h))⟩

/-! ### Operands -/
theorem aeval_sound {f : Tm} {a : Act} (h : TmR ι f a.tmps) {x : Operand} (hx : constOk x = true) : VR ι (aeval f x) (a.eval x) := by
  cases x with
  | tmp t => exact h.2 t
  | const v => exact .refl_rigid _ hx
  | global g => exact .any rfl
  | func g => exact .func (.func g) rfl (fun i v v' h => by simp at h) rfl (fun i v v' h => by simp at h)

theorem opsOk {o : Oper} (h : operOk o = true) {x : Operand} (hx : x ∈ o.op.operands) : constOk x = true :=
  List.all_eq_true.1 h x (by simpa using hx)

theorem NextV.upon {rd : Option Nat} {n : Nat} {o : Oper} {a : Act} {next : Act → World → Prop} {Q : Exit → Act → World → Prop} {nx : Next} {v' : Value} {w' : World} (h : NextV nx v') (hn : next (a.put o.dst v') w') :
    o.uponIn (Fw rd) n P a next Q (.ok nx w') := by
  cases h with
  | value => exact hn
  | skip => exact hn

theorem wp_of_run {rd : Option Nat} {n : Nat} {o : Oper} {a : Act} {next : Act → World → Prop} {Q : Exit → Act → World → Prop} {nx : Next} {v' : Value} {w' : World} (hd : ∀ c, o.op ≠ .defer c)
    (hrun : (execOp a.eval o).run P w = .ok nx w') (h : NextV nx v') (hn : next (a.put o.dst v') w') : o.wpIn (Fw rd) n P a w next Q := by
  refine ⟨fun f _ => Fw_fn rd f, ?_⟩
  rw [Oper.semAt_eq _ _ _ hd, hrun]
  exact h.upon hn

theorem bif_some {α : Type} {c : Bool} {x : Option α} {z : α} (h : (bif c then x else none) = some z) : c = true ∧ x = some z := by cases c <;> simp_all
theorem bif_cases {α : Type} {c : Bool} {x y : Option α} {z : α} (h : (bif c then x else y) = some z) : (c = true ∧ x = some z) ∨ (c = false ∧ y = some z) := by cases c <;> simp_all

theorem writeRow_next {a : Addr} {vs : List Value} {σ' : St} (h : writeRow σ a vs = some σ') : σ.q ≤ σ'.q := by
  unfold writeRow at h
  split at h
  · split at h
    · obtain ⟨_, h⟩ := bif_some h
      rw [fVs_eq, St.write_eq] at h; simp at h; rw [← h]; simp
    · cases h
  · cases h

theorem appRows_next {n : Nat} {base : Option Addr} {len cap cnt : Nat} {cs : List Value} {v : Value} {σ' : St} (h : appRows σ n base len cap cnt cs = some (v, σ')) : σ.q ≤ σ'.q := by
  unfold appRows at h
  rcases bif_cases h with ⟨_, h⟩ | ⟨_, h⟩
  · split at h
    · obtain ⟨_, h⟩ := bif_some h
      simp at h; rw [← h.2]; exact Nat.le_refl _
    · rcases bif_cases h with ⟨_, h⟩ | ⟨_, h⟩
      · simp at h; rw [← h.2]; exact Nat.le_refl _
      · simp only [Option.map_eq_some_iff] at h
        obtain ⟨σ₁, h1, h2⟩ := h
        simp at h2; rw [← h2.2]; exact writeRow_next h1
  · rcases bif_cases h with ⟨_, h⟩ | ⟨_, h⟩
    · split at h
      · obtain ⟨_, h⟩ := bif_some h
        rw [newRow_eq] at h; simp at h; rw [← h.2]; simp
      · split at h
        · rw [newRow_eq] at h; simp at h; rw [← h.2]; simp
        · cases h
    · split at h
      · cases h
      · unfold appGrow at h
        split at h
        · split at h
          · obtain ⟨_, h⟩ := bif_some h
            rw [fVs_eq, fN_eq, fN_eq, St.write_eq] at h; simp at h; rw [← h.2]; simp
          · cases h
        · cases h

theorem effOp_next {o : Op} {ev : Operand → Value} {v : Value} {σ' : St} (h : effOp P ev σ o = some (v, σ')) : σ.q ≤ σ'.q := by
  unfold effOp at h
  split at h
  · split at h
    · rw [fN_eq, newRow_eq] at h; simp at h; rw [← h.2]; simp
    · cases h
  · rw [fN_eq, newRow_eq] at h; simp at h; rw [← h.2]; simp
  · split at h
    · split at h
      · obtain ⟨_, h⟩ := bif_some h
        split at h
        · rw [newRow_eq] at h; simp at h; rw [← h.2]; simp
        · cases h
      · cases h
    · cases h
  · split at h
    · split at h
      · rw [St.new_eq] at h; simp at h; rw [← h.2]; simp
      · cases h
    · split at h
      · rw [St.new_eq] at h; simp at h; rw [← h.2]; simp
      · cases h
  · split at h
    · split at h
      · obtain ⟨_, h⟩ := bif_some h
        rw [newRow_eq] at h; simp at h; rw [← h.2]; simp
      · cases h
    · cases h
  · split at h
    · simp only [Option.map_eq_some_iff] at h
      obtain ⟨σ₁, h1, h2⟩ := h
      simp at h2; rw [← h2.2]
      unfold storeA at h1
      split at h1
      · obtain ⟨_, h1⟩ := bif_some h1
        exact writeRow_next h1
      · cases h1
    · cases h
  · split at h
    · split at h
      · obtain ⟨_, h⟩ := bif_some h
        split at h
        · split at h
          · obtain ⟨_, h⟩ := bif_some h
            rw [St.write_eq] at h; simp at h; rw [← h.2]; simp
          · cases h
        · rw [St.write_eq] at h; simp at h; rw [← h.2]; simp
        · cases h
      · cases h
    · cases h
  · split at h
    · split at h
      · obtain ⟨_, h⟩ := bif_some h
        split at h
        · split at h
          · obtain ⟨_, h⟩ := bif_some h
            rw [St.write_eq] at h; simp at h; rw [← h.2]; simp
          · cases h
        · rw [St.write_eq] at h; simp at h; rw [← h.2]; simp
        · cases h
      · cases h
    · cases h
  · split at h
    · split at h
      · unfold appendA at h
        split at h
        · split at h
          · split at h
            · split at h
              · obtain ⟨_, h⟩ := bif_some h
                exact appRows_next h
              · cases h
            · cases h
          · cases h
        · cases h
      · cases h
    · split at h
      · split at h
        · split at h
          · split at h
            · simp at h; rw [← h.2]; exact Nat.le_refl _
            · rcases bif_cases h with ⟨_, h⟩ | ⟨_, h⟩
              · simp at h; rw [← h.2]; exact Nat.le_refl _
              · simp only [Option.map_eq_some_iff] at h
                obtain ⟨σ₁, h1, h2⟩ := h
                simp at h2; rw [← h2.2]; exact writeRow_next h1
          · cases h
        · cases h
      · cases h
    · split at h
      · simp only [Option.map_eq_some_iff] at h
        obtain ⟨v0, h1, h2⟩ := h
        simp at h2; rw [← h2.2]; exact Nat.le_refl _
      · cases h
    · cases h
  · cases h
end
end Go.Lay

/-! Op: Every operation, in the calculus of walks. -/
namespace Go.Lay
open Go
section
variable {P : Program} {ι : Inj} {σ : St} {w : World} {rec : Rec}

theorem with_some {o : Option Value} {v : Value} {σ' : St} (h : with_ σ o = some (v, σ')) : o = some v ∧ σ' = σ := by
  cases o with
  | none => simp [with_] at h
  | some x => simp [with_] at h; exact ⟨by rw [h.1], h.2.symm⟩

theorem callVal_sound (hrec : RecSound P rec) {o : Oper} {ev : Operand → Value} {a : Act} {c : Call} {fx : Operand} {v : Value} {σ' : St} {rd : Option Nat} {n : Nat} {next : Act → World → Prop} {Q : Exit → Act → World → Prop} {r : FnRef} {as : List Value}
    (ho : o.op = .call c) (hc : c.callee = .value fx) (href : refOf (ev fx) (c.args.toList.map ev) = some (r, as)) (h : callA rec r as σ = some (v, σ')) (hr : Rep ι σ w) (hev : ∀ x ∈ o.op.operands, VR ι (ev x) (a.eval x))
    (hn : ∀ v' w' ι', VR ι' v v' → Good ι σ w ι' σ' w' → next (a.put o.dst v') w') : o.wpIn (Fw rd) n P a w next Q := by
  have hf := hev fx (by simp [ho, Op.operands, Call.operands, hc])
  have hargs := ev_list c.args.toList (ev := ev) (ev' := a.eval) (fun x hx => hev x (by simp [ho, Op.operands, Call.operands, hc] at hx ⊢; exact .inr hx))
  have eargs : c.args.map a.eval = (⟨c.args.toList.map a.eval⟩ : Array Value) := by apply Array.ext'; simp
  obtain ⟨as', has, hcase⟩ := call_run (P := P) href hf hargs
  have hd : ∀ c', o.op ≠ .defer c' := fun c' => by rw [ho]; simp
  refine ⟨fun f _ => Fw_fn rd f, ?_⟩
  rw [Oper.semAt_eq _ _ _ hd]
  have hsem : ∀ {d : Deferred}, (∀ w, (Deferred.ofValue (a.eval fx) ⟨c.args.toList.map a.eval⟩).run P w = .ok d w) → (execOp a.eval o).run P w = (invoke d.target d.args).run P w := by
    intro d hd
    simp only [execOp, ho, resolve, hc, eargs, Sem.run_bind, hd, Result.andThen_ok]
  rcases hcase with ⟨f, cap, rfl, d, hd1, hd2, hd3⟩ | ⟨l, L, cap, rfl, hl, d, hd1, hd2, hd3⟩
  · obtain ⟨⟨fn, hfn, hbody, hname⟩, hcall⟩ := callA_func hrec h hr has
    have hrun : (execOp a.eval o).run P w = .ok (.enter f ⟨as'⟩) w := by
      rw [hsem hd1, hd2]
      have hb : fn.body ≠ none := by cases hb : fn.body <;> simp_all
      simp [invoke, callFunc, hfn, hb, hname, hd3]
    rw [hrun, Oper.uponIn_enter]
    exact ⟨fun hs => Fw_depth rd hs n, CallsIn.mono (hcall rd _) (fun e w' hR => by
      cases e with
      | returned v' => obtain ⟨ι', h1, h2⟩ := hR; exact hn v' w' ι' h1 h2
      | panicked _ => exact hR.elim
      | outgrown => exact hR.elim)⟩
  · obtain ⟨fn, tmps, as₁, bo, hy, hround⟩ := callA_yield hrec h hr has hl rd (n - 1)
    have hrun : (execOp a.eval o).run P w = .ok (.round L.c fn tmps as₁ bo) w := by
      rw [hsem hd1, hd2]
      simp only [invoke, hd3]; exact hy
    rw [hrun, Oper.uponIn_round]
    exact ⟨fun hs => Fw_depth rd hs n, RoundIn.mono hround (fun e w' hR => by
      cases e with
      | returned v' => obtain ⟨ι', h1, h2⟩ := hR; exact hn v' w' ι' h1 h2
      | panicked _ => exact hR.elim
      | outgrown => exact hR.elim)⟩

theorem EffOut.wp {o : Oper} {a : Act} {v : Value} {σ' : St} {rd : Option Nat} {n : Nat} {next : Act → World → Prop} {Q : Exit → Act → World → Prop} (hd : ∀ c, o.op ≠ .defer c) (h : EffOut P ι σ w v σ' (execOp a.eval o))
    (hn : ∀ v' w' ι', VR ι' v v' → Good ι σ w ι' σ' w' → next (a.put o.dst v') w') : o.wpIn (Fw rd) n P a w next Q := by
  obtain ⟨nx, v', w', ι', h1, h2, h3, h4⟩ := h
  exact wp_of_run hd h1 h2 (hn v' w' ι' h3 h4)

theorem valOp_wp (hz : zeroOk P) {o : Oper} {ev : Operand → Value} {a : Act} {v : Value} {rd : Option Nat} {n : Nat} {next : Act → World → Prop} {Q : Exit → Act → World → Prop} (h : valOp P ev o.op = some v) (hev : ∀ x ∈ o.op.operands, VR ι (ev x) (a.eval x))
    (hn : ∀ v', VR ι v v' → next (a.put o.dst v') w) : o.wpIn (Fw rd) n P a w next Q := by
  obtain ⟨v', h1, h2⟩ := valOp_sound hz h hev
  refine wp_of_run (fun c hc => ?_) (h1 w) (.value _) (hn v' h2)
  rw [hc] at h; simp [valOp] at h
theorem lookOp_wp (hz : zeroOk P) {o : Oper} {ev : Operand → Value} {a : Act} {v : Value} {rd : Option Nat} {n : Nat} {next : Act → World → Prop} {Q : Exit → Act → World → Prop} (h : lookOp P ev σ o.op = some v) (hr : Rep ι σ w) (hev : ∀ x ∈ o.op.operands, VR ι (ev x) (a.eval x))
    (hn : ∀ v', VR ι v v' → next (a.put o.dst v') w) : o.wpIn (Fw rd) n P a w next Q := by
  obtain ⟨v', h1, h2⟩ := lookOp_sound hz h hr hev
  refine wp_of_run (fun c hc => ?_) h1 (.value _) (hn v' h2)
  rw [hc] at h; simp [lookOp] at h

theorem seeOp_wp (hz : zeroOk P) {o : Oper} {ev : Operand → Value} {a : Act} {v : Value} {rd : Option Nat} {n : Nat} {next : Act → World → Prop} {Q : Exit → Act → World → Prop} (h : seeOp P ev σ o.op = some v) (hr : Rep ι σ w) (hev : ∀ x ∈ o.op.operands, VR ι (ev x) (a.eval x))
    (hn : ∀ v', VR ι v v' → next (a.put o.dst v') w) : o.wpIn (Fw rd) n P a w next Q := by
  unfold seeOp at h
  split at h
  · rename_i v0 hv; cases h; exact valOp_wp hz hv hev hn
  · exact lookOp_wp hz h hr hev hn

/-- Does it act, in opA's eyes? -/
theorem opA_acts {o : Op} {ev : Operand → Value} {v : Value} {σ' : St} (h : opA P rec ev σ o = some (v, σ')) :
    (actsB o = true ∧ ((∃ c fx r as, o = .call c ∧ c.callee = .value fx ∧ refOf (ev fx) (c.args.toList.map ev) = some (r, as) ∧ callA rec r as σ = some (v, σ')) ∨ effOp P ev σ o = some (v, σ') ∨ (valOp P ev o = some v ∧ σ' = σ))) ∨
    (actsB o = false ∧ looksB o = true ∧ seeOp P ev σ o = some v ∧ σ' = σ) ∨ (actsB o = false ∧ looksB o = false ∧ valOp P ev o = some v ∧ σ' = σ) := by
  unfold opA at h
  split at h
  · rename_i c
    unfold callOp at h
    split at h
    · rename_i fx hc
      split at h
      · rename_i r as href
        split at h
        · rename_i v0 hx
          refine .inl ⟨by simp [actsB, hc], .inr (.inl ?_)⟩
          simp only [effOp, hc, href, hx, Option.map_some]; exact h
        · refine .inl ⟨by simp [actsB, hc], .inl ⟨c, fx, r, as, rfl, hc, href, h⟩⟩
      · cases h
    · rename_i hc; exact .inl ⟨by simp [actsB, hc], .inr (.inl h)⟩
    · rename_i hc; exact .inl ⟨by simp [actsB, hc], .inr (.inl h)⟩
    · rename_i hc
      refine .inr (.inl ⟨by simp [actsB, hc], by simp [looksB, hc], ?_⟩)
      split at h
      · rename_i v0 hv
        simp at h; obtain ⟨rfl, rfl⟩ := h
        exact ⟨by simp [seeOp, hv], rfl⟩
      · rename_i hv
        obtain ⟨h1, h2⟩ := with_some h
        exact ⟨by simp [seeOp, hv, h1], h2⟩
    · rename_i b _ _ hlen hc
      obtain ⟨h1, h2⟩ := with_some h
      cases hb : actsB (.call c) with
      | true => exact .inl ⟨rfl, .inr (.inr ⟨h1, h2⟩)⟩
      | false =>
        refine .inr (.inr ⟨rfl, ?_, h1, h2⟩)
        simp only [looksB, hc]
        cases b <;> first | rfl | exact absurd rfl hlen
    · cases h
  · obtain ⟨h1, h2⟩ := with_some h; exact .inr (.inl ⟨rfl, rfl, by simp [seeOp, valOp, h1], h2⟩)
  · obtain ⟨h1, h2⟩ := with_some h; exact .inr (.inl ⟨rfl, rfl, by simp [seeOp, valOp, h1], h2⟩)
  · obtain ⟨h1, h2⟩ := with_some h; exact .inr (.inl ⟨rfl, rfl, by simp [seeOp, valOp, h1], h2⟩)
  · split at h
    · rename_i v0 hv
      simp at h; obtain ⟨rfl, rfl⟩ := h
      exact .inr (.inl ⟨rfl, rfl, by simp [seeOp, hv], rfl⟩)
    · rename_i hv
      obtain ⟨h1, h2⟩ := with_some h
      exact .inr (.inl ⟨rfl, rfl, by simp [seeOp, hv, h1], h2⟩)
  · rename_i hn1 hn2 hn3 hn4 hn5
    rcases bif_cases h with ⟨he, h⟩ | ⟨he, h⟩
    · refine .inl ⟨?_, .inr (.inl h)⟩
      cases o <;> first | exact he | exact absurd rfl (hn1 _)
    · obtain ⟨h1, h2⟩ := with_some h
      refine .inr (.inr ⟨?_, ?_, h1, h2⟩)
      · cases o <;> first | exact he | exact absurd rfl (hn1 _)
      · cases o <;> first | rfl | exact absurd rfl (hn1 _) | exact absurd rfl (hn2 _ _) | exact absurd rfl (hn3 _ _ _ _) | exact absurd rfl (hn4 _ _ _ _ _) | exact absurd rfl (hn5 _ _ _)

theorem opA_sound (hz : zeroOk P) (hrec : RecSound P rec) {o : Oper} {ev : Operand → Value} {a : Act} {v : Value} {σ' : St} {rd : Option Nat} {n : Nat} {next : Act → World → Prop} {Q : Exit → Act → World → Prop}
    (h : opA P rec ev σ o.op = some (v, σ')) (hr : Rep ι σ w) (hev : ∀ x ∈ o.op.operands, VR ι (ev x) (a.eval x))
    (hn : ∀ v' w' ι', VR ι' v v' → Good ι σ w ι' σ' w' → next (a.put o.dst v') w') : o.wpIn (Fw rd) n P a w next Q := by
  rcases opA_acts h with ⟨ha, ⟨c, fx, r, as, ho, hc, href, hcall⟩ | heff | ⟨hval, rfl⟩⟩ | ⟨_, _, hsee, rfl⟩ | ⟨_, _, hval, rfl⟩
  · exact callVal_sound hrec ho hc href hcall hr hev hn
  · refine EffOut.wp (fun c hc => ?_) (effOp_sound hz heff hr (hr.free _) hev) hn
    rw [hc] at heff; simp [effOp] at heff
  · exact valOp_wp hz hval hev (fun v' hv => hn v' w ι hv (.refl hr))
  · exact seeOp_wp hz hsee hr hev (fun v' hv => hn v' w ι hv (.refl hr))
  · exact valOp_wp hz hval hev (fun v' hv => hn v' w ι hv (.refl hr))

theorem opA_next {o : Op} {ev : Operand → Value} {v : Value} {σ' : St} (h : opA P rec ev σ o = some (v, σ')) : σ.q ≤ σ'.q := by
  rcases opA_acts h with ⟨ha, ⟨c, fx, r, as, ho, hc, href, hcall⟩ | heff | ⟨hval, rfl⟩⟩ | ⟨_, _, hsee, rfl⟩ | ⟨_, _, hval, rfl⟩
  · exact callA_next hcall
  · exact effOp_next heff
  · exact Nat.le_refl _
  · exact Nat.le_refl _
  · exact Nat.le_refl _

/-! ### Guards -/
theorem guardA_sound {ops : Array Oper} {f : Tm} {o : Oper} {a : Act} {b : Bool} (h : guardA ops f o = some b) (hf : ∀ j want d, o.guard = some (j, want) → (ops[j]?).bind (·.dst) = some d → VR ι (f.nth d) (a.tmps.getD d undef)) :
    Region.wanted o (yielded ops a.tmps) = b := by
  unfold guardA at h
  unfold Region.wanted
  split at h
  · rename_i hg; simp at h; subst h; simp [hg]
  · rename_i j want hg
    simp only [hg]
    split at h
    · rename_i d hd
      have hv := hf j want d hg hd
      split at h
      · rename_i b0 hb0
        simp at h; subst h
        rw [hb0] at hv
        have := hv.bool_inv
        unfold yielded
        simp only [hd, Option.bind_some]
        cases ht : a.tmps[d]? with
        | none => simp [Array.getD, undef] at this; rw [Array.getElem?_eq_none_iff] at ht; split at this <;> simp_all; omega
        | some x =>
          have hx : a.tmps.getD d undef = x := by simp [ht]
          rw [hx] at this; subst this
          simp
      · rename_i c hc
        simp at h; subst h
        rw [hc] at hv
        obtain ⟨c', e, _⟩ := hv.tuple_inv
        unfold yielded
        simp only [hd, Option.bind_some]
        cases ht : a.tmps[d]? with
        | none => rfl
        | some x =>
          have hx : a.tmps.getD d undef = x := by simp [ht]
          rw [hx] at e; subst e
          rfl
      · cases h
    · cases h
end
end Go.Lay

/-! Draw: Regions that draw their order: the text of a region; the run in the order of the text. -/
namespace Go.Lay
open Go

/-! ### What comes before what -/
theorem fold_testBit (look : Nat → Nat) (i : Nat) : ∀ (l : List Edge) (s : Nat), (l.foldl (fun s e => if Region.binds .any e then s ||| 2 ^ e.on ||| look e.on else s) s).testBit i = true →
    s.testBit i = true ∨ ∃ e ∈ l, Region.binds .any e = true ∧ (e.on = i ∨ (look e.on).testBit i = true)
  | [], s, h => .inl h
  | e :: l, s, h => by
    rw [List.foldl_cons] at h
    rcases fold_testBit look i l _ h with h | ⟨e', h1, h2⟩
    · by_cases hb : Region.binds .any e = true
      · rw [if_pos hb] at h
        simp only [Nat.testBit_or, Bool.or_eq_true, Nat.testBit_two_pow, decide_eq_true_eq] at h
        rcases h with (h | h) | h
        · exact .inl h
        · exact .inr ⟨e, by simp, hb, .inl h⟩
        · exact .inr ⟨e, by simp, hb, .inr h⟩
      · rw [if_neg hb] at h; exact .inl h
    · exact .inr ⟨e', by simp [h1], h2⟩
theorem one_testBit {look : Nat → Nat} {o : Oper} {i : Nat} (h : (CheckFast.one look o).testBit i = true) : ∃ e ∈ o.after.toList, Region.binds .any e = true ∧ (e.on = i ∨ (look e.on).testBit i = true) := by
  unfold CheckFast.one at h
  rw [← Array.foldl_toList] at h
  rcases fold_testBit look i o.after.toList 0 h with h | h
  · simp at h
  · exact h

theorem foldB : ∀ (l : List Oper) (A : Array Nat), (l.foldl (fun acc o => acc.push (CheckFast.one (fun i => acc.getD i 0) o)) A).size = A.size + l.length ∧
    (∀ k, k < A.size → (l.foldl (fun acc o => acc.push (CheckFast.one (fun i => acc.getD i 0) o)) A)[k]? = A[k]?) ∧
    ∀ k o, l[k]? = some o → ∃ C : Array Nat, (∀ m, m < A.size + k → C[m]? = (l.foldl (fun acc o => acc.push (CheckFast.one (fun i => acc.getD i 0) o)) A)[m]?) ∧
      (l.foldl (fun acc o => acc.push (CheckFast.one (fun i => acc.getD i 0) o)) A)[A.size + k]? = some (CheckFast.one (fun i => C.getD i 0) o)
  | [], A => ⟨by simp, fun _ _ => rfl, fun k o h => by simp at h⟩
  | x :: l, A => by
    have ih := foldB l (A.push (CheckFast.one (fun i => A.getD i 0) x))
    simp only [List.foldl_cons]
    obtain ⟨h1, h2, h3⟩ := ih
    simp only [Array.size_push] at h1 h2 h3
    refine ⟨by rw [h1]; simp; omega, fun k hk => by rw [h2 k (by omega), Array.getElem?_push, if_neg (by omega)], fun k o hk => ?_⟩
    cases k with
    | zero =>
      simp at hk; subst hk
      refine ⟨A, fun m hm => by rw [h2 m (by omega), Array.getElem?_push, if_neg (by omega)], ?_⟩
      rw [Nat.add_zero, h2 _ (by omega), Array.getElem?_push, if_pos rfl]
    | succ k =>
      simp only [List.getElem?_cons_succ] at hk
      obtain ⟨C, c1, c2⟩ := h3 k o hk
      exact ⟨C, fun m hm => c1 m (by omega), by rw [show A.size + (k + 1) = A.size + 1 + k by omega]; exact c2⟩

theorem pre_step {ops : Array Oper} {i j : Nat} {o : Oper} (ho : ops[j]? = some o) (hb : ∀ e ∈ o.after.toList, Region.binds .any e = true → e.on < j) (h : pre (CheckFast.beforeF ops) i j = true) :
    ∃ e ∈ o.after.toList, Region.binds .any e = true ∧ (e.on = i ∨ pre (CheckFast.beforeF ops) i e.on = true) := by
  rw [CheckFast.beforeF_eq] at h ⊢
  have hB : Region.before ops = ops.toList.foldl (fun acc o => acc.push (CheckFast.one (fun i => acc.getD i 0) o)) #[] := by
    unfold Region.before
    rw [← Array.foldl_toList]; rfl
  obtain ⟨_, _, h3⟩ := foldB ops.toList #[]
  obtain ⟨C, c1, c2⟩ := h3 j o (by simpa using ho)
  rw [← hB] at c1 c2
  simp only [Array.size_empty, Nat.zero_add] at c1 c2
  unfold pre at h
  have hg : (Region.before ops).getD j 0 = CheckFast.one (fun i => C.getD i 0) o := by simp [c2]
  rw [hg] at h
  obtain ⟨e, h1, h2, h3⟩ := one_testBit h
  refine ⟨e, h1, h2, h3.imp id (fun h => ?_)⟩
  unfold pre
  have := c1 e.on (hb e h1 h2)
  simpa [this] using h

/-- What is asked of a region's text, as propositions. -/
structure DrawOk (ops : Array Oper) : Prop where
  back : ∀ (j : Nat) (o : Oper), ops[j]? = some o → ∀ e ∈ o.after.toList, Region.binds .any e = true → e.on < j
  guard : ∀ (j : Nat) (o : Oper), ops[j]? = some o → ∀ g want, o.guard = some (g, want) → ∃ e ∈ o.after.toList, Region.binds .any e = true ∧ e.on = g
  sel : ∀ (j : Nat) (o : Oper), ops[j]? = some o → ∀ cs b, o.op ≠ .select cs b
  acts : ∀ (i j : Nat) (oi oj : Oper), ops[i]? = some oi → ops[j]? = some oj → i < j → actsB oi.op = true → actsB oj.op = true → makesB oj.op = false → pre (CheckFast.beforeF ops) i j = true
  apart : ∀ (i j : Nat) (oi oj : Oper), ops[i]? = some oi → ops[j]? = some oj → i ≠ j → pre (CheckFast.beforeF ops) i j = false → pre (CheckFast.beforeF ops) j i = false → Oper.apart ops oi oj = true

theorem getD_of {ops : Array Oper} {j : Nat} {o : Oper} (h : ops[j]? = some o) : ops.getD j default = o ∧ j < ops.size := ⟨by simp [h], (Array.getElem?_eq_some_iff.1 h).1⟩

theorem drawOk_spec {ops : Array Oper} (h : drawOk ops (CheckFast.beforeF ops) = true) : DrawOk ops := by
  unfold drawOk at h
  have key : ∀ (j : Nat) (o : Oper), ops[j]? = some o → _ := fun j o ho => List.all_eq_true.1 h j (List.mem_range.2 (getD_of ho).2)
  refine ⟨fun j o ho e he hb => ?_, fun j o ho g want hg => ?_, fun j o ho cs b hs => ?_, fun i j oi oj hi hj hlt ha hb hm => ?_, fun i j oi oj hi hj hne h1 h2 => ?_⟩
  · have := key j o ho
    simp only [(getD_of ho).1, Bool.and_eq_true] at this
    have h1 := List.all_eq_true.1 this.1.1.1 e he
    rw [hb] at h1; simpa using h1
  · have := key j o ho
    simp only [(getD_of ho).1, Bool.and_eq_true, hg] at this
    obtain ⟨e, h1, h2⟩ := List.any_eq_true.1 this.1.1.2
    simp only [Bool.and_eq_true] at h2
    exact ⟨e, h1, h2.1, Nat.eq_of_beq_eq_true h2.2⟩
  · have := key j o ho
    simp only [(getD_of ho).1, Bool.and_eq_true, hs] at this
    simp at this
  · have := key j oj hj
    simp only [(getD_of hj).1, Bool.and_eq_true] at this
    have h1 := List.all_eq_true.1 this.2 i (List.mem_range.2 (getD_of hi).2)
    simp only [(getD_of hi).1, Bool.and_eq_true, ha, hb, hm] at h1
    have hl : Nat.blt i j = true := (ble_iff _ _).2 hlt
    simpa [hl] using h1.1
  · have := key j oj hj
    simp only [(getD_of hj).1, Bool.and_eq_true] at this
    have h3 := List.all_eq_true.1 this.2 i (List.mem_range.2 (getD_of hi).2)
    simp only [(getD_of hi).1, Bool.and_eq_true] at h3
    have hb : Nat.beq i j = false := by rw [Bool.eq_false_iff]; intro e; exact hne (Nat.eq_of_beq_eq_true e)
    simpa [hb, apartB, h1, h2] using h3.2

section
variable {ops : Array Oper} (D : DrawOk ops)
include D
/-- A set of operations that holds with each one all that it waits for. -/
def Closed (ops : Array Oper) (X : Nat → Prop) : Prop := ∀ (j : Nat) (o : Oper), X j → ops[j]? = some o → ∀ e ∈ o.after.toList, Region.binds .any e = true → X e.on
theorem pre_in {X : Nat → Prop} (hX : Closed ops X) : ∀ (j : Nat) (o : Oper), ops[j]? = some o → (∀ e ∈ o.after.toList, Region.binds .any e = true → X e.on) → ∀ i, pre (CheckFast.beforeF ops) i j = true → X i := by
  intro j
  induction j using Nat.strongRecOn with
  | _ j ih =>
    intro o ho hdep i hp
    obtain ⟨e, h1, h2, h3⟩ := pre_step ho (D.back j o ho) hp
    have hx := hdep e h1 h2
    rcases h3 with rfl | h3
    · exact hx
    · have hlt := D.back j o ho e h1 h2
      have hlt2 : j < ops.size := (getD_of ho).2
      have ho2 : ops[e.on]? = some ops[e.on] := by simp
      exact ih e.on hlt _ ho2 (fun e' he' hb' => hX e.on _ hx ho2 e' he' hb') i h3
theorem pre_lt (i j : Nat) (hj : j < ops.size) (hp : pre (CheckFast.beforeF ops) i j = true) : i < j := by
  have ho : ops[j]? = some ops[j] := by simp [hj]
  have := pre_in D (X := fun i => i < j) (fun k o hk ho e he hb => Nat.lt_trans (D.back k o ho e he hb) hk) j _ ho (fun e he hb => D.back j _ ho e he hb) i hp
  exact this
end

/-! ### The run in the order of the text -/
def setO (f : Tm) (dst : Option Tmp) (v : Value) : Tm := match dst with | some d => f.set d v | none => f
theorem putA_eq {β : Type} (f : Tm) (dst : Option Tmp) (v : Value) (k : Tm → β) : putA f dst v k = k (setO f dst v) := by
  cases dst with
  | none => rfl
  | some d => exact Tm.put_eq f d v k

def frL (l : List Seen) (t : Tm) (i : Nat) : Tm := match l[i]? with | some s => s.f | none => t
def stL (l : List Seen) (τ : St) (i : Nat) : St := match l[i]? with | some s => s.before | none => τ

structure SeqD (P : Program) (rec : Rec) (ops : Array Oper) (rest : List Oper) (l : List Seen) (t : Tm) (τ : St) : Prop where
  len : l.length = rest.length
  step : ∀ (i : Nat) (o : Oper), rest[i]? = some o → ∃ s, l[i]? = some s ∧ s.f = frL l t i ∧ s.before = stL l τ i ∧ s.after = stL l τ (i + 1) ∧ frL l t (i + 1) = setO (frL l t i) o.dst s.v ∧ guardA ops (frL l t i) o = some s.want ∧
    (s.want = true → opA P rec (aeval (frL l t i)) (stL l τ i) o.op = some (s.v, stL l τ (i + 1))) ∧ (s.want = false → s.v = undef ∧ stL l τ (i + 1) = stL l τ i)

theorem seenA_spec {P : Program} {rec : Rec} {ops : Array Oper} : ∀ (rest : List Oper) (f : Tm) (σ : St) (l : List Seen) (t : Tm) (τ : St), seenA P rec ops rest f σ = some (l, t, τ) →
    frL l t 0 = f ∧ stL l τ 0 = σ ∧ SeqD P rec ops rest l t τ
  | [], f, σ, l, t, τ, h => by
    simp [seenA] at h; obtain ⟨rfl, rfl, rfl⟩ := h
    exact ⟨rfl, rfl, rfl, fun i o h => by simp at h⟩
  | o :: rest, f, σ, l, t, τ, h => by
    have fin : ∀ (v : Value) (want : Bool) (σ' : St) (l' : List Seen), guardA ops f o = some want → (want = true → opA P rec (aeval f) σ o.op = some (v, σ')) → (want = false → v = undef ∧ σ' = σ) →
        seenA P rec ops rest (setO f o.dst v) σ' = some (l', t, τ) → l = ⟨f, v, want, σ, σ'⟩ :: l' → frL l t 0 = f ∧ stL l τ 0 = σ ∧ SeqD P rec ops (o :: rest) l t τ := by
      intro v want σ' l' hg h1 h2 hrec hl
      obtain ⟨e1, e2, e3⟩ := seenA_spec rest _ _ _ _ _ hrec
      subst hl
      refine ⟨rfl, rfl, by simp [e3.len], fun i o' ho' => ?_⟩
      cases i with
      | zero =>
        simp at ho'; subst ho'
        have f1 : frL (⟨f, v, want, σ, σ'⟩ :: l') t (0 + 1) = setO f o.dst v := e1
        have s1 : stL (⟨f, v, want, σ, σ'⟩ :: l') τ (0 + 1) = σ' := e2
        rw [f1, s1]
        exact ⟨_, rfl, rfl, rfl, rfl, rfl, hg, h1, h2⟩
      | succ i =>
        exact e3.step i o' (by simpa using ho')
    unfold seenA at h
    split at h
    · rename_i hg
      split at h
      · rename_i v σ' hop
        rw [fV_eq, putA_eq] at h
        split at h
        · rename_i l' t' τ' hs
          simp at h; obtain ⟨rfl, rfl, rfl⟩ := h
          exact fin v true σ' l' hg (fun _ => hop) (fun h => by cases h) hs rfl
        · cases h
      · cases h
    · rename_i hg
      rw [putA_eq] at h
      split at h
      · rename_i l' t' τ' hs
        simp at h; obtain ⟨rfl, rfl, rfl⟩ := h
        exact fin undef false σ l' hg (fun h => by cases h) (fun _ => ⟨rfl, rfl⟩) hs rfl
      · cases h
    · cases h

theorem opsA_seen {P : Program} {rec : Rec} {ops : Array Oper} : ∀ (rest : List Oper) (f : Tm) (σ : St) (t : Tm) (τ : St), opsA P rec ops rest f σ = some (t, τ) → ∃ l, seenA P rec ops rest f σ = some (l, t, τ)
  | [], f, σ, t, τ, h => by simp [opsA] at h; obtain ⟨rfl, rfl⟩ := h; exact ⟨[], rfl⟩
  | o :: rest, f, σ, t, τ, h => by
    unfold opsA at h
    split at h
    · rename_i hg
      split at h
      · rename_i v σ' hop
        rw [putA_eq] at h
        obtain ⟨l, hl⟩ := opsA_seen rest _ _ _ _ h
        exact ⟨⟨f, v, true, σ, σ'⟩ :: l, by simp [seenA, hg, hop, fV_eq, putA_eq, hl]⟩
      · cases h
    · rename_i hg
      rw [putA_eq] at h
      obtain ⟨l, hl⟩ := opsA_seen rest _ _ _ _ h
      exact ⟨⟨f, undef, false, σ, σ⟩ :: l, by simp [seenA, hg, putA_eq, hl]⟩
    · cases h

theorem setO_n (f : Tm) (d : Option Tmp) (v : Value) : (setO f d v).n = f.n := by cases d <;> simp [setO]
theorem setO_nth (f : Tm) (d : Option Tmp) (v : Value) (t : Nat) : (setO f d v).nth t = if d = some t ∧ t < f.n then v else f.nth t := by
  cases d with
  | none => simp [setO]
  | some i =>
    simp only [setO, Tm.nth_set]
    by_cases h : t = i
    · subst h; simp
    · rw [if_neg (fun x => h x.1), if_neg (fun x => h (by simpa using x.1.symm))]

section
variable {P : Program} {rec : Rec} {ops : Array Oper} {l : List Seen} {t : Tm} {τ : St} (S : SeqD P rec ops ops.toList l t τ)
include S
theorem SeqD.at {i : Nat} {o : Oper} (ho : ops[i]? = some o) : ∃ s, l[i]? = some s ∧ s.f = frL l t i ∧ s.before = stL l τ i ∧ s.after = stL l τ (i + 1) ∧ frL l t (i + 1) = setO (frL l t i) o.dst s.v ∧ guardA ops (frL l t i) o = some s.want ∧
    (s.want = true → opA P rec (aeval (frL l t i)) (stL l τ i) o.op = some (s.v, stL l τ (i + 1))) ∧ (s.want = false → s.v = undef ∧ stL l τ (i + 1) = stL l τ i) := S.step i o (by simpa using ho)
theorem SeqD.frn : ∀ i, i ≤ ops.size → (frL l t i).n = (frL l t 0).n
  | 0, _ => rfl
  | i + 1, h => by
    obtain ⟨s, _, _, _, _, hf, _⟩ := S.at (i := i) (o := ops[i]) (by simp)
    rw [hf, setO_n, SeqD.frn i (by omega)]
theorem SeqD.mono : ∀ (i j : Nat), i ≤ j → j ≤ ops.size → (stL l τ i).q ≤ (stL l τ j).q := by
  intro i j hij
  induction hij with
  | refl => intro _; exact Nat.le_refl _
  | step h ih =>
    rename_i m
    intro hm
    have hm' : m + 1 ≤ ops.size := hm
    refine Nat.le_trans (ih (by omega)) ?_
    obtain ⟨s, _, _, _, _, _, _, h1, h2⟩ := S.at (i := m) (o := ops[m]) (by simp)
    cases hw : s.want with
    | true => exact opA_next (h1 hw)
    | false => rw [(h2 hw).2]; exact Nat.le_refl _
/-- Who wrote a temporary last. -/
theorem SeqD.last (t0 : Nat) (h0 : t0 < (frL l t 0).n) : ∀ j, j ≤ ops.size →
    (∃ i s, i < j ∧ (ops[i]?).bind (·.dst) = some t0 ∧ l[i]? = some s ∧ (frL l t j).nth t0 = s.v ∧ ∀ i', i < i' → i' < j → (ops[i']?).bind (·.dst) ≠ some t0) ∨
    ((∀ i, i < j → (ops[i]?).bind (·.dst) ≠ some t0) ∧ (frL l t j).nth t0 = (frL l t 0).nth t0)
  | 0, _ => .inr ⟨fun i h => absurd h (Nat.not_lt_zero _), rfl⟩
  | j + 1, hj => by
    have ho : ops[j]? = some ops[j] := by simp
    obtain ⟨s, hs, _, _, _, hf, _⟩ := S.at ho
    have hn := S.frn j (by omega)
    rw [hf]
    by_cases hd : ops[j].dst = some t0
    · refine .inl ⟨j, s, by omega, by rw [ho]; exact hd, hs, ?_, fun i' h1 h2 => by omega⟩
      rw [setO_nth, if_pos ⟨hd, by omega⟩]
    · rw [setO_nth, if_neg (fun x => hd x.1)]
      rcases SeqD.last t0 h0 j (by omega) with ⟨i, s', h1, h2, h3, h4, h5⟩ | ⟨h1, h2⟩
      · refine .inl ⟨i, s', by omega, h2, h3, h4, fun i' h6 h7 => ?_⟩
        by_cases he : i' = j
        · subst he; rw [ho]; exact hd
        · exact h5 i' h6 (by omega)
      · refine .inr ⟨fun i hi => ?_, h2⟩
        by_cases he : i = j
        · subst he; rw [ho]; exact hd
        · exact h1 i (by omega)
end
end Go.Lay

/-! Draw2: Regions that draw their order: what pends; what a frame holds. -/
namespace Go.Lay
open Go

/-! ### Values under numbers below n -/
theorem veq_eq : ∀ (n : Nat) (a b : Value), veq n a b = true → a = b := by
  intro n
  induction n with
  | zero => intro a b h; simp [veq] at h
  | succ n ih =>
    have lists : ∀ (l l' : List Value), veq.veqs n l l' = true → l = l' := by
      intro l
      induction l with
      | nil => intro l' h; cases l' with | nil => rfl | cons _ _ => simp [veq.veqs] at h
      | cons x l ihl =>
        intro l' h
        cases l' with
        | nil => simp [veq.veqs] at h
        | cons y l' =>
          simp only [veq.veqs, Bool.and_eq_true] at h
          rw [ih x y h.1, ihl l' h.2]
    intro a b h
    unfold veq at h
    split at h
    all_goals first | (rename_i hq; cases hq) | skip
    · have := eq_of_beq h; rw [this]
    · simp only [Bool.and_eq_true] at h
      have h1 := sameKind_eq h.1
      have h2 := h.2
      rw [eqI_eq] at h2
      have h3 := eq_of_beq h2
      rw [h1, h3]
    · rename_i a b
      have := of_decide_eq_true h
      have : a = b := by apply ByteArray.ext; apply Array.ext'; exact this
      rw [this]
    · rw [of_decide_eq_true h]
    · simp only [Bool.and_eq_true] at h
      rw [of_decide_eq_true h.1.1, Nat.eq_of_beq_eq_true h.1.2, Nat.eq_of_beq_eq_true h.2]
    · rw [of_decide_eq_true h]
    · rfl
    · rfl
    · have h1 := lists _ _ h
      congr 1; apply Array.ext'; exact h1
    · have h1 := lists _ _ h
      congr 1; apply Array.ext'; exact h1
    · simp only [Bool.and_eq_true] at h
      have h1 := lists _ _ h.1.2
      have h2 := lists _ _ h.2
      have h3 := Nat.eq_of_beq_eq_true h.1.1
      rw [h3]
      congr 1 <;> (apply Array.ext'; assumption)
    · simp only [Bool.and_eq_true] at h
      have h3 := Nat.eq_of_beq_eq_true h.1
      rw [h3, ih _ _ h.2]
    all_goals cases h

theorem blt_iff (a b : Nat) : Nat.blt a b = true ↔ a < b := ble_iff (a + 1) b

theorem VR.lower {κ κ' : Inj} {m : Nat} (hloc : ∀ b s L, b < m → κ.loc b s = some L → κ'.loc b s = some L) (hsz : ∀ b s L, κ.loc b s = some L → κ'.csz L.c = κ.csz L.c) :
    ∀ (d : Nat) {v v' : Value}, belowB d m v = true → VR κ v v' → VR κ' v v' := by
  intro d
  induction d with
  | zero => intro v v' h; simp [belowB] at h
  | succ d ih =>
    intro v v' hb h
    have arr : ∀ {c c' : Array Value}, (∀ (i : Nat) (v v' : Value), c[i]? = some v → c'[i]? = some v' → VR κ v v') → c.toList.all (belowB d m) = true → (∀ (i : Nat) (v v' : Value), c[i]? = some v → c'[i]? = some v' → VR κ' v v') := by
      intro c c' hh hall i v v' h1 h2
      exact ih (List.all_eq_true.1 hall _ (by simp [Array.mem_of_getElem? h1])) (hh i v v' h1 h2)
    cases h with
    | any h => exact .any h
    | atom h => exact .atom h
    | ptr h hlo => exact .ptr (hloc _ _ _ ((blt_iff _ _).1 (by simpa [belowB] using hb)) h) hlo
    | slice h hlo hA hc hs => exact .slice (hloc _ _ _ ((blt_iff _ _).1 (by simpa [belowB] using hb)) h) hlo hA hc (by rw [hsz _ _ _ h]; exact hs)
    | map h => exact .map (hloc _ _ _ ((blt_iff _ _).1 (by simpa [belowB] using hb)) h)
    | func hf s1 h1 s2 h2 =>
      cases hf with
      | func f =>
        simp only [belowB, Bool.and_eq_true] at hb
        exact .func (.func f) s1 (arr h1 hb.1.2) s2 (arr h2 hb.2)
      | yield hl =>
        simp only [belowB, Bool.and_eq_true] at hb
        exact .func (.yield (hloc _ _ _ ((blt_iff _ _).1 hb.1.1) hl)) s1 (arr h1 hb.1.2) s2 (arr h2 hb.2)
    | iface h => simp only [belowB] at hb; exact .iface (ih hb h)
    | agg s h => simp only [belowB] at hb; exact .agg s (arr h hb)
    | tuple s h => simp only [belowB] at hb; exact .tuple s (arr h hb)

/-! ### What pends -/
def Inj.plus (ι : Inj) (pend : Nat → Option Loc) : Inj :=
  { ι with loc := fun b s => if s = 0 then (match pend b with | some L => some L | none => ι.loc b 0) else ι.loc b s }
def cut (pend : Nat → Option Loc) (n : Nat) : Nat → Option Loc := fun b => if b < n then pend b else none
/-- A block is somebody's. -/
def Inj.owned (ι : Inj) (c b : Nat) : Inj := { ι with own := fun c' => if c' = c then some b else ι.own c' }
/-- What pended is there. -/
def Inj.commit (ι : Inj) (b : Nat) (L : Loc) : Inj :=
  { ι with loc := fun b' s => if b' = b ∧ s = 0 then some L else ι.loc b' s, own := fun c' => if c' = L.c then some b else ι.own c' }

theorem plus_sub {ι ι' : Inj} {pend pend' : Nat → Option Loc} (h : Sub ι ι') (hp : ∀ b L, pend b = some L → pend' b = some L) (hn : ∀ b L L', pend b = none → pend' b = some L → ι.loc b 0 = some L' → L' = L)
    (hs : ∀ b L, pend b = some L → ι'.csz L.c = ι.csz L.c) : Sub (ι.plus pend) (ι'.plus pend') := by
  refine ⟨fun b s L hL => ?_, fun b s L hL => ?_⟩
  · simp only [Inj.plus] at hL ⊢
    by_cases h0 : s = 0
    · subst h0
      rw [if_pos rfl] at hL ⊢
      cases hb : pend b with
      | some L1 => rw [hb] at hL; simp only [hp b L1 hb]; exact hL
      | none =>
        rw [hb] at hL
        cases hb' : pend' b with
        | some L1 => simp only; rw [hn b L1 L hb hb' hL]
        | none => exact h.loc _ _ _ hL
    · rw [if_neg h0] at hL ⊢; exact h.loc _ _ _ hL
  · simp only [Inj.plus] at hL
    by_cases h0 : s = 0
    · subst h0
      rw [if_pos rfl] at hL
      cases hb : pend b with
      | some L1 => rw [hb] at hL; cases hL; exact hs b L hb
      | none => rw [hb] at hL; exact h.sz _ _ _ hL
    · rw [if_neg h0] at hL; exact h.sz _ _ _ hL

section
variable (ops : Array Oper) (l : List Seen) (f0 : Tm)
/-- What a frame holds when the operations of X have been run. -/
structure FrOk (X : Nat → Prop) (κ : Inj) (tmps : Array Value) : Prop where
  size : f0.n = tmps.size
  val : ∀ t0, t0 < f0.n →
    (∃ i s, X i ∧ (ops[i]?).bind (·.dst) = some t0 ∧ l[i]? = some s ∧ (∀ i', X i' → (ops[i']?).bind (·.dst) = some t0 → i' ≤ i) ∧ VR κ s.v (tmps.getD t0 undef)) ∨
    ((∀ i, X i → (ops[i]?).bind (·.dst) ≠ some t0) ∧ VR κ (f0.nth t0) (tmps.getD t0 undef))
  out : ∀ t0, ¬ t0 < f0.n → VR κ (f0.nth t0) undef
variable {ops l f0}
theorem FrOk.sub {X : Nat → Prop} {κ κ' : Inj} {tmps : Array Value} (h : FrOk ops l f0 X κ tmps) (e : Sub κ κ') : FrOk ops l f0 X κ' tmps :=
  ⟨h.size, fun t0 h0 => (h.val t0 h0).imp (fun ⟨i, s, a, b, c, d, v⟩ => ⟨i, s, a, b, c, d, v.sub e⟩) (fun ⟨a, v⟩ => ⟨a, v.sub e⟩), fun t0 h0 => (h.out t0 h0).sub e⟩
/-- One more is run. -/
theorem FrOk.put {X : Nat → Prop} {κ : Inj} {a : Act} (h : FrOk ops l f0 X κ a.tmps) {j : Nat} {o : Oper} {s : Seen} {v' : Value} (ho : ops[j]? = some o) (hs : l[j]? = some s)
    (hmax : ∀ i t0, X i → o.dst = some t0 → (ops[i]?).bind (·.dst) = some t0 → i < j) (hv : VR κ s.v v') : FrOk ops l f0 (fun i => X i ∨ i = j) κ (a.put o.dst v').tmps := by
  refine ⟨?_, fun t0 h0 => ?_, h.out⟩
  · rw [h.size]; unfold Act.put; split <;> simp
  · by_cases hd : o.dst = some t0
    · refine .inl ⟨j, s, .inr rfl, by rw [ho]; exact hd, hs, fun i' hi' hd' => ?_, ?_⟩
      · rcases hi' with hi' | rfl
        · exact Nat.le_of_lt (hmax i' t0 hi' hd hd')
        · exact Nat.le_refl _
      · have hlt : t0 < a.tmps.size := by rw [← h.size]; exact h0
        simp only [Act.put, hd]
        simpa [Array.getD, hlt] using hv
    · have hsame : (a.put o.dst v').tmps.getD t0 undef = a.tmps.getD t0 undef := by
        unfold Act.put
        split
        · rename_i d hdd
          have hne : d ≠ t0 := fun e => hd (by rw [hdd, e])
          simp [Array.getElem?_setIfInBounds_ne hne]
        · rfl
      rw [hsame]
      rcases h.val t0 h0 with ⟨i, s', a1, a2, a3, a4, a5⟩ | ⟨a1, a2⟩
      · refine .inl ⟨i, s', .inl a1, a2, a3, fun i' hi' hd' => ?_, a5⟩
        rcases hi' with hi' | rfl
        · exact a4 i' hi' hd'
        · rw [ho] at hd'; exact absurd hd' hd
      · refine .inr ⟨fun i hi => ?_, a2⟩
        rcases hi with hi | rfl
        · exact a1 i hi
        · rw [ho]; exact hd
/-- The frame at an operation in the order of the text: as it is, in what has been written ahead of it. -/
theorem FrOk.match {P : Program} {rec : Rec} {t : Tm} {τ : St} (S : SeqD P rec ops ops.toList l t τ) {X : Nat → Prop} {κ : Inj} {tmps : Array Value} (h : FrOk ops l (frL l t 0) X κ tmps) {j : Nat} (hj : j ≤ ops.size) {t0 : Nat}
    (hX : ∀ i, (ops[i]?).bind (·.dst) = some t0 → (X i ↔ i < j)) : VR κ ((frL l t j).nth t0) (tmps.getD t0 undef) := by
  by_cases h0 : t0 < (frL l t 0).n
  · rcases S.last t0 h0 j hj with ⟨i, s, a1, a2, a3, a4, a5⟩ | ⟨a1, a2⟩
    · rcases h.val t0 h0 with ⟨i', s', b1, b2, b3, b4, b5⟩ | ⟨b1, _⟩
      · have hi : i = i' := by
          have h1 := b4 i ((hX i a2).2 a1) a2
          have h2 := (hX i' b2).1 b1
          by_cases he : i = i'
          · exact he
          · exact absurd b2 (a5 i' (by omega) h2)
        subst hi
        rw [a3] at b3; cases b3
        rw [a4]; exact b5
      · exact absurd a2 (b1 i ((hX i a2).2 a1))
    · rcases h.val t0 h0 with ⟨i', s', b1, b2, b3, b4, b5⟩ | ⟨_, b2⟩
      · exact absurd b2 (a1 i' ((hX i' b2).1 b1))
      · rw [a2]; exact b2
  · have hn : (frL l t j).nth t0 = (frL l t 0).nth t0 := by
      have hle : (frL l t 0).n ≤ t0 := Nat.le_of_not_lt h0
      clear hX h
      induction j with
      | zero => rfl
      | succ j ih =>
        obtain ⟨s, _, _, _, _, hf, _⟩ := S.at (i := j) (o := ops[j]) (by simp)
        have := S.frn j (by omega)
        rw [hf, setO_nth, if_neg (by omega), ih (by omega)]
    have hsz : ¬ t0 < tmps.size := by rw [← h.size]; exact h0
    rw [hn]
    have : tmps.getD t0 undef = undef := by simp [Array.getD, hsz]
    rw [this]; exact h.out t0 h0
end

/-! ### Makes, in whatever memory -/
theorem make_any {P : Program} {o : Op} {ev : Operand → Value} {σ σ' : St} {v : Value} (hm : makesB o = true) (h : effOp P ev σ o = some (v, σ')) :
    ∃ y, σ' = σ.add y ∧ ∀ σ₂ : St, σ₂.q = σ.q → effOp P ev σ₂ o = some (v, σ₂.add y) := by
  unfold effOp at h
  split at h
  · split at h
    · rename_i z hz
      rw [fN_eq, newRow_eq] at h; simp at h; obtain ⟨rfl, rfl⟩ := h
      exact ⟨_, rfl, fun σ₂ h2 => by unfold effOp; simp only [hz, fN_eq, newRow_eq, h2]; simp⟩
    · cases h
  · rw [fN_eq, newRow_eq] at h; simp at h; obtain ⟨rfl, rfl⟩ := h
    exact ⟨_, rfl, fun σ₂ h2 => by unfold effOp; simp only [fN_eq, newRow_eq, h2]; simp⟩
  · split at h
    · rename_i e n hes
      split at h
      · rename_i z hz
        obtain ⟨hc, h⟩ := bif_some h
        split at h
        · rename_i cs hf
          rw [newRow_eq] at h; simp at h; obtain ⟨rfl, rfl⟩ := h
          exact ⟨_, rfl, fun σ₂ h2 => by unfold effOp; simp only [hes, hz, hc, cond_true, hf, newRow_eq, h2]⟩
        · cases h
      · cases h
    · cases h
  · split at h
    · split at h
      · rename_i ke hmo
        rw [St.new_eq] at h; simp at h; obtain ⟨rfl, rfl⟩ := h
        exact ⟨_, rfl, fun σ₂ h2 => by unfold effOp; simp only [hmo, St.new_eq, h2]⟩
      · cases h
    · split at h
      · rename_i hmo hx
        rw [St.new_eq] at h; simp at h; obtain ⟨rfl, rfl⟩ := h
        exact ⟨_, rfl, fun σ₂ h2 => by unfold effOp; simp only [hmo, hx, St.new_eq, h2]⟩
      · cases h
  · split at h
    · rename_i hes hl hc
      split at h
      · rename_i hz hi
        obtain ⟨hcond, h⟩ := bif_some h
        rw [newRow_eq] at h; simp at h; obtain ⟨rfl, rfl⟩ := h
        exact ⟨_, rfl, fun σ₂ h2 => by unfold effOp; simp only [hes, hl, hc, hz, hi, hcond, cond_true, newRow_eq, h2]⟩
      · cases h
    · cases h
  all_goals (exfalso; simp_all [makesB])
end Go.Lay

/-! Draw3: Regions that draw their order: what holds on the way. -/
namespace Go.Lay
open Go

abbrev BF (ops : Array Oper) : Array Nat := CheckFast.beforeF ops

/-- A block pends: it is there; nobody's. -/
structure Pend (ι : Inj) (pend : Nat → Option Loc) (N0 : Nat) (w : World) (n : Nat) (y : Blk) (L : Loc) : Prop where
  get : pend n = some L
  ge : N0 ≤ L.c
  lt : L.c < w.heap.size
  own : ι.own L.c = none
  off : ∀ b s L', ι.loc b s = some L' → L'.c ≠ L.c
  blk : BlkR ((ι.plus (cut pend (n + 1))).owned L.c n) w n y

structure Inv (ops : Array Oper) (l : List Seen) (t : Tm) (τ : St) (ι0 : Inj) (w0 : World) (ds : List Deferred) (X : Nat → Prop) (a : Act) (w : World) (q : Nat) (ι : Inj) (pend : Nat → Option Loc) : Prop where
  hq : q ≤ ops.size
  ahead : ∀ (j : Nat) (o : Oper), ops[j]? = some o → actsB o.op = true → j < q → X j
  beyond : ∀ (j : Nat) (o : Oper), ops[j]? = some o → actsB o.op = true → q ≤ j → X j → freeB ops (BF ops) j = true
  good : Good ι0 (stL l τ 0) w0 ι (stL l τ q) w
  keys : ∀ b L, pend b = some L → (b < (stL l τ q).q ∧ ι.loc b 0 = some L) ∨ (∃ j o s, q ≤ j ∧ X j ∧ ops[j]? = some o ∧ l[j]? = some s ∧ s.want = true ∧ freeB ops (BF ops) j = true ∧ b = (stL l τ j).q)
  pok : ∀ (j : Nat) (o : Oper) (s : Seen), q ≤ j → X j → ops[j]? = some o → actsB o.op = true → l[j]? = some s → s.want = true → ∃ y L, stL l τ (j + 1) = (stL l τ j).add y ∧ Pend ι pend w0.heap.size w (stL l τ j).q y L
  inj : ∀ b b' L L', pend b = some L → pend b' = some L' → L.c = L'.c → b = b'
  fr : FrOk ops l (frL l t 0) X (ι.plus pend) a.tmps
  ds : a.defers = ds
  fast : (∀ j, freeB ops (BF ops) j = false) → ∀ b, pend b = none

theorem makes_acts {o : Op} (h : makesB o = true) : actsB o = true := by cases o <;> first | rfl | (simp [makesB] at h)
theorem free_makes {ops : Array Oper} {B : Array Nat} {j : Nat} {o : Oper} (ho : ops[j]? = some o) (h : freeB ops B j = true) : makesB o.op = true := by
  unfold freeB at h
  rw [(getD_of ho).1, Bool.and_eq_true] at h
  exact h.1

theorem cut_le {pend : Nat → Option Loc} {n b : Nat} {L : Loc} (h : cut pend n b = some L) : b < n ∧ pend b = some L := by
  unfold cut at h
  split at h
  · rename_i hlt; exact ⟨hlt, h⟩
  · cases h
theorem plus_zero {ι : Inj} {pend : Nat → Option Loc} {b : Nat} {L : Loc} (h : pend b = some L) : (ι.plus pend).loc b 0 = some L := by simp [Inj.plus, h]
theorem plus_succ {ι : Inj} {pend : Nat → Option Loc} {b s : Nat} (h : s ≠ 0) : (ι.plus pend).loc b s = ι.loc b s := by simp [Inj.plus, h]
theorem plus_none {ι : Inj} {pend : Nat → Option Loc} {b : Nat} (s : Nat) (h : pend b = none) : (ι.plus pend).loc b s = ι.loc b s := by
  simp only [Inj.plus, h]
  split
  · rename_i h0; rw [h0]
  · rfl

section
variable {P : Program} {rec : Rec} {ops : Array Oper} {l : List Seen} {t : Tm} {τ : St} {ι0 : Inj} {w0 : World} {ds : List Deferred} {X : Nat → Prop} {a : Act} {w : World} {q : Nat} {ι : Inj} {pend : Nat → Option Loc}

theorem Inv.lt_size (I : Inv ops l t τ ι0 w0 ds X a w q ι pend) {b : Nat} {L : Loc} (h : pend b = some L) : L.c < w.heap.size := by
  rcases I.keys b L h with ⟨_, h1⟩ | ⟨j, o, s, h1, h2, h3, h4, h5, h6, rfl⟩
  · exact I.good.rep.lt _ _ _ h1
  · obtain ⟨y, L', _, hp⟩ := I.pok j o s h1 h2 h3 (makes_acts (free_makes h3 h6)) h4 h5
    rw [hp.get] at h; cases h; exact hp.lt

/-- What pends from a number on is not known below. -/
theorem Inv.sub_plus (S : SeqD P rec ops ops.toList l t τ) (I : Inv ops l t τ ι0 w0 ds X a w q ι pend) (hX : ∀ j, X j → j < ops.size) : Sub ι (ι.plus pend) := by
  refine ⟨fun b s L h => ?_, fun _ _ _ _ => rfl⟩
  by_cases h0 : s = 0
  · subst h0
    cases hp : pend b with
    | none => rw [plus_none _ hp]; exact h
    | some L1 =>
      rw [plus_zero hp]
      rcases I.keys b L1 hp with ⟨_, h1⟩ | ⟨j, o, s, h1, h2, h3, h4, h5, h6, rfl⟩
      · rw [h] at h1; exact h1.symm
      · have := S.mono q j h1 (Nat.le_of_lt (hX j h2))
        rw [I.good.rep.fresh _ _ this] at h; cases h
  · rw [plus_succ h0]; exact h

/-- What lies below the next number is known without what pends. -/
theorem Inv.lower (S : SeqD P rec ops ops.toList l t τ) (I : Inv ops l t τ ι0 w0 ds X a w q ι pend) (hX : ∀ j, X j → j < ops.size) {f : Tm} {o : Oper} (hb : (∀ j, freeB ops (BF ops) j = false) ∨ below (stL l τ q).q f o = true) {x : Operand} (hx : x ∈ o.op.operands) {v' : Value}
    (h : VR (ι.plus pend) (aeval f x) v') : VR ι (aeval f x) v' := by
  rcases hb with hb | hb
  · refine VR.sub (ι := ι.plus pend) (ι' := ι) ⟨fun b s L hL => ?_, fun _ _ _ _ => rfl⟩ h
    rw [plus_none _ (I.fast hb b)] at hL; exact hL
  · refine VR.lower (κ := ι.plus pend) (κ' := ι) (m := (stL l τ q).q) (fun b s L hlt hL => ?_) (fun _ _ _ _ => rfl) RD (List.all_eq_true.1 hb x (by simpa using hx)) h
    by_cases h0 : s = 0
    · subst h0
      cases hp : pend b with
      | none => rw [plus_none _ hp] at hL; exact hL
      | some L1 =>
        rw [plus_zero hp] at hL; cases hL
        rcases I.keys b L hp with ⟨_, h1⟩ | ⟨j, o', s, h1, h2, _, _, _, _, rfl⟩
        · exact h1
        · have := S.mono q j h1 (Nat.le_of_lt (hX j h2)); omega
    · rw [plus_succ h0] at hL; exact hL

/-- A pending block abides where its memory does. -/
theorem Pend.keep {ι' : Inj} {pend' : Nat → Option Loc} {w' : World} {N0 n : Nat} {y : Blk} {L : Loc} (h : Pend ι pend N0 w n y L) (hget : pend' n = some L) (hlt : w.heap.size ≤ w'.heap.size) (hown : ι'.own L.c = none)
    (hoff : ∀ b s L', ι'.loc b s = some L' → L'.c ≠ L.c) (hs : Sub (ι.plus (cut pend (n + 1))) (ι'.plus (cut pend' (n + 1)))) (hfr : ∀ s, s ≠ 0 → ι.loc n s = none ∧ ι'.loc n s = none) (hw : w'.heap[L.c]? = w.heap[L.c]?) :
    Pend ι' pend' N0 w' n y L := by
  refine ⟨hget, h.ge, Nat.lt_of_lt_of_le h.lt hlt, hown, hoff, ?_⟩
  have hl : ∀ s L1, ((ι.plus (cut pend (n + 1))).owned L.c n).loc n s = some L1 → L1 = L := fun s L1 hL => by
    by_cases h0 : s = 0
    · subst h0
      have : (ι.plus (cut pend (n + 1))).loc n 0 = some L := plus_zero (by simp [cut, h.get])
      rw [show ((ι.plus (cut pend (n + 1))).owned L.c n).loc n 0 = (ι.plus (cut pend (n + 1))).loc n 0 from rfl, this] at hL
      cases hL; rfl
    · rw [show ((ι.plus (cut pend (n + 1))).owned L.c n).loc n s = (ι.plus (cut pend (n + 1))).loc n s from rfl, plus_succ h0, (hfr s h0).1] at hL; cases hL
  refine h.blk.keepS ⟨hs.loc, hs.sz⟩ (fun s L1 hL => ?_) (fun s L1 hL _ => ?_) (fun cs esz log next ro hy s hs' => ?_)
  · rw [hl s L1 hL]; simp [Inj.owned]
  · rw [hl s L1 hL]; exact hw
  · have hb := h.blk
    subst hy
    cases hb with
    | cells _ _ _ fresh =>
      have := fresh s hs'
      by_cases h0 : s = 0
      · subst h0
        have h2 : (ι.plus (cut pend (n + 1))).loc n 0 = some L := plus_zero (by simp [cut, h.get])
        rw [show ((ι.plus (cut pend (n + 1))).owned L.c n).loc n 0 = (ι.plus (cut pend (n + 1))).loc n 0 from rfl, h2] at this; cases this
      · rw [show ((ι'.plus (cut pend' (n + 1))).owned L.c n).loc n s = (ι'.plus (cut pend' (n + 1))).loc n s from rfl, plus_succ h0]; exact (hfr s h0).2

theorem Inv.advance1 (S : SeqD P rec ops ops.toList l t τ) (I : Inv ops l t τ ι0 w0 ds X a w q ι pend) (hX : ∀ j, X j → j < ops.size) {o : Oper} (ho : ops[q]? = some o) (hact : actsB o.op = true → X q) :
    ∃ ι', Inv ops l t τ ι0 w0 ds X a w (q + 1) ι' pend := by
  obtain ⟨s, hs, _, _, _, _, hg, h1, h2⟩ := S.at ho
  have hq1 : q + 1 ≤ ops.size := (getD_of ho).2
  -- where nothing turns
  have stay : stL l τ (q + 1) = stL l τ q → (∀ (sx : Seen), l[q]? = some sx → sx.want = true → freeB ops (BF ops) q = true → False) → ∃ ι', Inv ops l t τ ι0 w0 ds X a w (q + 1) ι' pend := fun hst hno =>
    ⟨ι, hq1, fun j o' hj ha hlt => by
        by_cases he : j = q
        · subst he; rw [ho] at hj; cases hj; exact hact ha
        · exact I.ahead j o' hj ha (by omega),
      fun j o' hj ha hle hx => I.beyond j o' hj ha (by omega) hx, by rw [hst]; exact I.good,
      fun b L hp => by
        rw [hst]
        refine (I.keys b L hp).imp id (fun ⟨j, o', s', x1, x2, x3, x4, x5, x6, x7⟩ => ⟨j, o', s', ?_, x2, x3, x4, x5, x6, x7⟩)
        by_cases he : j = q
        · subst he; exact (hno s' x4 x5 x6).elim
        · omega,
      fun j o' s' hle hx hj ha hs' hw => I.pok j o' s' (by omega) hx hj ha hs' hw, I.inj, I.fr, I.ds, I.fast⟩
  cases hact' : actsB o.op with
  | false =>
    refine stay ?_ (fun sx _ _ hfree => ?_)
    · cases hw : s.want with
      | false => exact (h2 hw).2
      | true => rcases opA_acts (h1 hw) with ⟨ha, _⟩ | ⟨_, _, _, he⟩ | ⟨_, _, _, he⟩
                · rw [hact'] at ha; cases ha
                · exact he
                · exact he
    · have := makes_acts (free_makes ho hfree); rw [hact'] at this; cases this
  | true =>
    have hXq := hact hact'
    cases hw : s.want with
    | false => exact stay (h2 hw).2 (fun sx hsx hwx _ => by rw [hs] at hsx; cases hsx; rw [hw] at hwx; cases hwx)
    | true =>
      obtain ⟨y, L, hst, hp⟩ := I.pok q o s (Nat.le_refl _) hXq ho hact' hs hw
      have hfree := I.beyond q o ho hact' (Nat.le_refl _) hXq
      have hfrn := I.good.rep.fresh (stL l τ q).q
      have hnone : ∀ s, ι.loc (stL l τ q).q s = none := fun s => hfrn s (Nat.le_refl _)
      -- what pends beyond has greater numbers
      have hbig : ∀ j, q + 1 ≤ j → j ≤ ops.size → (stL l τ q).q + 1 ≤ (stL l τ j).q := fun j hj hj2 => by
        have := S.mono (q + 1) j hj hj2
        rw [hst, St.add_next] at this; exact this
      have hsub : Sub ι (ι.commit (stL l τ q).q L) := by
        refine ⟨fun b s0 L0 h0 => ?_, fun _ _ _ _ => rfl⟩
        simp only [Inj.commit]
        rw [if_neg]; exact h0
        rintro ⟨rfl, rfl⟩; rw [hnone 0] at h0; cases h0
      have hgood := I.good
      have rep : Rep (ι.commit (stL l τ q).q L) ((stL l τ q).add y) w := by
        refine ⟨fun b y' hb => ?_, fun b s0 L0 h0 => ?_, fun c b h0 => ?_, fun b s0 h0 => ?_⟩
        · rw [St.add_get] at hb
          by_cases hbn : b = (stL l τ q).q
          · rw [if_pos hbn] at hb; cases hb; subst hbn
            refine ⟨by simp, hp.blk.keepS ⟨fun b s0 L0 h0 => ?_, fun _ _ _ _ => rfl⟩ (fun _ _ _ => rfl) (fun _ _ _ _ => rfl) (fun cs esz log next ro hy s0 hs0 => ?_)⟩
            · have h0 : (ι.plus (cut pend ((stL l τ q).q + 1))).loc b s0 = some L0 := h0
              by_cases hz : s0 = 0
              · subst hz
                cases hc : cut pend ((stL l τ q).q + 1) b with
                | none => rw [plus_none _ hc] at h0; exact hsub.loc _ _ _ h0
                | some L1 =>
                  rw [plus_zero hc] at h0; cases h0
                  obtain ⟨hlt, hpb⟩ := cut_le hc
                  by_cases hbe : b = (stL l τ q).q
                  · subst hbe; rw [hp.get] at hpb; cases hpb; simp [Inj.commit]
                  · rcases I.keys b L0 hpb with ⟨_, x⟩ | ⟨j, _, _, x1, x2, _, _, _, _, x7⟩
                    · exact hsub.loc _ _ _ x
                    · have := S.mono q j x1 (Nat.le_of_lt (hX j x2)); omega
              · rw [plus_succ hz] at h0; exact hsub.loc _ _ _ h0
            · have hb := hp.blk
              subst hy
              cases hb with
              | cells _ _ _ fresh =>
                have hh := fresh s0 hs0
                by_cases hz : s0 = 0
                · subst hz
                  have h2 : (ι.plus (cut pend ((stL l τ q).q + 1))).loc (stL l τ q).q 0 = some L := plus_zero (by simp [cut, hp.get])
                  rw [show ((ι.plus (cut pend ((stL l τ q).q + 1))).owned L.c (stL l τ q).q).loc (stL l τ q).q 0 = (ι.plus (cut pend ((stL l τ q).q + 1))).loc (stL l τ q).q 0 from rfl, h2] at hh; cases hh
                · simp only [Inj.commit]; rw [if_neg (fun x => hz x.2)]; exact hnone s0
          · rw [if_neg hbn] at hb
            have h := hgood.rep.blk b y' hb
            refine ⟨by simp; omega, h.2.keepS hsub (fun s0 L0 h0 => ?_) (fun _ _ _ _ => rfl) (fun cs esz log next ro hy s0 hs0 => ?_)⟩
            · simp only [Inj.commit]; rw [if_neg (hp.off _ _ _ h0)]
            · subst hy
              simp only [Inj.commit]; rw [if_neg (fun x => hbn x.1)]
              cases h.2 with | cells _ _ _ fresh => exact fresh s0 hs0
        · simp only [Inj.commit] at h0
          split at h0
          · cases h0; exact hp.lt
          · exact hgood.rep.lt _ _ _ h0
        · simp only [Inj.commit] at h0
          split at h0
          · rename_i hc; cases h0; rw [hc]; exact ⟨hp.lt, by simp⟩
          · have := hgood.rep.ownlt _ _ h0; exact ⟨this.1, by simp; omega⟩
        · simp at h0
          simp only [Inj.commit]; rw [if_neg (by omega)]; exact hgood.rep.fresh b s0 (by omega)
      have good : Good ι0 (stL l τ 0) w0 (ι.commit (stL l τ q).q L) (stL l τ (q + 1)) w := by
        rw [hst]
        refine ⟨⟨fun b s0 L0 h0 => hsub.loc _ _ _ (hgood.ext.loc _ _ _ h0), hgood.ext.sz, fun b s0 h0 hb => ?_, fun c hc => ?_, hgood.ext.csz, fun b s0 L0 h0 hc => ?_⟩, rep, hgood.pres, hgood.low, Nat.le_trans hgood.q (by simp)⟩
        · simp at hb
          simp only [Inj.commit]; rw [if_neg (by omega)]; exact hgood.ext.fresh b s0 h0 (by omega)
        · simp only [Inj.commit]; rw [if_neg (by have := hp.ge; omega)]; exact hgood.ext.own c hc
        · simp only [Inj.commit] at h0
          split at h0
          · cases h0; have := hp.ge; omega
          · exact hgood.ext.old _ _ _ h0 hc
      have hps : ∀ m, Sub (ι.plus (cut pend m)) ((ι.commit (stL l τ q).q L).plus (cut pend m)) := fun m =>
        plus_sub hsub (fun _ _ h => h) (fun b L1 L2 h1 h2 => by rw [h1] at h2; cases h2) (fun _ _ _ => rfl)
      refine ⟨ι.commit (stL l τ q).q L, hq1, fun j o' hj ha hlt => ?_, fun j o' hj ha hle hx => I.beyond j o' hj ha (by omega) hx, good, fun b L1 hpb => ?_, fun j o' s' hle hx hj ha hs' hw' => ?_, I.inj, ?_, I.ds, I.fast⟩
      · by_cases he : j = q
        · subst he; exact hXq
        · exact I.ahead j o' hj ha (by omega)
      · rw [hst]
        rcases I.keys b L1 hpb with ⟨x1, x2⟩ | ⟨j, o', s', x1, x2, x3, x4, x5, x6, x7⟩
        · exact .inl ⟨by simp; omega, hsub.loc _ _ _ x2⟩
        · by_cases he : j = q
          · subst he; subst x7
            rw [hp.get] at hpb; cases hpb
            exact .inl ⟨by simp, by simp [Inj.commit]⟩
          · exact .inr ⟨j, o', s', by omega, x2, x3, x4, x5, x6, x7⟩
      · obtain ⟨y', L', e1, hp'⟩ := I.pok j o' s' (by omega) hx hj ha hs' hw'
        have hb := hbig j hle (Nat.le_of_lt (getD_of hj).2)
        have hne : L'.c ≠ L.c := fun e => by
          have := I.inj _ _ _ _ hp'.get hp.get e; omega
        refine ⟨y', L', e1, hp'.keep hp'.get (Nat.le_refl _) ?_ (fun b s0 L0 h0 => ?_) (hps _) (fun s0 hs0 => ?_) rfl⟩
        · simp only [Inj.commit]; rw [if_neg hne]; exact hp'.own
        · simp only [Inj.commit] at h0
          split at h0
          · cases h0; exact fun e => hne e.symm
          · exact hp'.off _ _ _ h0
        · have hn := hgood.rep.fresh (stL l τ j).q s0 (by omega)
          exact ⟨hn, by simp only [Inj.commit]; rw [if_neg (fun x => hs0 x.2)]; exact hn⟩
      · refine I.fr.sub (plus_sub hsub (fun _ _ h => h) (fun b L1 L2 h1 h2 => by rw [h1] at h2; cases h2) (fun _ _ _ => rfl))
end
end Go.Lay

/-! Draw4: Regions that draw their order: each step; the region. -/
namespace Go.Lay
open Go

section
variable {P : Program} {rec : Rec} {ops : Array Oper} {l : List Seen} {t : Tm} {τ : St} {ι0 : Inj} {w0 : World} {ds : List Deferred} {X : Nat → Prop} {a : Act} {w : World} {q : Nat} {ι : Inj} {pend : Nat → Option Loc}

theorem Inv.advance (S : SeqD P rec ops ops.toList l t τ) (hX : ∀ j, X j → j < ops.size) : ∀ (n : Nat) {q : Nat} {ι : Inj}, Inv ops l t τ ι0 w0 ds X a w q ι pend → q + n ≤ ops.size → (∀ (j : Nat) (o : Oper), ops[j]? = some o → q ≤ j → j < q + n → actsB o.op = true → X j) →
    ∃ ι', Inv ops l t τ ι0 w0 ds X a w (q + n) ι' pend
  | 0, q, ι, I, _, _ => ⟨ι, I⟩
  | n + 1, q, ι, I, hn, hall => by
    have ho : ops[q]? = some ops[q] := by simp
    obtain ⟨ι₁, I₁⟩ := I.advance1 S hX ho (fun ha => hall q _ ho (Nat.le_refl _) (by omega) ha)
    obtain ⟨ι₂, I₂⟩ := Inv.advance S hX n I₁ (by omega) (fun j o hj h1 h2 ha => hall j o hj (by omega) (by omega) ha)
    exact ⟨ι₂, by rw [show q + (n + 1) = q + 1 + n by omega]; exact I₂⟩
theorem Inv.advanceTo (S : SeqD P rec ops ops.toList l t τ) (hX : ∀ j, X j → j < ops.size) (I : Inv ops l t τ ι0 w0 ds X a w q ι pend) {m : Nat} (hqm : q ≤ m) (hm : m ≤ ops.size)
    (hall : ∀ (j : Nat) (o : Oper), ops[j]? = some o → j < m → actsB o.op = true → X j) : ∃ ι', Inv ops l t τ ι0 w0 ds X a w m ι' pend := by
  obtain ⟨ι', I'⟩ := I.advance S hX (m - q) (by omega) (fun j o hj _ h2 ha => hall j o hj (by omega) ha)
  exact ⟨ι', by rw [show m = q + (m - q) by omega]; exact I'⟩

/-- An operation that may be run now. -/
structure Rdy (ops : Array Oper) (X : Nat → Prop) (i : Nat) (o : Oper) : Prop where
  op : ops[i]? = some o
  not : ¬ X i
  dep : ∀ e ∈ o.after.toList, Region.binds .any e = true → X e.on

section
variable (D : DrawOk ops) (hC : Closed ops X) {i : Nat} {o : Oper} (R : Rdy ops X i o)
include D hC R
theorem Rdy.pre {k : Nat} (h : pre (BF ops) k i = true) : X k := pre_in D hC i o R.op R.dep k h
theorem Rdy.apart {k : Nat} {ok : Oper} (hk : ops[k]? = some ok) (hne : k ≠ i) (hx : ¬ (X k ∧ k < i)) (hx2 : ¬ (¬ X k ∧ i < k)) : Oper.apart ops ok o = true ∧ Oper.apart ops o ok = true := by
  have h1 : Go.Lay.pre (BF ops) k i = false := by
    rw [Bool.eq_false_iff]; intro h
    exact hx ⟨R.pre D hC h, pre_lt D k i (getD_of R.op).2 h⟩
  have h2 : Go.Lay.pre (BF ops) i k = false := by
    rw [Bool.eq_false_iff]; intro h
    have hlt := pre_lt D i k (getD_of hk).2 h
    refine hx2 ⟨fun hxk => ?_, hlt⟩
    exact R.not (pre_in D hC k ok hk (fun e he hb => hC k ok hxk hk e he hb) i h)
  exact ⟨D.apart k i ok o hk R.op hne h1 h2, D.apart i k o ok R.op hk (Ne.symm hne) h2 h1⟩
/-- Who writes what it looks at has been run just if it stands ahead. -/
theorem Rdy.writer {k t0 : Nat} (ht : t0 ∈ o.looksAt ops) (hk : (ops[k]?).bind (·.dst) = some t0) : X k ↔ k < i := by
  cases hok : ops[k]? with
  | none => rw [hok] at hk; simp at hk
  | some ok =>
    rw [hok] at hk; simp at hk
    by_cases hne : k = i
    · subst hne; exact ⟨fun h => absurd h R.not, fun h => absurd h (Nat.lt_irrefl _)⟩
    · have no : ¬ (Oper.apart ops ok o = true) := fun h => (Oper.apart_spec h).1 t0 hk ht
      by_cases hx : X k
      · refine ⟨fun _ => ?_, fun _ => hx⟩
        by_cases hlt : k < i
        · exact hlt
        · exact absurd (R.apart D hC hok hne (fun h => hlt h.2) (fun h => h.1 hx)).1 no
      · refine ⟨fun h => absurd h hx, fun hlt => ?_⟩
        exact absurd (R.apart D hC hok hne (fun h => hx h.1) (fun h => by omega)).1 no
theorem Rdy.max {k t0 : Nat} (hx : X k) (ht : o.dst = some t0) (hk : (ops[k]?).bind (·.dst) = some t0) : k < i := by
  cases hok : ops[k]? with
  | none => rw [hok] at hk; simp at hk
  | some ok =>
    rw [hok] at hk; simp at hk
    have hne : k ≠ i := fun e => R.not (e ▸ hx)
    by_cases hlt : k < i
    · exact hlt
    · exact absurd ht ((Oper.apart_spec (R.apart D hC hok hne (fun h => hlt h.2) (fun h => h.1 hx)).1).2.1 t0 hk)

theorem Rdy.operand (S : SeqD P rec ops ops.toList l t τ) (I : Inv ops l t τ ι0 w0 ds X a w q ι pend) (hok : operOk o = true) {x : Operand} (hx : x ∈ o.op.operands) : VR (ι.plus pend) (aeval (frL l t i) x) (a.eval x) := by
  cases x with
  | tmp t0 =>
    have hl : t0 ∈ o.looksAt ops := List.mem_append_left _ (List.mem_filterMap.2 ⟨.tmp t0, by simpa using hx, rfl⟩)
    exact I.fr.match S (Nat.le_of_lt (getD_of R.op).2) (fun k hk => R.writer D hC hl hk)
  | const v => exact .refl_rigid _ (opsOk hok hx)
  | global g => exact .any rfl
  | func g => exact .func (.func g) rfl (fun i v v' h => by simp at h) rfl (fun i v v' h => by simp at h)
theorem Rdy.guard (S : SeqD P rec ops ops.toList l t τ) (I : Inv ops l t τ ι0 w0 ds X a w q ι pend) {b : Bool} (hg : guardA ops (frL l t i) o = some b) : Region.wanted o (yielded ops a.tmps) = b := by
  refine guardA_sound (ι := ι.plus pend) hg (fun j want d hgd hd => ?_)
  have hl : d ∈ o.looksAt ops := List.mem_append_right _ (by simp [hgd, hd])
  exact I.fr.match S (Nat.le_of_lt (getD_of R.op).2) (fun k hk => R.writer D hC hl hk)
end

/-- What is asked besides of the run in the order of the text. -/
structure Ask (P : Program) (ops : Array Oper) (l : List Seen) (t : Tm) (τ : St) : Prop where
  low : ∀ (i : Nat) (o : Oper) (s : Seen), ops[i]? = some o → l[i]? = some s → s.want = true → (actsB o.op || looksB o.op) = true → (∀ j, freeB ops (BF ops) j = false) ∨ below (stL l τ i).q (frL l t i) o = true
  steady : ∀ (i k : Nat) (oi ok : Oper) (si : Seen), ops[i]? = some oi → ops[k]? = some ok → i ≠ k → l[i]? = some si → si.want = true → looksB oi.op = true → actsB ok.op = true → pre (BF ops) i k = false → pre (BF ops) k i = false →
    (seeOp P (aeval (frL l t i)) (stL l τ k) oi.op = some si.v ∧ below (stL l τ k).q (frL l t i) oi = true) ∧ (seeOp P (aeval (frL l t i)) (stL l τ (k + 1)) oi.op = some si.v ∧ below (stL l τ (k + 1)).q (frL l t i) oi = true)

section
variable (hz : zeroOk P) (hrec : RecSound P rec) (D : DrawOk ops) (S : SeqD P rec ops ops.toList l t τ) (A : Ask P ops l t τ) (hC : Closed ops X) (hX : ∀ j, X j → j < ops.size) (hok : ∀ (j : Nat) (o : Oper), ops[j]? = some o → operOk o = true)
variable {i : Nat} {o : Oper} (R : Rdy ops X i o) {rd : Option Nat} {n : Nat} {Q : Exit → Act → World → Prop}

theorem Inv.stepWith (I : Inv ops l t τ ι0 w0 ds X a w q ι pend) {s : Seen} (hs : l[i]? = some s) (ho : ops[i]? = some o) (hnx : ¬ X i) (hmax : ∀ k t0, X k → o.dst = some t0 → (ops[k]?).bind (·.dst) = some t0 → k < i)
    (hact : actsB o.op = false) {v' : Value} (hv : VR (ι.plus pend) s.v v') : Inv ops l t τ ι0 w0 ds (fun j => X j ∨ j = i) (a.put o.dst v') w q ι pend := by
  have hi : ∀ {j : Nat} {o' : Oper}, ops[j]? = some o' → actsB o'.op = true → j ≠ i := fun hj ha e => by subst e; rw [ho] at hj; cases hj; rw [hact] at ha; cases ha
  refine ⟨I.hq, fun j o' hj ha hlt => .inl (I.ahead j o' hj ha hlt), fun j o' hj ha hle hx => I.beyond j o' hj ha hle (hx.resolve_right (hi hj ha)), I.good, fun b L hp => ?_,
    fun j o' s' hle hx hj ha hs' hw => I.pok j o' s' hle (hx.resolve_right (hi hj ha)) hj ha hs' hw, I.inj, I.fr.put ho hs hmax hv, ?_, I.fast⟩
  · exact (I.keys b L hp).imp id (fun ⟨j, o', s', x1, x2, x3⟩ => ⟨j, o', s', x1, .inl x2, x3⟩)
  · rw [← I.ds]; unfold Act.put; split <;> rfl

include S in
/-- Where an act was not wanted. -/
theorem Inv.stepIdle (I : Inv ops l t τ ι0 w0 ds X a w q ι pend) {s : Seen} (hs : l[i]? = some s) (ho : ops[i]? = some o) (hnx : ¬ X i) (hmax : ∀ k t0, X k → o.dst = some t0 → (ops[k]?).bind (·.dst) = some t0 → k < i)
    (hw : s.want = false) (hqi : q = i ∨ freeB ops (BF ops) i = true) : ∃ q', Inv ops l t τ ι0 w0 ds (fun j => X j ∨ j = i) (a.put o.dst undef) w q' ι pend := by
  obtain ⟨s0, hs0, _, _, _, _, _, _, h2⟩ := S.at ho
  rw [hs] at hs0; cases hs0
  obtain ⟨hv, hst⟩ := h2 hw
  have hfr : FrOk ops l (frL l t 0) (fun j => X j ∨ j = i) (ι.plus pend) (a.put o.dst undef).tmps := I.fr.put ho hs hmax (by rw [hv]; exact .undef)
  have hds : (a.put o.dst undef).defers = ds := by rw [← I.ds]; unfold Act.put; split <;> rfl
  by_cases hf : freeB ops (BF ops) i = true
  · refine ⟨q, I.hq, fun j o' hj ha hlt => .inl (I.ahead j o' hj ha hlt), fun j o' hj ha hle hx => ?_, I.good, fun b L hp => ?_, fun j o' s' hle hx hj ha hs' hw' => ?_, I.inj, hfr, hds, I.fast⟩
    · rcases hx with hx | rfl
      · exact I.beyond j o' hj ha hle hx
      · exact hf
    · exact (I.keys b L hp).imp id (fun ⟨j, o', s', x1, x2, x3⟩ => ⟨j, o', s', x1, .inl x2, x3⟩)
    · rcases hx with hx | rfl
      · exact I.pok j o' s' hle hx hj ha hs' hw'
      · rw [hs] at hs'; cases hs'; rw [hw] at hw'; cases hw'
  · have hqi : q = i := hqi.resolve_right hf
    subst hqi
    refine ⟨q + 1, (getD_of ho).2, fun j o' hj ha hlt => ?_, fun j o' hj ha hle hx => ?_, by rw [hst]; exact I.good, fun b L hp => ?_, fun j o' s' hle hx hj ha hs' hw' => ?_, I.inj, hfr, hds, I.fast⟩
    · by_cases he : j = q
      · exact .inr he
      · exact .inl (I.ahead j o' hj ha (by omega))
    · exact I.beyond j o' hj ha (by omega) (hx.resolve_right (by omega))
    · rw [hst]
      refine (I.keys b L hp).imp id (fun ⟨j, o', s', x1, x2, x3⟩ => ⟨j, o', s', ?_, .inl x2, x3⟩)
      have : j ≠ q := fun e => hnx (e ▸ x2)
      omega
    · exact I.pok j o' s' (by omega) (hx.resolve_right (by omega)) hj ha hs' hw'

include S in
/-- An act at its own place. -/
theorem Inv.stepAct (I : Inv ops l t τ ι0 w0 ds X a w i ι pend) {s : Seen} (hs : l[i]? = some s) (ho : ops[i]? = some o) (hnx : ¬ X i) (hmax : ∀ k t0, X k → o.dst = some t0 → (ops[k]?).bind (·.dst) = some t0 → k < i)
    {v' : Value} {w' : World} {ι' : Inj} (hv : VR ι' s.v v') (hg : Good ι (stL l τ i) w ι' (stL l τ (i + 1)) w') : Inv ops l t τ ι0 w0 ds (fun j => X j ∨ j = i) (a.put o.dst v') w' (i + 1) ι' pend := by
  have hmono := S.mono i (i + 1) (by omega) (getD_of ho).2
  have hps : ∀ m, Sub (ι.plus (cut pend m)) (ι'.plus (cut pend m)) := fun m =>
    plus_sub hg.ext.sub (fun _ _ h => h) (fun b L1 L2 h1 h2 => by rw [h1] at h2; cases h2) (fun b L h => hg.ext.csz _ (I.lt_size (cut_le h).2))
  have keys : ∀ b L, pend b = some L → (b < (stL l τ (i + 1)).q ∧ ι'.loc b 0 = some L) ∨ (∃ j o s, i + 1 ≤ j ∧ (X j ∨ j = i) ∧ ops[j]? = some o ∧ l[j]? = some s ∧ s.want = true ∧ freeB ops (BF ops) j = true ∧ b = (stL l τ j).q) := by
    intro b L hp
    rcases I.keys b L hp with ⟨x1, x2⟩ | ⟨j, o', s', x1, x2, x3⟩
    · exact .inl ⟨by omega, hg.ext.loc _ _ _ x2⟩
    · refine .inr ⟨j, o', s', ?_, .inl x2, x3⟩
      have : j ≠ i := fun e => hnx (e ▸ x2)
      omega
  refine ⟨(getD_of ho).2, fun j o' hj ha hlt => ?_, fun j o' hj ha hle hx => I.beyond j o' hj ha (by omega) (hx.resolve_right (by omega)), I.good.trans hg, keys, fun j o' s' hle hx hj ha hs' hw' => ?_, I.inj, ?_, ?_, I.fast⟩
  · by_cases he : j = i
    · exact .inr he
    · exact .inl (I.ahead j o' hj ha (by omega))
  · obtain ⟨y, L, e1, hp⟩ := I.pok j o' s' (by omega) (hx.resolve_right (by omega)) hj ha hs' hw'
    have hnj := S.mono (i + 1) j hle (Nat.le_of_lt (getD_of hj).2)
    refine ⟨y, L, e1, hp.keep hp.get hg.pres.size (by rw [hg.ext.own _ hp.lt]; exact hp.own) (fun b s0 L0 h0 e => ?_) (hps _) (fun s0 hs0 => ?_) (hg.pres.same _ hp.lt (fun b hb => by rw [hp.own] at hb; cases hb))⟩
    · obtain ⟨b', s', L', g1, g2⟩ := hg.ext.old _ _ _ h0 (by rw [e]; exact hp.lt)
      exact hp.off _ _ _ g1 (g2.trans e)
    · have hn := I.good.rep.fresh (stL l τ j).q s0 (by omega)
      exact ⟨hn, hg.ext.fresh _ _ hn (by omega)⟩
  · have h1 : Sub (ι.plus pend) (ι'.plus pend) := plus_sub hg.ext.sub (fun _ _ h => h) (fun b L1 L2 h1 h2 => by rw [h1] at h2; cases h2) (fun b L h => hg.ext.csz _ (I.lt_size h))
    refine (I.fr.sub h1).put ho hs hmax (VR.sub (ι := ι') (ι' := ι'.plus pend) ⟨fun b s0 L0 h0 => ?_, fun _ _ _ _ => rfl⟩ hv)
    by_cases hz0 : s0 = 0
    · subst hz0
      cases hp : pend b with
      | none => rw [plus_none _ hp]; exact h0
      | some L1 =>
        rw [plus_zero hp]
        rcases keys b L1 hp with ⟨_, x⟩ | ⟨j, o', s', x1, x2, x3, x4, x5, x6, rfl⟩
        · rw [h0] at x; exact x.symm
        · have hnj := S.mono (i + 1) j x1 (Nat.le_of_lt (getD_of x3).2)
          rw [hg.rep.fresh _ _ hnj] at h0; cases h0
    · rw [plus_succ hz0]; exact h0
  · rw [← I.ds]; unfold Act.put; split <;> rfl

include hz hrec D S A hC hX hok R in
theorem Inv.step (I : Inv ops l t τ ι0 w0 ds X a w q ι pend) :
    wpOpIn (Fw rd) n P ops Q i (fun a' w' => ∃ q' ι' pend', Inv ops l t τ ι0 w0 ds (fun j => X j ∨ j = i) a' w' q' ι' pend') a w := by
  obtain ⟨s, hs, _, _, _, _, hg, h1, h2⟩ := S.at R.op
  have ho := R.op
  have hlti := (getD_of ho).2
  have hmax : ∀ k t0, X k → o.dst = some t0 → (ops[k]?).bind (·.dst) = some t0 → k < i := fun k t0 hx hd hk => R.max D hC hx hd hk
  have hoi := hok i o ho
  unfold wpOpIn
  rw [ho]
  simp only
  rw [R.guard D hC S I hg]
  -- how far acts have been run
  have front : actsB o.op = true → freeB ops (BF ops) i = false → ∃ ι', Inv ops l t τ ι0 w0 ds X a w i ι' pend := by
    intro ha hf
    have hall : ∀ (j : Nat) (o' : Oper), ops[j]? = some o' → j < i → actsB o'.op = true → X j := by
      intro j o' hj hlt haj
      refine R.pre D hC ?_
      cases hm : makesB o.op with
      | false => exact D.acts j i o' o hj ho hlt haj ha hm
      | true =>
        unfold freeB at hf
        rw [(getD_of ho).1, hm, Bool.true_and] at hf
        have hf := List.any_eq_false.1 hf j (List.mem_range.2 hlt)
        rw [(getD_of hj).1, haj] at hf
        simpa using hf
    have hqi : q ≤ i := by
      refine Nat.le_of_not_lt (fun h => R.not (I.ahead i o ho ha h))
    exact I.advanceTo S hX hqi (Nat.le_of_lt hlti) hall
  cases hw : s.want with
  | false =>
    rw [if_neg (by simp)]
    refine ⟨fun f _ => Fw_fn rd f, ?_⟩
    cases ha : actsB o.op with
    | false => exact ⟨q, ι, pend, I.stepWith hs ho R.not hmax ha (by rw [(h2 hw).1]; exact .undef)⟩
    | true =>
      cases hf : freeB ops (BF ops) i with
      | true =>
        obtain ⟨q', h⟩ := I.stepIdle S hs ho R.not hmax hw (.inr hf)
        exact ⟨q', ι, pend, h⟩
      | false =>
        obtain ⟨ι', I'⟩ := front ha hf
        obtain ⟨q', h⟩ := I'.stepIdle S hs ho R.not hmax hw (.inl rfl)
        exact ⟨q', ι', pend, h⟩
  | true =>
    rw [if_pos rfl]
    have hop := h1 hw
    rcases opA_acts hop with ⟨ha, hcase⟩ | ⟨ha, hlk, hsee, _⟩ | ⟨ha, _, hval, _⟩
    · cases hf : freeB ops (BF ops) i with
      | false =>
        obtain ⟨ι₁, I₁⟩ := front ha hf
        refine opA_sound hz hrec hop I₁.good.rep (fun x hx => ?_) (fun v' w' ι' hv hgd => ⟨i + 1, ι', pend, I₁.stepAct S hs ho R.not hmax hv hgd⟩)
        exact I₁.lower S hX (A.low i o s ho hs hw (by rw [ha]; rfl)) hx (R.operand D hC S I₁ hoi hx)
      | true =>
        -- made ahead of its place
        have hm := free_makes ho hf
        have hqi : q ≤ i := Nat.le_of_not_lt (fun h => R.not (I.ahead i o ho ha h))
        have heff : effOp P (aeval (frL l t i)) (stL l τ i) o.op = some (s.v, stL l τ (i + 1)) := by
          rcases hcase with ⟨c, _, _, _, hc, _⟩ | h | ⟨h, _⟩
          · rw [hc] at hm; simp [makesB] at hm
          · exact h
          · exfalso; cases hoo : o.op <;> rw [hoo] at hm h <;> first | (simp [makesB] at hm; done) | (simp [valOp] at h; done)
        obtain ⟨y, hst, hany⟩ := make_any hm heff
        have hbel : below (stL l τ i).q (frL l t i) o = true := by
          rcases A.low i o s ho hs hw (by rw [ha]; rfl) with h | h
          · rw [h i] at hf; cases hf
          · exact h
        have hqn := S.mono q i hqi (Nat.le_of_lt hlti)
        -- pending numbers are others
        have hpn : pend (stL l τ i).q = none := by
          cases hp : pend (stL l τ i).q with
          | none => rfl
          | some L =>
            exfalso
            rcases I.keys _ L hp with ⟨x, _⟩ | ⟨j, o', s', x1, x2, x3, x4, x5, x6, x7⟩
            · omega
            · have hji : j ≠ i := fun e => R.not (e ▸ x2)
              obtain ⟨yj, _, ej, _⟩ := I.pok j o' s' x1 x2 x3 (makes_acts (free_makes x3 x6)) x4 x5
              rcases Nat.lt_or_ge j i with hlt | hge
              · have := S.mono (j + 1) i hlt (Nat.le_of_lt hlti)
                rw [ej, St.add_next] at this; omega
              · have := S.mono (i + 1) j (by omega) (Nat.le_of_lt (hX j x2))
                rw [hst, St.add_next] at this; omega
        have hlocn : ∀ s, ι.loc (stL l τ i).q s = none := fun s => I.good.rep.fresh _ _ hqn
        let N := (stL l τ i).q
        let κ := ι.plus (cut pend N)
        let σ₂ : St := ⟨.leaf, N, N⟩
        have hlt2 : ∀ b s L, κ.loc b s = some L → L.c < w.heap.size := fun b s0 L h0 => by
          by_cases hz0 : s0 = 0
          · subst hz0
            cases hc : cut pend N b with
            | none => rw [show κ.loc b 0 = ι.loc b 0 from plus_none _ hc] at h0; exact I.good.rep.lt _ _ _ h0
            | some L1 => rw [show κ.loc b 0 = some L1 from plus_zero hc] at h0; cases h0; exact I.lt_size (cut_le hc).2
          · rw [show κ.loc b s0 = ι.loc b s0 from plus_succ hz0] at h0; exact I.good.rep.lt _ _ _ h0
        have hrep : Rep κ σ₂ w := by
          refine ⟨fun b y0 hb => ?_, hlt2, fun c b hcb => ⟨(I.good.rep.ownlt c b hcb).1, Nat.lt_of_lt_of_le (I.good.rep.ownlt c b hcb).2 hqn⟩, fun b s0 hb => ?_⟩
          · simp [σ₂, getB, Tr.getP_leaf] at hb
          · have hb : N ≤ b := hb
            have hc : cut pend N b = none := by unfold cut; rw [if_neg (by omega)]
            rw [show κ.loc b s0 = ι.loc b s0 from plus_none _ hc]
            exact I.good.rep.fresh _ _ (Nat.le_trans hqn hb)
        have hevκ : ∀ x ∈ o.op.operands, VR κ (aeval (frL l t i) x) (a.eval x) := fun x hx => by
          refine VR.lower (κ := ι.plus pend) (κ' := κ) (m := N) (fun b s0 L hlt hL => ?_) (fun _ _ _ _ => rfl) RD (List.all_eq_true.1 hbel x (by simpa using hx)) (R.operand D hC S I hoi hx)
          have hcb : cut pend N b = pend b := by unfold cut; rw [if_pos hlt]
          by_cases hz0 : s0 = 0
          · subst hz0
            cases hp : pend b with
            | none => rw [show κ.loc b 0 = ι.loc b 0 from plus_none _ (hcb.trans hp)]; rw [plus_none _ hp] at hL; exact hL
            | some L1 => rw [show κ.loc b 0 = some L1 from plus_zero (hcb.trans hp)]; rw [plus_zero hp] at hL; exact hL
          · rw [show κ.loc b s0 = ι.loc b s0 from plus_succ hz0]; rw [plus_succ hz0] at hL; exact hL
        obtain ⟨nx, v', obj, y2, m, z, hrun, hnv, hv, hy2, hgd⟩ := make_sound hz hm (hany σ₂ rfl) hrep hevκ
        have hyy : getB (σ₂.add y).heap N = some y := by rw [St.add_get, if_pos rfl]
        have hblk := (hgd.rep.blk N y hyy).2
        have hd : ∀ c, o.op ≠ .defer c := fun c hc => by rw [hc] at hm; simp [makesB] at hm
        refine wp_of_run hd hrun hnv ?_
        -- the new state of things
        let ι₁ : Inj := { ι with csz := fun c => if c = w.heap.size then m else ι.csz c }
        let pend₁ : Nat → Option Loc := fun b => if b = N then some ⟨w.heap.size, 0, 0, z⟩ else pend b
        have hι₁ : Sub ι ι₁ := ⟨fun _ _ _ h => h, fun b s0 L h => by
          have := I.good.rep.lt _ _ _ h
          have hne : L.c ≠ w.heap.size := by omega
          simp [ι₁, hne]⟩
        have hpp : ∀ b L, pend b = some L → pend₁ b = some L := fun b L h => by
          have : b ≠ N := fun e => by subst e; rw [hpn] at h; cases h
          simp [pend₁, this, h]
        have hnew : ∀ b L L', pend b = none → pend₁ b = some L → ι.loc b 0 = some L' → L' = L := fun b L L' h1 h2 h3 => by
          by_cases e : b = N
          · subst e; rw [hlocn 0] at h3; cases h3
          · simp [pend₁, e, h1] at h2
        have hszp : ∀ b L, pend b = some L → ι₁.csz L.c = ι.csz L.c := fun b L h => by
          have := I.lt_size h
          have hne : L.c ≠ w.heap.size := by omega
          simp [ι₁, hne]
        have hsubA : Sub (ι.plus pend) (ι₁.plus pend₁) := plus_sub hι₁ hpp hnew hszp
        have hsubC : ∀ k, Sub (ι.plus (cut pend k)) (ι₁.plus (cut pend₁ k)) := fun k =>
          plus_sub hι₁ (fun b L h => by obtain ⟨h1, h2⟩ := cut_le h; unfold cut; rw [if_pos h1]; exact hpp b L h2)
            (fun b L L' h1 h2 h3 => by
              obtain ⟨g1, g2⟩ := cut_le h2
              refine hnew b L L' ?_ g2 h3
              unfold cut at h1; rw [if_pos g1] at h1; exact h1)
            (fun b L h => hszp b L (cut_le h).2)
        -- what is known with the new block alone is known now
        have hadd : ∀ (pd : Nat → Option Loc), (∀ b L, cut pend N b = some L → pd b = some L) → (∀ b, b < N → pend b = none → pd b = none) → pd N = some ⟨w.heap.size, 0, 0, z⟩ → Sub (κ.add N w.heap.size m z) (ι₁.plus pd) := by
          intro pd hp1 hp2 hp3
          refine ⟨fun b s0 L h0 => ?_, fun b s0 L _ => rfl⟩
          simp only [Inj.add] at h0
          split at h0
          · rename_i hc; obtain ⟨rfl, rfl⟩ := hc; cases h0; exact plus_zero hp3
          · rename_i hc
            by_cases hz0 : s0 = 0
            · subst hz0
              have hbn : b ≠ N := fun e => hc ⟨e, rfl⟩
              cases hcp : cut pend N b with
              | some L1 =>
                rw [show κ.loc b 0 = some L1 from plus_zero hcp] at h0; cases h0
                exact plus_zero (hp1 b L hcp)
              | none =>
                rw [show κ.loc b 0 = ι.loc b 0 from plus_none _ hcp] at h0
                have hblt : b < N := by
                  rcases Nat.lt_or_ge b N with h | h
                  · exact h
                  · rw [I.good.rep.fresh _ _ (Nat.le_trans hqn h)] at h0; cases h0
                have hpb : pend b = none := by unfold cut at hcp; rw [if_pos hblt] at hcp; exact hcp
                rw [plus_none _ (hp2 b hblt hpb)]; exact h0
            · rw [show κ.loc b s0 = ι.loc b s0 from plus_succ hz0] at h0
              rw [plus_succ hz0]; exact h0
        have hkn : ∀ s0, s0 ≠ 0 → κ.loc N s0 = none := fun s0 hs0 => by rw [show κ.loc N s0 = ι.loc N s0 from plus_succ hs0]; exact hlocn s0
        refine ⟨q, ι₁, pend₁, I.hq, fun j o' hj ha' hlt => .inl (I.ahead j o' hj ha' hlt), fun j o' hj ha' hle hx => ?_, ?_, fun b L hp => ?_, fun j o' s' hle hx hj ha' hs' hw' => ?_, fun b b' L L' hb hb' he => ?_, ?_, ?_, fun hno => ?_⟩
        · rcases hx with hx | rfl
          · exact I.beyond j o' hj ha' hle hx
          · exact hf
        · have hgo := I.good
          refine ⟨⟨hgo.ext.loc, fun b s0 L h0 => ?_, hgo.ext.fresh, hgo.ext.own, fun c hc => ?_, hgo.ext.old⟩, ⟨fun b y' hb => ?_, fun b s0 L h0 => ?_, fun c b hc => ?_, hgo.rep.fresh⟩, ⟨?_, fun c hc hown => ?_, hgo.pres.tape, hgo.pres.os, hgo.pres.output, hgo.pres.fr.trans hgd.pres.fr⟩, hgo.low, hgo.q⟩
          · have e1 := hgo.ext.sz _ _ _ h0
            have := hgo.rep.lt _ _ _ (hgo.ext.loc _ _ _ h0)
            have hne : L.c ≠ w.heap.size := by omega
            simpa [ι₁, hne] using e1
          · have e1 := hgo.ext.csz c hc
            have := hgo.pres.size
            have hne : c ≠ w.heap.size := by omega
            simpa [ι₁, hne] using e1
          · have hb := hgo.rep.blk b y' hb
            refine ⟨hb.1, hb.2.keepS hι₁ (fun _ _ _ => rfl) (fun s0 L h0 _ => World.push_old w obj (hgo.rep.lt _ _ _ h0)) (fun cs esz log next ro hy s0 hs0 => ?_)⟩
            have hb2 := hb.2
            subst hy
            cases hb2 with | cells _ _ _ fresh => exact fresh s0 hs0
          · have := hgo.rep.lt b s0 L h0; simp; omega
          · have := hgo.rep.ownlt c b hc; exact ⟨by simp; omega, this.2⟩
          · have := hgo.pres.size; simp; omega
          · rw [World.push_old w obj (Nat.lt_of_lt_of_le hc hgo.pres.size)]; exact hgo.pres.same c hc hown
        · by_cases hbn : b = N
          · subst hbn; exact .inr ⟨i, o, s, hqi, .inr rfl, ho, hs, hw, hf, rfl⟩
          · have hp' : pend b = some L := by simpa [pend₁, hbn] using hp
            exact (I.keys b L hp').imp id (fun ⟨j, o', s', x1, x2, x3⟩ => ⟨j, o', s', x1, .inl x2, x3⟩)
        · by_cases hji : j = i
          · subst hji
            refine ⟨y, ⟨w.heap.size, 0, 0, z⟩, hst, by simp [pend₁, N], I.good.pres.size, by simp, ?_, fun b s0 L h0 e => ?_, ?_⟩
            · show ι.own w.heap.size = none
              cases hown : ι.own w.heap.size with
              | none => rfl
              | some b => have := (I.good.rep.ownlt _ _ hown).1; omega
            · have := I.good.rep.lt b s0 L h0; simp at e; omega
            · have hs1 := hadd (cut pend₁ (N + 1)) (fun b L h => by obtain ⟨h1, h2⟩ := cut_le h; unfold cut; rw [if_pos (by omega)]; exact hpp b L h2)
                (fun b h1 h2 => by unfold cut; rw [if_pos (by omega)]; have : b ≠ N := by omega
                                   simp [pend₁, this, h2]) (by unfold cut; rw [if_pos (by omega)]; simp [pend₁])
              refine hblk.keepS (ι' := (ι₁.plus (cut pend₁ (N + 1))).owned w.heap.size N) ⟨hs1.loc, hs1.sz⟩ (fun s0 L h0 => ?_) (fun _ _ _ _ => rfl) (fun cs esz log next ro hy s0 hs0 => ?_)
              · have : L.c = w.heap.size := by
                  simp only [Inj.add] at h0
                  split at h0
                  · cases h0; rfl
                  · rename_i hc; rw [hkn s0 (fun e => hc ⟨rfl, e⟩)] at h0; cases h0
                rw [this]; simp [Inj.owned, Inj.add, σ₂]
              · have hb2 := hblk
                subst hy
                cases hb2 with
                | cells _ _ _ fresh =>
                  have := fresh s0 hs0
                  by_cases hz0 : s0 = 0
                  · subst hz0; simp [Inj.add, σ₂] at this
                  · rw [show ((ι₁.plus (cut pend₁ (N + 1))).owned w.heap.size N).loc N s0 = ι.loc N s0 from plus_succ (ι := ι₁) hz0]; exact hlocn s0
          · have hxj := hx.resolve_right hji
            obtain ⟨yj, Lj, ej, hp⟩ := I.pok j o' s' hle hxj hj ha' hs' hw'
            refine ⟨yj, Lj, ej, hp.keep (hpp _ _ hp.get) (by simp) hp.own hp.off (hsubC _) (fun s0 _ => ?_) (World.push_old w obj hp.lt)⟩
            have hn := I.good.rep.fresh (stL l τ j).q s0 (S.mono q j hle (Nat.le_of_lt (hX j hxj)))
            exact ⟨hn, hn⟩
        · by_cases hbn : b = N
          · by_cases hbn' : b' = N
            · rw [hbn, hbn']
            · exfalso
              have h1 : L = ⟨w.heap.size, 0, 0, z⟩ := by simpa [pend₁, hbn] using hb.symm
              have h2 : pend b' = some L' := by simpa [pend₁, hbn'] using hb'
              have := I.lt_size h2
              rw [← he, h1] at this; simp at this
          · have h1 : pend b = some L := by simpa [pend₁, hbn] using hb
            by_cases hbn' : b' = N
            · exfalso
              have h2 : L' = ⟨w.heap.size, 0, 0, z⟩ := by simpa [pend₁, hbn'] using hb'.symm
              have := I.lt_size h1
              rw [he, h2] at this; simp at this
            · exact I.inj b b' L L' h1 (by simpa [pend₁, hbn'] using hb') he
        · refine (I.fr.sub hsubA).put ho hs hmax (hv.sub (hadd pend₁ (fun b L h => hpp b L (cut_le h).2) (fun b h1 h2 => ?_) (by simp [pend₁])))
          have : b ≠ N := by omega
          simp [pend₁, this, h2]
        · rw [← I.ds]; unfold Act.put; split <;> rfl
        · rw [hno i] at hf; cases hf
    · -- it looks
      -- the acts that have been run: all ahead of m, where m has not
      obtain ⟨m, hqm, hm, hall, hend⟩ : ∃ m, q ≤ m ∧ m ≤ ops.size ∧ (∀ (j : Nat) (o' : Oper), ops[j]? = some o' → j < m → actsB o'.op = true → X j) ∧ (m = ops.size ∨ ∃ om, ops[m]? = some om ∧ actsB om.op = true ∧ ¬ X m) := by
        have key : ∀ (k q : Nat), q + k = ops.size → (∀ (j : Nat) (o' : Oper), ops[j]? = some o' → j < q → actsB o'.op = true → X j) →
            ∃ m, q ≤ m ∧ m ≤ ops.size ∧ (∀ (j : Nat) (o' : Oper), ops[j]? = some o' → j < m → actsB o'.op = true → X j) ∧ (m = ops.size ∨ ∃ om, ops[m]? = some om ∧ actsB om.op = true ∧ ¬ X m) := by
          intro k
          induction k with
          | zero => intro q hq hall; exact ⟨q, Nat.le_refl _, by omega, hall, .inl (by omega)⟩
          | succ k ih =>
            intro q hq hall
            have hoq : ops[q]? = some ops[q] := by simp
            by_cases hbad : actsB ops[q].op = true ∧ ¬ X q
            · exact ⟨q, Nat.le_refl _, by omega, hall, .inr ⟨_, hoq, hbad.1, hbad.2⟩⟩
            · obtain ⟨m, m1, m2, m3, m4⟩ := ih (q + 1) (by omega) (fun j o' hj hlt ha' => by
                by_cases he : j = q
                · subst he; rw [hoq] at hj; cases hj
                  exact Classical.byContradiction fun hx => hbad ⟨ha', hx⟩
                · exact hall j o' hj (by omega) ha')
              exact ⟨m, by omega, m2, m3, m4⟩
        obtain ⟨m, m1, m2, m3, m4⟩ := key (ops.size - q) q (by have := I.hq; omega) (fun j o' hj hlt haj => I.ahead j o' hj haj hlt)
        exact ⟨m, m1, m2, m3, m4⟩
      obtain ⟨ι₁, I₁⟩ := I.advanceTo S hX hqm hm hall
      -- what it sees there
      have hlow := A.low i o s ho hs hw (by rw [ha, hlk]; rfl)
      have climb : ∀ k, i + k ≤ m → seeOp P (aeval (frL l t i)) (stL l τ (i + k)) o.op = some s.v ∧ ((∀ j, freeB ops (BF ops) j = false) ∨ below (stL l τ (i + k)).q (frL l t i) o = true) := by
        intro k
        induction k with
        | zero => intro _; exact ⟨hsee, hlow⟩
        | succ k ih =>
          intro hk
          obtain ⟨g1, g2⟩ := ih (by omega)
          have hok' : ops[i + k]? = some ops[i + k] := by simp
          obtain ⟨sk, hsk, _, _, _, _, _, k1, k2⟩ := S.at hok'
          have same : stL l τ (i + k + 1) = stL l τ (i + k) → seeOp P (aeval (frL l t i)) (stL l τ (i + (k + 1))) o.op = some s.v ∧ ((∀ j, freeB ops (BF ops) j = false) ∨ below (stL l τ (i + (k + 1))).q (frL l t i) o = true) := fun e => by
            rw [show i + (k + 1) = i + k + 1 by omega, e]; exact ⟨g1, g2⟩
          cases hak : actsB ops[i + k].op with
          | false =>
            refine same ?_
            cases hwk : sk.want with
            | false => exact (k2 hwk).2
            | true =>
              rcases opA_acts (k1 hwk) with ⟨h, _⟩ | ⟨_, _, _, h⟩ | ⟨_, _, _, h⟩
              · rw [hak] at h; cases h
              · exact h
              · exact h
          | true =>
            have hk0 : k ≠ 0 := fun e => by
              have h5 : ops[i + k]? = some o := by rw [e, Nat.add_zero]; exact ho
              rw [hok'] at h5
              rw [Option.some.inj h5, ha] at hak; cases hak
            have hxk := hall (i + k) _ hok' (by omega) hak
            have p1 : pre (BF ops) i (i + k) = false := by
              rw [Bool.eq_false_iff]; intro h
              exact R.not (pre_in D hC (i + k) _ hok' (fun e he hb => hC _ _ hxk hok' e he hb) i h)
            have p2 : pre (BF ops) (i + k) i = false := by
              rw [Bool.eq_false_iff]; intro h
              have := pre_lt D (i + k) i hlti h; omega
            obtain ⟨_, h3, h4⟩ := A.steady i (i + k) o _ s ho hok' (by omega) hs hw hlk hak p1 p2
            exact ⟨by rw [show i + (k + 1) = i + k + 1 by omega]; exact h3, .inr (by rw [show i + (k + 1) = i + k + 1 by omega]; exact h4)⟩
      have hsm : seeOp P (aeval (frL l t i)) (stL l τ m) o.op = some s.v ∧ ((∀ j, freeB ops (BF ops) j = false) ∨ below (stL l τ m).q (frL l t i) o = true) := by
        rcases Nat.lt_or_ge m i with hmi | hmi
        · rcases hend with he | ⟨om, hom, ham, hxm⟩
          · omega
          · have p1 : pre (BF ops) i m = false := by
              rw [Bool.eq_false_iff]; intro h
              have := pre_lt D i m (getD_of hom).2 h; omega
            have p2 : pre (BF ops) m i = false := by
              rw [Bool.eq_false_iff]; intro h
              exact hxm (R.pre D hC h)
            obtain ⟨⟨h3, h4⟩, _⟩ := A.steady i m o om s ho hom (by omega) hs hw hlk ham p1 p2
            exact ⟨h3, .inr h4⟩
        · have := climb (m - i) (by omega)
          rwa [show i + (m - i) = m by omega] at this
      refine seeOp_wp hz hsm.1 I₁.good.rep (fun x hx => I₁.lower S hX hsm.2 hx (R.operand D hC S I₁ hoi hx)) (fun v' hv => ?_)
      exact ⟨m, ι₁, pend, I₁.stepWith hs ho R.not hmax ha (hv.sub (I₁.sub_plus S hX))⟩
    · exact valOp_wp hz hval (fun x hx => R.operand D hC S I hoi hx) (fun v' hv => ⟨q, ι, pend, I.stepWith hs ho R.not hmax ha hv⟩)
end
end
end Go.Lay

/-! Draw5: Regions that draw their order: the region. Regions that do not. -/
namespace Go.Lay
open Go

theorem filter_lt : ∀ (l : List Nat) (p p' : Nat → Bool), (∀ x ∈ l, p' x = true → p x = true) → (∃ x, x ∈ l ∧ p x = true ∧ p' x = false) → (l.filter p').length < (l.filter p).length
  | [], _, _, _, h => by obtain ⟨x, h, _⟩ := h; cases h
  | y :: l, p, p', h1, h2 => by
    have le : ∀ (l : List Nat), (∀ x ∈ l, p' x = true → p x = true) → (l.filter p').length ≤ (l.filter p).length := by
      intro l
      induction l with
      | nil => intro _; simp
      | cons z l ih =>
        intro h
        have := ih (fun x hx => h x (by simp [hx]))
        have hz := h z (by simp)
        simp only [List.filter_cons]
        cases hp' : p' z with
        | true => rw [hz hp', if_pos rfl, if_pos rfl]; simp; omega
        | false => rw [if_neg (by simp)]; split <;> simp <;> omega
    have hl := le l (fun x hx => h1 x (by simp [hx]))
    obtain ⟨x, hx, a, b⟩ := h2
    simp only [List.filter_cons]
    rcases List.mem_cons.1 hx with rfl | hx
    · rw [a, b, if_neg (by simp), if_pos rfl]; simp; omega
    · have := filter_lt l p p' (fun x hx => h1 x (by simp [hx])) ⟨x, hx, a, b⟩
      have hy := h1 y (by simp)
      cases hp' : p' y with
      | true => rw [hy hp', if_pos rfl, if_pos rfl]; simp; omega
      | false => rw [if_neg (by simp)]; split <;> simp <;> omega

theorem free_out {ops : Array Oper} {B : Array Nat} {j : Nat} (h : ops.size ≤ j) : freeB ops B j = false := by
  have h1 : ops.getD j default = default := by simp [Array.getD, Nat.not_lt.2 h]
  unfold freeB
  rw [h1]; rfl

theorem belowAll_spec : ∀ (os : List Oper) (ss : List Seen), belowAll os ss = true → ∀ (i : Nat) (o : Oper) (s : Seen), os[i]? = some o → ss[i]? = some s → s.want = true → (actsB o.op || looksB o.op) = true → below s.before.q s.f o = true
  | [], _, _, i, o, s, h, _, _, _ => by simp at h
  | _ :: _, [], _, i, o, s, _, h, _, _ => by simp at h
  | o0 :: os, s0 :: ss, h, i, o, s, ho, hs, hw, hal => by
    simp only [belowAll, Bool.and_eq_true] at h
    cases i with
    | zero =>
      simp at ho hs; subst ho; subst hs
      have := h.1
      rw [hw, hal] at this
      simpa using this
    | succ i => exact belowAll_spec os ss h.2 i o s (by simpa using ho) (by simpa using hs) hw hal

theorem mem_pairs {ops : Array Oper} {B : Array Nat} {i k : Nat} {oi ok : Oper} (hi : ops[i]? = some oi) (hk : ops[k]? = some ok) (hne : i ≠ k) (hl : looksB oi.op = true) (ha : actsB ok.op = true) (h1 : pre B i k = false) (h2 : pre B k i = false) :
    (i, k) ∈ pairsA ops B := by
  unfold pairsA
  refine List.mem_flatMap.2 ⟨i, List.mem_range.2 (getD_of hi).2, ?_⟩
  rw [(getD_of hi).1, if_pos hl]
  refine List.mem_map.2 ⟨k, List.mem_filter.2 ⟨List.mem_range.2 (getD_of hk).2, ?_⟩, rfl⟩
  have hb : Nat.beq i k = false := by rw [Bool.eq_false_iff]; intro e; exact hne (Nat.eq_of_beq_eq_true e)
  rw [(getD_of hk).1, ha, apartB, h1, h2, hb]; rfl

section
variable {P : Program} {rec : Rec} {ops : Array Oper} {ι : Inj} {σ : St} {w : World}

theorem drawA_spec {f t : Tm} {τ : St} (h : drawA P rec ops f σ = some (t, τ)) : DrawOk ops ∧ ∃ l, seenA P rec ops ops.toList f σ = some (l, t, τ) ∧ Ask P ops l t τ := by
  unfold drawA at h
  obtain ⟨hd, h⟩ := bif_some h
  refine ⟨drawOk_spec hd, ?_⟩
  split at h
  · rename_i hp hf
    obtain ⟨l, hl⟩ := opsA_seen _ _ _ _ _ h
    refine ⟨l, hl, fun i o s _ _ _ _ => .inl (fun j => ?_), fun i k oi ok si hi hk hne _ _ hlk hak h1 h2 => ?_⟩
    · rcases Nat.lt_or_ge j ops.size with hj | hj
      · have := List.any_eq_false.1 hf j (List.mem_range.2 hj)
        simpa using this
      · exact free_out hj
    · have := mem_pairs hi hk hne hlk hak h1 h2
      rw [hp] at this; cases this
  · rename_i ps _ _
    split at h
    · rename_i l t' τ' hl
      obtain ⟨hc, h⟩ := bif_some h
      simp at h; obtain ⟨rfl, rfl⟩ := h
      simp only [Bool.and_eq_true] at hc
      obtain ⟨_, _, S⟩ := seenA_spec _ _ _ _ _ _ hl
      refine ⟨l, hl, fun i o s ho hs hw hal => .inr ?_, fun i k oi ok si hi hk hne hsi hw hlk hak h1 h2 => ?_⟩
      · have := belowAll_spec _ _ hc.1 i o s (by simpa using ho) hs hw hal
        obtain ⟨s', hs', e1, e2, _⟩ := S.at ho
        rw [hs] at hs'; cases hs'
        rw [← e1, ← e2]; exact this
      · have hm := mem_pairs hi hk hne hlk hak h1 h2
        have := List.all_eq_true.1 hc.2 _ hm
        obtain ⟨sk, hsk, _, k2, k3, _⟩ := S.at hk
        obtain ⟨si', hsi', i1, _⟩ := S.at hi
        rw [hsi] at hsi'; cases hsi'
        simp only [pairOk, hi, hsi, hsk, Bool.and_eq_true] at this
        rw [k2, k3] at this
        have one : ∀ σ, steady P oi si σ = true → seeOp P (aeval (frL l t' i)) σ oi.op = some si.v ∧ below σ.q (frL l t' i) oi = true := by
          intro σ hs
          unfold steady at hs
          rw [hw, cond_true, Bool.and_eq_true] at hs
          obtain ⟨hs1, hs2⟩ := hs
          rw [i1] at hs1 hs2
          refine ⟨?_, hs1⟩
          split at hs2
          · rename_i v hv
            have := veq_eq _ _ _ hs2
            subst this
            exact hv
          · cases hs2
        exact ⟨one _ this.1, one _ this.2⟩
    · cases h

theorem region_any (hz : zeroOk P) (hrec : RecSound P rec) {f t : Tm} {τ : St} {rd : Option Nat} {n : Nat} {Q : Exit → Act → World → Prop} {a : Act} (hok : ops.toList.all operOk = true)
    (h : drawA P rec ops f σ = some (t, τ)) (hr : Rep ι σ w) (hf : TmR ι f a.tmps)
    (hQ : ∀ ι' a' w', Good ι σ w ι' τ w' → TmR ι' t a'.tmps → a'.defers = a.defers → Q .normal a' w') : wpAnyIn (Fw rd) n P .any ops Q ops.size (Array.replicate ops.size false) a { w with drawn := w.drawn + 1 } := by
  obtain ⟨D, l, hl, A⟩ := drawA_spec h
  obtain ⟨e1, e2, S⟩ := seenA_spec _ _ _ _ _ _ hl
  have hoks : ∀ (j : Nat) (o : Oper), ops[j]? = some o → operOk o = true := fun j o ho => List.all_eq_true.1 hok o (by
    have : ops.toList[j]? = some o := by simpa using ho
    exact List.mem_of_getElem? this)
  have hS := S
  -- the end
  have fin : ∀ (X : Nat → Prop) (a' : Act) (w' : World), (∀ j, X j → j < ops.size) → (∀ j, j < ops.size → X j) → (∃ q ι' pend, Inv ops l t τ ι w a.defers X a' w' q ι' pend) → Q .normal a' w' := by
    intro X a' w' hX hall ⟨q, ι', pend, I⟩
    obtain ⟨ι₁, I₁⟩ := I.advanceTo S hX I.hq (Nat.le_refl _) (fun j o hj _ _ => hall j (getD_of hj).2)
    have hlen : l.length = ops.size := by rw [S.len]; simp
    have hend : stL l τ ops.size = τ := by simp [stL, hlen]
    have hfend : frL l t ops.size = t := by simp [frL, hlen]
    have hg := I₁.good
    rw [e2, hend] at hg
    have hsub : Sub (ι₁.plus pend) ι₁ := by
      refine ⟨fun b s L hL => ?_, fun _ _ _ _ => rfl⟩
      by_cases h0 : s = 0
      · subst h0
        cases hp : pend b with
        | none => rw [plus_none _ hp] at hL; exact hL
        | some L1 =>
          rw [plus_zero hp] at hL; cases hL
          rcases I₁.keys b L hp with ⟨_, x⟩ | ⟨j, _, _, x1, x2, _⟩
          · exact x
          · have := hX j x2; omega
      · rw [plus_succ h0] at hL; exact hL
    refine hQ ι₁ a' w' hg ⟨?_, fun t0 => ?_⟩ I₁.ds
    · have := S.frn ops.size (Nat.le_refl _)
      rw [hfend] at this
      rw [this]; exact I₁.fr.size
    · have := I₁.fr.match S (Nat.le_refl _) (t0 := t0) (fun i _ => ⟨fun h => hX i h, fun h => hall i h⟩)
      rw [hfend] at this
      exact this.sub hsub
  have key : ∀ (fuel : Nat) (listed : Array Bool) (a' : Act) (w' : World), listed.size = ops.size → Closed ops (fun j => listed.getD j false = true) → ((List.range ops.size).filter fun j => !listed.getD j false).length ≤ fuel →
      (∃ q ι' pend, Inv ops l t τ ι w a.defers (fun j => listed.getD j false = true) a' w' q ι' pend) → wpAnyIn (Fw rd) n P .any ops Q fuel listed a' w' := by
    intro fuel
    induction fuel with
    | zero =>
      intro listed a' w' hsz hC hcnt hI
      have hall : ∀ j, j < ops.size → listed.getD j false = true := by
        intro j hj
        cases hlj : listed.getD j false with
        | true => rfl
        | false =>
          have : j ∈ (List.range ops.size).filter fun j => !listed.getD j false := List.mem_filter.2 ⟨List.mem_range.2 hj, by rw [hlj]; rfl⟩
          have h0 := List.eq_nil_of_length_eq_zero (Nat.le_zero.1 hcnt)
          rw [h0] at this; cases this
      refine ⟨?_, fin _ a' w' (fun j hj => ?_) hall hI⟩
      · refine List.eq_nil_iff_forall_not_mem.2 (fun j hj => ?_)
        obtain ⟨h0, o, ho, _⟩ := mem_ready.1 hj
        have hlt := (getD_of ho).2
        have := hall j hlt
        simp [Array.getD, hsz, hlt] at this h0
        rw [this] at h0; cases h0
      · rcases Nat.lt_or_ge j ops.size with hlt | hge
        · exact hlt
        · simp [Array.getD, hsz, Nat.not_lt.2 hge] at hj
    | succ fuel ih =>
      intro listed a' w' hsz hC hcnt hI
      have hX : ∀ j, listed.getD j false = true → j < ops.size := fun j hj => by
        rcases Nat.lt_or_ge j ops.size with hlt | hge
        · exact hlt
        · simp [Array.getD, hsz, Nat.not_lt.2 hge] at hj
      refine ⟨fun hnil => fin _ a' w' hX (fun j => ?_) hI, fun i hi => ?_⟩
      · induction j using Nat.strongRecOn with
        | _ j ihj =>
          intro hj
          cases hlj : listed.getD j false with
          | true => rfl
          | false =>
            have ho : ops[j]? = some ops[j] := by simp [hj]
            have : j ∈ Region.ready .any ops listed := by
              refine mem_ready.2 ⟨by simpa [Array.getD, hsz, hj] using hlj, _, ho, fun e he hb => ?_⟩
              have hlt := D.back j _ ho e (by simpa using he) hb
              exact ihj e.on hlt (by omega)
            rw [hnil] at this; cases this
      · obtain ⟨h0, o, ho, hdep⟩ := mem_ready.1 hi
        have hlt := (getD_of ho).2
        have hn : listed.getD i false = false := by simpa [Array.getD, hsz, hlt] using h0
        have hset : ∀ j, ((listed.setIfInBounds i true).getD j false = true) ↔ (listed.getD j false = true ∨ j = i) := by
          intro j
          by_cases hji : j = i
          · subst hji; simp [Array.getD, hsz, hlt]
          · have := getD_set_ne (listed := listed) false (Ne.symm hji)
            rw [this]; simp [hji]
        obtain ⟨q, ι', pend, I⟩ := hI
        have R : Rdy ops (fun j => listed.getD j false = true) i o := ⟨ho, by rw [hn]; simp, fun e he hb => hdep e (by simpa using he) hb⟩
        refine wpOpIn_mono (fun a₂ w₂ hI₂ => ih _ a₂ w₂ (by simpa using hsz) ?_ ?_ ?_) (I.step hz hrec D hS A hC hX hoks R)
        · intro j o' hj ho' e he hb
          rw [hset] at hj ⊢
          rcases hj with hj | rfl
          · exact .inl (hC j o' hj ho' e he hb)
          · rw [ho] at ho'; cases ho'; exact .inl (hdep e (by simpa using he) hb)
        · have := filter_lt (List.range ops.size) (fun j => !listed.getD j false) (fun j => !(listed.setIfInBounds i true).getD j false) (fun x _ hx => ?_) ⟨i, List.mem_range.2 hlt, by rw [hn]; rfl, ?_⟩
          · omega
          · cases hlx : listed.getD x false with
            | false => rfl
            | true => rw [(hset x).2 (.inl hlx)] at hx; cases hx
          · rw [(hset i).2 (.inr rfl)]; rfl
        · obtain ⟨q', ι₂, pend₂, I₂⟩ := hI₂
          refine ⟨q', ι₂, pend₂, ?_⟩
          have : (fun j => (listed.setIfInBounds i true).getD j false = true) = (fun j => listed.getD j false = true ∨ j = i) := funext fun j => propext (hset j)
          rw [this]; exact I₂
  have hno : ∀ j, ¬ (Array.replicate ops.size false).getD j false = true := fun j => by
    by_cases hj : j < ops.size <;> simp [Array.getD, hj]
  refine key ops.size _ a (drew w) (by simp) (fun j o hj => absurd hj (hno j)) ?_ ⟨0, ι, fun _ => none, ?_⟩
  · exact Nat.le_trans (List.length_filter_le _ _) (by simp)
  · have hpl : Sub ι (ι.plus fun _ => none) := ⟨fun b s L hL => by rw [plus_none _ rfl]; exact hL, fun _ _ _ _ => rfl⟩
    refine ⟨Nat.zero_le _, fun j o _ _ h => absurd h (Nat.not_lt_zero _), fun j o _ _ _ hx => absurd hx (hno j), by rw [e2]; exact Good.drew hr, fun b L h => by simp at h, fun j o s _ hx => absurd hx (hno j), fun b b' L L' h => by simp at h, ?_, rfl, fun _ _ => rfl⟩
    rw [e1]
    refine ⟨hf.1, fun t0 _ => .inr ⟨fun i hi => absurd hi (hno i), (hf.2 t0).sub hpl⟩, fun t0 h0 => ?_⟩
    have := (hf.2 t0).sub hpl
    have hlt : ¬ t0 < a.tmps.size := by rw [← hf.1]; exact h0
    simpa [Array.getD, hlt] using this
theorem region_draw (hm : P.follows .mixedOrders = true) (hz : zeroOk P) (hrec : RecSound P rec) {f t : Tm} {τ : St} {id : Nat} {rd : Option Nat} {n : Nat} {Q : Exit → Act → World → Prop} {a : Act} (hok : ops.toList.all operOk = true)
    (h : drawA P rec ops f σ = some (t, τ)) (hr : Rep ι σ w) (hf : TmR ι f a.tmps)
    (hQ : ∀ ι' a' w', Good ι σ w ι' τ w' → TmR ι' t a'.tmps → a'.defers = a.defers → Q .normal a' w') : (Code.region id ops true).wpIn (Fw rd) n P Q a w := wpIn_region_any hm (region_any hz hrec hok h hr hf hQ)

/-! ### Regions in the order of the text -/
theorem opsA_wp (hz : zeroOk P) (hrec : RecSound P rec) {ι0 : Inj} {σ0 : St} {w0 : World} {rd : Option Nat} {n : Nat} {Q : Exit → Act → World → Prop} {ds : List Deferred} :
    ∀ (rest : List Oper) (k : Nat) {f t : Tm} {σ τ : St} {ι : Inj} {w : World} {a : Act}, opsA P rec ops rest f σ = some (t, τ) → (∀ i, i < rest.length → ops[k + i]? = rest[i]?) → k + rest.length = ops.size → rest.all operOk = true →
    Good ι0 σ0 w0 ι σ w → TmR ι f a.tmps → a.defers = ds → (∀ ι' a' w', Good ι0 σ0 w0 ι' τ w' → TmR ι' t a'.tmps → a'.defers = ds → Q .normal a' w') → wpOpsIn (Fw rd) n P ops Q ((List.range rest.length).map (k + ·)) a w
  | [], k, f, t, σ, τ, ι, w, a, h, _, _, _, hg, hf, hd, hQ => by
    simp [opsA] at h; obtain ⟨rfl, rfl⟩ := h
    exact hQ ι a w hg hf hd
  | o :: rest, k, f, t, σ, τ, ι, w, a, h, hget, hk, hok, hg, hf, hd, hQ => by
    simp only [List.all_cons, Bool.and_eq_true] at hok
    have hl : (List.range (o :: rest).length).map (k + ·) = k :: (List.range rest.length).map (k + 1 + ·) := by
      rw [List.length_cons, List.range_succ_eq_map, List.map_cons, List.map_map]
      congr 1
      refine List.map_congr_left (fun i _ => ?_)
      simp; omega
    rw [hl]
    have ho : ops[k]? = some o := by have := hget 0 (by simp); simpa using this
    have go : ∀ (v v' : Value) (σ' : St) (ι' : Inj) (w' : World), opsA P rec ops rest (setO f o.dst v) σ' = some (t, τ) → VR ι' v v' → Good ι σ w ι' σ' w' → wpOpsIn (Fw rd) n P ops Q ((List.range rest.length).map (k + 1 + ·)) (a.put o.dst v') w' := by
      intro v v' σ' ι' w' h' hv hg'
      refine opsA_wp hz hrec rest (k + 1) h' (fun i hi => ?_) (by simp at hk; omega) hok.2 (hg.trans hg') ?_ ?_ hQ
      · have := hget (i + 1) (by simp; omega)
        simpa [Nat.add_assoc, Nat.add_comm 1 i] using this
      · unfold setO Act.put
        cases o.dst with
        | none => exact hf.ext hg'.ext
        | some d => exact (hf.ext hg'.ext).set d hv
      · rw [← hd]; unfold Act.put; split <;> rfl
    simp only [wpOpsIn, ho]
    unfold opsA at h
    split at h
    · rename_i hgd
      rw [guardA_sound hgd (fun j want d _ _ => hf.2 d), if_pos rfl]
      split at h
      · rename_i v σ' hop
        rw [putA_eq] at h
        exact opA_sound hz hrec hop hg.rep (fun x hx => aeval_sound hf (opsOk hok.1 hx)) (fun v' w' ι' hv hg' => go v v' σ' ι' w' h hv hg')
      · cases h
    · rename_i hgd
      rw [guardA_sound hgd (fun j want d _ _ => hf.2 d), if_neg (by simp)]
      rw [putA_eq] at h
      exact ⟨fun f _ => Fw_fn rd f, go undef undef σ ι w h .undef (.refl hg.rep)⟩
    · cases h

theorem region_text (hz : zeroOk P) (hrec : RecSound P rec) {f t : Tm} {τ : St} {id : Nat} {rd : Option Nat} {n : Nat} {Q : Exit → Act → World → Prop} {a : Act} (hok : ops.toList.all operOk = true)
    (h : opsA P rec ops ops.toList f σ = some (t, τ)) (hr : Rep ι σ w) (hf : TmR ι f a.tmps)
    (hQ : ∀ ι' a' w', Good ι σ w ι' τ w' → TmR ι' t a'.tmps → a'.defers = a.defers → Q .normal a' w') : (Code.region id ops false).wpIn (Fw rd) n P Q a w := by
  refine wpIn_region ?_
  have := opsA_wp (rd := rd) (n := n) (Q := Q) hz hrec ops.toList 0 h (fun i _ => by simp) (by simp) hok (.refl hr) hf rfl hQ
  simpa using this
end
end Go.Lay

/-! Cod: Code; functions: the theorem. -/
namespace Go.Lay
open Go

/-! ### Two rules of the calculus -/
section
variable {F : Fence} {n : Nat} {P : Program} {Q : Exit → Act → World → Prop} {a : Act} {w : World}
theorem stepR_scope {b : Frame} {k : List Item} {cs : List Frame} {c : Code} : step P (lone (b.atR a (.code (.scope c) :: k)) cs w) = .next (lone (b.atR a (.code c :: .inScope c :: k)) cs w) :=
  step_lone_go (by simp [stepG, stepG.exec, Frame.atR])
theorem stepR_inScope {b : Frame} {k : List Item} {cs : List Frame} {c : Code} : step P (lone (b.atR a (.inScope c :: k)) cs w) = .next (lone (b.atR a k) cs w) :=
  step_lone_go (by simp [stepG, stepG.exec, Frame.atR])
theorem wpIn_scopeN {c : Code} (h : c.wpIn F n P (fun e a w => (∀ l, e ≠ .goto l) ∧ Q e a w) a w) : (Code.scope c).wpIn F n P Q a w := by
  intro b k cs hro hb hr
  have h0 : (lone (b.atR a (.code (.scope c) :: k)) cs w).fenced P F := fenced_calm hb hr rfl
  obtain ⟨e, a₁, w₁, ⟨hg, hq⟩, harr⟩ := h b (.inScope c :: k) cs hro hb hr
  cases e with
  | normal => exact ⟨.normal, a₁, w₁, hq, .head h0 stepR_scope (StepsIn.trans harr (.one (fenced_calm hb hr rfl) stepR_inScope))⟩
  | exit id =>
    exact ⟨.exit id, a₁, w₁, hq, fun k' hk => .head h0 stepR_scope (harr.1 k' hk), fun hr' hk => let ⟨k₁, h1, h2⟩ := harr.2 hr' hk; ⟨k₁, h1, .head h0 stepR_scope h2⟩⟩
  | goto l => exact absurd rfl (hg l)
  | ret => exact ⟨_, a₁, w₁, hq, .of_steps (.one h0 stepR_scope) harr⟩
  | panic ch => exact ⟨_, a₁, w₁, hq, .of_steps (.one h0 stepR_scope) harr⟩
  | outgrown => exact ⟨_, a₁, w₁, hq, .of_steps (.one h0 stepR_scope) harr⟩
theorem wpIn_loopN {c : Code} (J : Nat → Act → World → Prop) {N : Nat} (h₀ : J N a w)
    (round : ∀ m a w, J m a w → c.wpIn F n P (Exit.then (fun a' w' => ∃ m', m' < m ∧ J m' a' w') Q) a w) : (Code.loop c).wpIn F n P Q a w := by
  intro b k cs hro hb hr
  have key : ∀ j a w, J j a w → ∃ e a' w', Q e a' w' ∧ ArrivesIn (Machine.fenced P F) P (lone (b.atR a (.code c :: .inLoop c :: k)) cs w) b k cs e a' w' := by
    intro j
    induction j using Nat.strongRecOn with
    | _ j ih =>
      intro a w hJ
      obtain ⟨e, a₁, w₁, hq, harr⟩ := round j a w hJ b (.inLoop c :: k) cs hro hb hr
      cases e with
      | normal =>
        obtain ⟨m', hlt, hJ'⟩ := hq
        obtain ⟨e₂, a₂, w₂, hq₂, harr₂⟩ := ih m' hlt a₁ w₁ hJ'
        exact ⟨e₂, a₂, w₂, hq₂, .of_steps (StepsIn.trans harr (.one (fenced_calm hb hr rfl) stepR_inLoop)) harr₂⟩
      | exit id => exact ⟨_, a₁, w₁, hq, .pass (x := .inLoop c) rfl (fun _ _ => .inl (by simp)) harr⟩
      | goto l => exact ⟨_, a₁, w₁, hq, .pass (x := .inLoop c) rfl (fun _ _ => .inl (by simp)) harr⟩
      | ret => exact ⟨_, a₁, w₁, hq, .pass (x := .inLoop c) rfl (fun _ _ => .inl (by simp)) harr⟩
      | panic ch => exact ⟨_, a₁, w₁, hq, .pass (x := .inLoop c) rfl (fun _ _ => .inl (by simp)) harr⟩
      | outgrown => exact ⟨_, a₁, w₁, hq, .pass (x := .inLoop c) rfl (fun _ _ => .inl (by simp)) harr⟩
  obtain ⟨e, a', w', hq, harr⟩ := key N a w h₀
  exact ⟨e, a', w', hq, .of_steps (.one (fenced_calm hb hr rfl) stepR_loop) harr⟩
end

/-! ### Frames -/
def markOf (c : Nat) : Deferred := { target := .collected c, args := #[] }
inductive DefR (ι : Inj) : List Nat → List Deferred → Prop
  | nil : DefR ι [] []
  | cons {m : Nat} {L : Loc} {ms : List Nat} {ds : List Deferred} (h : ι.loc m 0 = some L) (t : DefR ι ms ds) : DefR ι (m :: ms) (markOf L.c :: ds)
theorem DefR.sub {ι ι' : Inj} (e : Sub ι ι') {ms : List Nat} {ds : List Deferred} (h : DefR ι ms ds) : DefR ι' ms ds := by
  induction h with
  | nil => exact .nil
  | cons h _ ih => exact .cons (e.loc _ _ _ h) ih
structure FrR (ι : Inj) (fr : Fr) (a : Act) : Prop where
  tms : TmR ι fr.f a.tmps
  defs : DefR ι fr.marks a.defers
theorem FrR.sub {ι ι' : Inj} (e : Sub ι ι') {fr : Fr} {a : Act} (h : FrR ι fr a) : FrR ι' fr a := ⟨h.tms.sub e, h.defs.sub e⟩
/-- The round that one is in. -/
inductive RdR (ι : Inj) : Option Nat → Option Nat → Prop
  | none : RdR ι none none
  | some {r : Nat} {L : Loc} (h : ι.loc r 0 = some L) : RdR ι (some r) (some L.c)
theorem RdR.sub {ι ι' : Inj} (e : Sub ι ι') {rd rd' : Option Nat} (h : RdR ι rd rd') : RdR ι' rd rd' := by
  cases h with
  | none => exact .none
  | some h => exact .some (e.loc _ _ _ h)

section
variable {P : Program} {rec : Rec} {ι : Inj} {σ : St} {w : World}

/-- A loop's block, laid anew. -/
theorem loop_put {l : Nat} {tm : Tm} {ps : List Tmp} {as bo : Code} {st st' : LoopState} {pend pend' : Option Code} {db : Nat} (hr : Rep ι σ w) (hb : getB σ.heap l = some (.loop tm ps as bo st pend db)) :
    ∃ L r, ι.loc l 0 = some L ∧ w.heap[L.c]? = some (.loop r) ∧ r.state = st ∧ r.pending = pend ∧ TmR ι tm r.tmps ∧ r.params = ps.toArray ∧ r.assign = as ∧ r.body = bo ∧ codeOk as = true ∧ codeOk bo = true ∧ (∃ Ld, ι.loc db 0 = some Ld ∧ r.defers = Ld.c) ∧
      Good ι σ w ι (σ.put l (.loop tm ps as bo st' pend' db)) (w.putObj L.c (.loop { r with state := st', pending := pend' })) := by
  cases (hr.blk _ _ hb).2 with
  | loop loc own locd row tms oka okb =>
    rename_i fn L Ld
    have hlt := hr.lt _ _ _ loc
    refine ⟨L, _, loc, row, rfl, rfl, tms, rfl, rfl, rfl, oka, okb, ⟨Ld, locd, rfl⟩, ?_⟩
    refine Good.putBlk hr hb (Ext.refl _ _ _) (fun _ _ _ => rfl) (fun b s L h => by simpa using hr.lt b s L h) (fun c b h => by simpa using hr.ownlt c b h) (by simp)
      (fun c _ hc => World.putObj_heap_other (fun e => hc (by rw [e]; exact own))) ⟨rfl, rfl, rfl⟩ (.one L.c (fun c hc => World.putObj_heap_other hc) (fun _ _ _ h => by rw [World.putObj_heap_same hlt] at h; cases h)) ?_
    exact .loop loc own locd (World.putObj_heap_same hlt) tms oka okb

theorem shut_good {d : Nat} (hr : Rep ι σ w) (hb : getB σ.heap d = some .defd) : ∃ L, ι.loc d 0 = some L ∧ w.heap[L.c]? = some (.deferred (some [])) ∧ Good ι σ w ι (σ.shut d) (w.putObj L.c (.deferred none)) := by
  have hbd := hr.blk _ _ hb
  cases hbd.2 with
  | defd loc own row =>
    rename_i L
    refine ⟨L, loc, row, Ext.refl _ _ _, ⟨fun b y hby => ?_, fun b s L h => by simpa using hr.lt b s L h, fun c b h => by simpa using hr.ownlt c b h, hr.fresh⟩, ⟨by simp, fun c hc ho => ?_, rfl, rfl, rfl, .one L.c (fun c hc => World.putObj_heap_other hc) (fun _ _ _ h => by rw [World.putObj_heap_same (hr.lt _ _ _ loc)] at h; cases h)⟩, by simp; omega, by simp⟩
    · rw [St.shut_get] at hby
      by_cases hbe : b = d
      · rw [if_pos hbe] at hby; cases hby
      · rw [if_neg hbe] at hby
        have h := hr.blk b y hby
        refine ⟨h.1, h.2.keep (Ext.refl ι w.heap.size 0) hr.lt (fun c hc ho => World.putObj_heap_other (fun e => ?_)) (fun cs esz log next ro hy s hs => ?_)⟩
        · subst e
          rcases ho with ho | ho
          · rw [own] at ho; cases ho; exact hbe rfl
          · rw [own] at ho; cases ho
        · have h2 := h.2
          subst hy
          cases h2 with | cells _ _ _ fresh => exact fresh s hs
    · refine World.putObj_heap_other (fun e => ?_)
      subst e
      have := ho d own
      simp at this; omega

theorem rangeEnd_inv {l : Nat} {fr fr' : Fr} {e : Exit} {σ' : St} (h : rangeEnd l fr σ = some (e, fr', σ')) : ∃ tm ps as bo st pend db, getB σ.heap l = some (.loop tm ps as bo st pend db) ∧ st ≠ .busy ∧ fr' = fr ∧
    σ' = σ.put l (.loop tm ps as bo .exhausted pend db) ∧ ((pend = none ∧ e = .normal) ∨ (pend = some .ret ∧ e = .ret) ∨ ∃ id, pend = some (.exit id) ∧ e = .exit id) := by
  unfold rangeEnd at h
  split at h
  · rename_i tm ps as bo st pend db hb
    refine ⟨tm, ps, as, bo, st, pend, db, hb, ?_⟩
    split at h
    · cases h
    · rename_i hst
      rw [St.write_eq] at h
      refine ⟨fun e => hst e, ?_⟩
      split at h
      · simp at h; obtain ⟨rfl, rfl, rfl⟩ := h; exact ⟨rfl, rfl, .inl ⟨rfl, rfl⟩⟩
      · simp at h; obtain ⟨rfl, rfl, rfl⟩ := h; exact ⟨rfl, rfl, .inr (.inl ⟨rfl, rfl⟩)⟩
      · simp at h; obtain ⟨rfl, rfl, rfl⟩ := h; exact ⟨rfl, rfl, .inr (.inr ⟨_, rfl, rfl⟩)⟩
      · cases h
  · cases h

theorem rangeEnd_sound {l : Nat} {fr fr' : Fr} {e : Exit} {σ' : St} (h : rangeEnd l fr σ = some (e, fr', σ')) (hr : Rep ι σ w) {a : Act} {rd : Option Nat} {n : Nat} {Q : Exit → Act → World → Prop} {L : Loc} (hl : ι.loc l 0 = some L)
    (hQ : ∀ w', Good ι σ w ι σ' w' → fr' = fr → Q e a w') : ∃ jump w₄, (Instr.endLoop L.c).run P w = .ok jump w₄ ∧ (match jump with | none => Q .normal a w₄ | some c => c.wpIn (Fw rd) n P Q a w₄) := by
  obtain ⟨tm, ps, as, bo, st, pend, db, hb, hst, rfl, rfl, hcase⟩ := rangeEnd_inv h
  obtain ⟨L', r, h1, h2, h3, h4, _, _, _, _, _, _, _, hg⟩ := loop_put (st' := .exhausted) (pend' := pend) hr hb
  rw [hl] at h1; cases h1
  have hq := hQ _ hg rfl
  refine ⟨r.pending, _, run_endLoop h2 (by rw [h3]; exact hst), ?_⟩
  have hr2 : (w.putObj L.c (.loop { r with state := .exhausted })) = (w.putObj L.c (.loop { r with state := .exhausted, pending := pend })) := by rw [← h4]
  rw [hr2, h4]
  rcases hcase with ⟨hp, he⟩ | ⟨hp, he⟩ | ⟨id, hp, he⟩
  · rw [hp] at hq ⊢; rw [he] at hq; exact hq
  · rw [hp] at hq ⊢; rw [he] at hq; exact wpIn_ret hq
  · rw [hp] at hq ⊢; rw [he] at hq; exact wpIn_exit hq

theorem rangeGo_sound (hrec : RecSound P rec) {g : Operand} {ps : Array Tmp} {as bo : Code} {db : Nat} {fr fr' : Fr} {e : Exit} {σ' : St} (h : rangeGo rec g ps as bo db fr σ = some (e, fr', σ')) (hr : Rep ι σ w) {a : Act} (hf : FrR ι fr a)
    (hgk : constOk g = true) (ha : codeOk as = true) (hb : codeOk bo = true) {Ld : Loc} (hd : ι.loc db 0 = some Ld) (fn : FuncId) {rd : Option Nat} {n : Nat} {Q : Exit → Act → World → Prop}
    (hQ : ∀ ι' w', Good ι σ w ι' σ' w' → FrR ι' fr' a → Q e a w') :
    let w₁ := w.alloc (.loop { state := .ready, pending := none, fn, tmps := a.tmps, params := ps, assign := as, body := bo, defers := Ld.c })
    ∃ d f args, (resolve a.eval (rangeCall g w.heap.size) 0).run P w₁ = .ok d w₁ ∧ (invoke d.target d.args).run P w₁ = .ok (.enter f args) w₁ ∧ CallsIn (Fw rd) (n - 1) P f args w₁ (rangePost (Fw rd) n P w.heap.size Q a) := by
  intro w₁
  unfold rangeGo at h
  rw [St.new_eq] at h
  have e0 := Inj.add_ext (n := 0) (z := 0) hr (hr.free _)
  have hg1 : Good ι σ w (ι.add σ.q w.heap.size 0 0) (σ.add (.loop fr.f ps.toList as bo .ready none db)) w₁ :=
    Good.addBlk hr (hr.free _) (fun _ _ _ h => by cases h) (.loop (fn := fn) (Inj.add_loc _ _ _ _) (by simp [Inj.add]) (e0.loc _ _ _ hd) (by rw [World.push_new]) (hf.tms.ext e0) ha hb)
  split at h
  · rename_i hh args href
    have hev : VR (ι.add σ.q w.heap.size 0 0) (aeval fr.f g) (a.eval g) := (aeval_sound hf.tms hgk).ext hg1.ext
    have harg : VRs (ι.add σ.q w.heap.size 0 0) [.func (.yield σ.q) #[] #[]] [.func (.yield w.heap.size) #[] #[]] :=
      .cons (.func (.yield (L := ⟨w.heap.size, 0, 0, 0⟩) (Inj.add_loc _ _ _ _)) rfl (fun i v v' h => by simp at h) rfl (fun i v v' h => by simp at h)) .nil
    obtain ⟨as', hvs, hcase⟩ := call_run (P := P) href hev harg
    rcases hcase with ⟨f, cap, hfe, d, hd1, hd2, hd3⟩ | ⟨l0, _, _, hfe, _⟩
    · cases hfe
      split at h
      · rename_i v₃ σ₃ hc
        obtain ⟨⟨fn', hfn, hbody, hname⟩, hcall⟩ := callA_func hrec hc hg1.rep hvs
        refine ⟨d, hh, ⟨as'⟩, ?_, ?_, CallsIn.mono (hcall rd _) (fun e' w₃ hR => ?_)⟩
        · have := hd1 w₁
          simpa [resolve, Act.eval] using this
        · have hb : fn'.body ≠ none := by cases hb : fn'.body <;> simp_all
          rw [hd2]
          simp [invoke, callFunc, hfn, hb, hname, hd3]
        · cases e' with
          | returned v' =>
            obtain ⟨ι₃, _, hg3⟩ := hR
            have hl3 : ι₃.loc σ.q 0 = some ⟨w.heap.size, 0, 0, 0⟩ := hg3.ext.loc _ _ _ (Inj.add_loc _ _ _ _)
            obtain ⟨jump, w₄, h1, h2⟩ := rangeEnd_sound (P := P) (rd := rd) (n := n) (Q := Q) (a := a) h hg3.rep hl3 (fun w' hg4 hfr => hQ ι₃ w' ((hg1.trans hg3).trans hg4) (by rw [hfr]; exact (hf.sub hg1.ext.sub).sub hg3.ext.sub))
            exact ⟨jump, w₄, h1, h2⟩
          | panicked _ => exact hR.elim
          | outgrown => exact hR.elim
      · cases h
    · cases hfe
  · cases h

theorem rangeA_sound (hrec : RecSound P rec) {g : Operand} {ps : Array Tmp} {as bo : Code} {fr fr' : Fr} {e : Exit} {σ' : St} {r : Option Nat} (h : rangeA rec r g ps as bo fr σ = some (e, fr', σ')) (hr : Rep ι σ w) {a : Act} (hf : FrR ι fr a)
    {rd : Option Nat} (hrd : RdR ι r rd) (hgk : constOk g = true) (ha : codeOk as = true) (hb : codeOk bo = true) {n : Nat} {Q : Exit → Act → World → Prop}
    (hQ : ∀ ι' a' w', Good ι σ w ι' σ' w' → FrR ι' fr' a' → Q e a' w') : (Code.rangeFunc g ps as bo).wpIn (Fw rd) n P Q a w := by
  refine wpIn_rangeFunc (fun fn _ => ?_)
  unfold rangeA at h
  cases hrd with
  | none =>
    simp only [St.new_eq] at h
    have hg1 : Good ι σ w (ι.add σ.q w.heap.size 0 0) (σ.add .defd) (w.alloc (.deferred (some []))) :=
      Good.addBlk hr (hr.free _) (fun _ _ _ h => by cases h) (.defd (Inj.add_loc _ _ _ _) (by simp [Inj.add]) (World.push_new _ _))
    have hf1 : FrR (ι.add σ.q w.heap.size 0 0) ⟨fr.f, σ.q :: fr.marks⟩ { a with defers := markOf w.heap.size :: a.defers } :=
      ⟨hf.tms.ext hg1.ext, .cons (L := ⟨w.heap.size, 0, 0, 0⟩) (Inj.add_loc _ _ _ _) (hf.defs.sub hg1.ext.sub)⟩
    obtain ⟨d, f, args, h1, h2, h3⟩ := rangeGo_sound hrec h hg1.rep hf1 hgk ha hb (Ld := ⟨w.heap.size, 0, 0, 0⟩) (Inj.add_loc _ _ _ _) fn (rd := none) (n := n) (Q := Q) (fun ι' w' hg hf' => hQ ι' _ w' (hg1.trans hg) hf')
    have e1 : (w.alloc (.deferred (some []))).heap.size = w.heap.size + 1 := World.push_size w _
    rw [e1] at h1 h3
    exact ⟨_, [markOf w.heap.size], _, d, _, f, args, _, run_enterLoop_outer fn a.tmps ps as bo, h1, fun _ _ => Fw_fn none _, h2, fun hs => Fw_depth none hs n, h3⟩
  | @some r0 L hl =>
    simp only at h
    split at h
    · rename_i hbk
      obtain ⟨L', rr, k1, k2, _, _, _, _, _, _, _, _, ⟨Ld, k3, k4⟩, _⟩ := loop_put (st' := .ready) (pend' := none) hr hbk
      rw [hl] at k1; cases k1
      obtain ⟨d, f, args, h1, h2, h3⟩ := rangeGo_sound hrec h hr hf hgk ha hb k3 fn (rd := some L.c) (n := n) (Q := Q) (fun ι' w' hg hf' => hQ ι' _ w' hg hf')
      refine ⟨w.heap.size, [], _, d, _, f, args, _, ?_, h1, fun _ _ => Fw_fn _ _, h2, fun hs => Fw_depth _ hs n, h3⟩
      show (Instr.enterLoop fn a.tmps ps as bo (some L.c)).run P w = _
      simp only [Instr.enterLoop, Sem.run_bind, run_getLoop k2, Result.andThen_ok, Sem.run_pure, run_newObj_alloc, k4]
    · cases h

theorem codeA_noGoto (fuel : Nat) (rd : Option Nat) : ∀ (c : Code) (fr : Fr) (σ : St) (e : Exit) (fr' : Fr) (σ' : St), codeA P rec fuel rd c fr σ = some (e, fr', σ') → ∀ l, e ≠ .goto l := by
  intro c
  induction c with
  | skip => intro fr σ e fr' σ' h l; simp [codeA] at h; rw [← h.1]; simp
  | label _ => intro fr σ e fr' σ' h l; simp [codeA] at h; rw [← h.1]; simp
  | ret => intro fr σ e fr' σ' h l; simp [codeA] at h; rw [← h.1]; simp
  | exit _ => intro fr σ e fr' σ' h l; simp [codeA] at h; rw [← h.1]; simp
  | goto _ => intro fr σ e fr' σ' h; simp [codeA] at h
  | refuse _ => intro fr σ e fr' σ' h; simp [codeA] at h
  | seq x y ihx ihy =>
    intro fr σ e fr' σ' h
    simp only [codeA, seqA] at h
    split at h
    · exact ihy _ _ _ _ _ h
    · exact ihx _ _ _ _ _ h
  | cond c x y ihx ihy =>
    intro fr σ e fr' σ' h
    simp only [codeA, condA] at h
    split at h
    · split at h
      · exact ihx _ _ _ _ _ h
      · exact ihy _ _ _ _ _ h
    · cases h
  | block id c ih =>
    intro fr σ e fr' σ' h l
    simp only [codeA, blockA] at h
    split at h
    · rcases bif_cases h with ⟨_, h⟩ | ⟨_, h⟩ <;> (simp at h; rw [← h.1]; simp)
    · exact ih _ _ _ _ _ h l
  | scope c ih => intro fr σ e fr' σ' h; exact ih _ _ _ _ _ h
  | loop c ih =>
    intro fr σ e fr' σ' h
    simp only [codeA] at h
    have key : ∀ n fr σ, loopA (codeA P rec fuel rd c) n fr σ = some (e, fr', σ') → ∀ l, e ≠ .goto l := by
      intro n
      induction n with
      | zero => intro fr σ h; simp [loopA] at h
      | succ n ihn =>
        intro fr σ h
        simp only [loopA] at h
        split at h
        · exact ihn _ _ h
        · exact ih _ _ _ _ _ h
    exact key _ _ _ h
  | region id ops draw =>
    intro fr σ e fr' σ' h l
    simp only [codeA, regionA] at h
    split at h
    · simp at h; rw [← h.1]; simp
    · cases h
  | rangeFunc g ps as bo _ _ =>
    intro fr σ e fr' σ' h l
    have endn : ∀ (l0 : Nat) (fr : Fr) (σ : St), rangeEnd l0 fr σ = some (e, fr', σ') → e ≠ .goto l := by
      intro l0 fr σ h
      unfold rangeEnd at h
      split at h
      · split at h
        · cases h
        · rw [St.write_eq] at h
          split at h <;> first | (simp at h; rw [← h.1]; simp) | cases h
      · cases h
    have gon : ∀ (db : Nat) (fr : Fr) (σ : St), rangeGo rec g ps as bo db fr σ = some (e, fr', σ') → e ≠ .goto l := by
      intro db fr σ h
      unfold rangeGo at h
      rw [St.new_eq] at h
      split at h
      · split at h
        · exact endn _ _ _ h
        · cases h
      · cases h
    simp only [codeA, rangeA] at h
    split at h
    · rw [St.new_eq] at h; exact gon _ _ _ h
    · split at h
      · exact gon _ _ _ h
      · cases h

theorem codeA_sound (hm : P.follows .mixedOrders = true) (hz : zeroOk P) (hrec : RecSound P rec) (fuel : Nat) (r : Option Nat) : ∀ (c : Code), codeOk c = true → ∀ (fr : Fr) (σ : St) (e : Exit) (fr' : Fr) (σ' : St), codeA P rec fuel r c fr σ = some (e, fr', σ') →
    ∀ (ι : Inj) (w : World) (a : Act) (rd : Option Nat) (n : Nat) (Q : Exit → Act → World → Prop), Rep ι σ w → FrR ι fr a → RdR ι r rd → (∀ ι' a' w', Good ι σ w ι' σ' w' → FrR ι' fr' a' → Q e a' w') → c.wpIn (Fw rd) n P Q a w := by
  intro c
  induction c with
  | skip => intro _ fr σ e fr' σ' h ι w a rd n Q hr hf _ hQ; simp [codeA] at h; obtain ⟨rfl, rfl, rfl⟩ := h; exact wpIn_skip (hQ ι a w (.refl hr) hf)
  | label _ => intro _ fr σ e fr' σ' h ι w a rd n Q hr hf _ hQ; simp [codeA] at h; obtain ⟨rfl, rfl, rfl⟩ := h; exact wpIn_label (hQ ι a w (.refl hr) hf)
  | ret => intro _ fr σ e fr' σ' h ι w a rd n Q hr hf _ hQ; simp [codeA] at h; obtain ⟨rfl, rfl, rfl⟩ := h; exact wpIn_ret (hQ ι a w (.refl hr) hf)
  | exit _ => intro _ fr σ e fr' σ' h ι w a rd n Q hr hf _ hQ; simp [codeA] at h; obtain ⟨rfl, rfl, rfl⟩ := h; exact wpIn_exit (hQ ι a w (.refl hr) hf)
  | goto _ => intro _ fr σ e fr' σ' h; simp [codeA] at h
  | refuse _ => intro _ fr σ e fr' σ' h; simp [codeA] at h
  | seq x y ihx ihy =>
    intro hok fr σ e fr' σ' h ι w a rd n Q hr hf hrd hQ
    simp only [codeOk, Bool.and_eq_true] at hok
    simp only [codeA, seqA] at h
    refine wpIn_seq ?_
    split at h
    · rename_i fr₁ σ₁ h1
      refine ihx hok.1 _ _ _ _ _ h1 ι w a rd n _ hr hf hrd (fun ι₁ a₁ w₁ hg1 hf1 => ?_)
      exact ihy hok.2 _ _ _ _ _ h ι₁ w₁ a₁ rd n Q hg1.rep hf1 (hrd.sub hg1.ext.sub) (fun ι₂ a₂ w₂ hg2 hf2 => hQ ι₂ a₂ w₂ (hg1.trans hg2) hf2)
    · rename_i hno
      refine ihx hok.1 _ _ _ _ _ h ι w a rd n _ hr hf hrd (fun ι₁ a₁ w₁ hg1 hf1 => ?_)
      cases e with
      | normal => exact absurd h (hno _ _)
      | _ => exact hQ ι₁ a₁ w₁ hg1 hf1
  | cond c x y ihx ihy =>
    intro hok fr σ e fr' σ' h ι w a rd n Q hr hf hrd hQ
    simp only [codeOk, Bool.and_eq_true] at hok
    simp only [codeA, condA] at h
    have hc := aeval_sound hf.tms hok.1.1
    split at h
    · rename_i t ht
      rw [ht] at hc
      have hcb := hc.bool_inv
      cases t with
      | true => exact wpIn_cond_true hcb (ihx hok.1.2 _ _ _ _ _ h ι w a rd n Q hr hf hrd hQ)
      | false => exact wpIn_cond_false hcb (ihy hok.2 _ _ _ _ _ h ι w a rd n Q hr hf hrd hQ)
    · cases h
  | block id c ih =>
    intro hok fr σ e fr' σ' h ι w a rd n Q hr hf hrd hQ
    simp only [codeA, blockA] at h
    refine wpIn_block ?_
    split at h
    · rename_i i fr₁ σ₁ h1
      refine ih hok _ _ _ _ _ h1 ι w a rd n _ hr hf hrd (fun ι₁ a₁ w₁ hg1 hf1 => ?_)
      rcases bif_cases h with ⟨hi, h⟩ | ⟨hi, h⟩
      · simp at h; obtain ⟨rfl, rfl, rfl⟩ := h
        simp only [Exit.inBlock]
        rw [if_pos (Nat.eq_of_beq_eq_true hi)]; exact hQ ι₁ a₁ w₁ hg1 hf1
      · simp at h; obtain ⟨rfl, rfl, rfl⟩ := h
        simp only [Exit.inBlock]
        rw [if_neg (fun e => by rw [e, Nat.beq_refl] at hi; cases hi)]; exact hQ ι₁ a₁ w₁ hg1 hf1
    · rename_i hno
      refine ih hok _ _ _ _ _ h ι w a rd n _ hr hf hrd (fun ι₁ a₁ w₁ hg1 hf1 => ?_)
      cases e with
      | exit i => exact absurd h (hno _ _ _)
      | _ => exact hQ ι₁ a₁ w₁ hg1 hf1
  | scope c ih =>
    intro hok fr σ e fr' σ' h ι w a rd n Q hr hf hrd hQ
    refine wpIn_scopeN (ih hok _ _ _ _ _ h ι w a rd n _ hr hf hrd (fun ι₁ a₁ w₁ hg1 hf1 => ⟨codeA_noGoto fuel r c _ _ _ _ _ h, hQ ι₁ a₁ w₁ hg1 hf1⟩))
  | loop c ih =>
    intro hok fr σ e fr' σ' h ι w a rd n Q hr hf hrd hQ
    simp only [codeA] at h
    refine wpIn_loopN (fun m a₁ w₁ => ∃ fr₁ σ₁ ι₁, loopA (codeA P rec fuel r c) m fr₁ σ₁ = some (e, fr', σ') ∧ Good ι σ w ι₁ σ₁ w₁ ∧ FrR ι₁ fr₁ a₁) ⟨fr, σ, ι, h, .refl hr, hf⟩ (fun m a₁ w₁ ⟨fr₁, σ₁, ι₁, hl, hg1, hf1⟩ => ?_)
    cases m with
    | zero => simp [loopA] at hl
    | succ m =>
      simp only [loopA] at hl
      split at hl
      · rename_i fr₂ σ₂ h2
        exact ih hok _ _ _ _ _ h2 ι₁ w₁ a₁ rd n _ hg1.rep hf1 (hrd.sub hg1.ext.sub) (fun ι₂ a₂ w₂ hg2 hf2 => ⟨m, by omega, fr₂, σ₂, ι₂, hl, hg1.trans hg2, hf2⟩)
      · rename_i hno
        refine ih hok _ _ _ _ _ hl ι₁ w₁ a₁ rd n _ hg1.rep hf1 (hrd.sub hg1.ext.sub) (fun ι₂ a₂ w₂ hg2 hf2 => ?_)
        cases e with
        | normal => exact absurd hl (hno _ _)
        | _ => exact hQ ι₂ a₂ w₂ (hg1.trans hg2) hf2
  | region id ops draw =>
    intro hok fr σ e fr' σ' h ι w a rd n Q hr hf hrd hQ
    simp only [codeOk] at hok
    simp only [codeA, regionA] at h
    split at h
    · rename_i f₁ σ₁ h1
      simp at h; obtain ⟨rfl, rfl, rfl⟩ := h
      have fin : ∀ ι' a' w', Good ι σ w ι' σ₁ w' → TmR ι' f₁ a'.tmps → a'.defers = a.defers → Q .normal a' w' := fun ι' a' w' hg ht hd => hQ ι' a' w' hg ⟨ht, by rw [hd]; exact hf.defs.sub hg.ext.sub⟩
      cases draw with
      | true => exact region_draw hm hz hrec hok h1 hr hf.tms fin
      | false => exact region_text hz hrec hok h1 hr hf.tms fin
    · cases h
  | rangeFunc g ps as bo _ _ =>
    intro hok fr σ e fr' σ' h ι w a rd n Q hr hf hrd hQ
    simp only [codeOk, Bool.and_eq_true] at hok
    exact rangeA_sound hrec h hr hf hrd hok.1.1 hok.1.2 hok.2 hQ
end
end Go.Lay

/-! Pan: Calls that panic, and deferred calls: operations in the order of the text. -/
namespace Go.Lay
open Go
abbrev PRec := FuncId → List Value → St → Option (Value × St)
/-- A chain of one entry that is not recovered. -/
def died (x : Value) : Exit := .panic [{ v := x, recovered := false }]
def exitB : Option Value → Exit
  | none => .normal
  | some x => died x
/-- A frame, with the function values that are deferred. -/
structure Fb where
  f : Tm
  ds : List Value
abbrev StepB := Fb → St → Option (Exit × Fb × St)
def panCall (prec : PRec) (f : FuncId) (as : List Value) (σ : St) : Option (Value × St) :=
  match prec f as ⟨σ.heap, σ.q, σ.q⟩ with
  | none => none
  | some (x, σ') => bif rigidB RD x then backA σ x σ' else none
/-- An operation that panics. -/
def panOp (prec : PRec) (ev : Operand → Value) (σ : St) (o : Op) : Option (Value × St) :=
  match o with
  | .panic x => match ev x with
    | .iface t v => bif rigidB RD (.iface t v) then some (.iface t v, σ) else none
    | _ => none
  | .call c => match c.callee with
    | .value g => match refOf (ev g) (c.args.toList.map ev) with
      | some (.func f, as) => panCall prec f as σ
      | _ => none
    | _ => none
  | _ => none
/-- What is deferred: a function value that asks for no arguments. -/
def deferB (ev : Operand → Value) (o : Op) : Option Value :=
  match o with
  | .defer c => match c.callee with
    | .value g => match c.args.toList with
      | [] => match refOf (ev g) [] with
        | some (.func _, _) => some (ev g)
        | _ => none
      | _ => none
    | _ => none
  | _ => none
def opsB (P : Program) (rec : Rec) (prec : PRec) (ops : Array Oper) : List Oper → Fb → St → Option (Option Value × Fb × St)
  | [], fb, σ => some (none, fb, σ)
  | o :: rest, fb, σ =>
    match guardA ops fb.f o with
    | some true =>
      match opA P rec (aeval fb.f) σ o.op with
      | some (v, σ') => putA fb.f o.dst v fun f => opsB P rec prec ops rest ⟨f, fb.ds⟩ σ'
      | none => match deferB (aeval fb.f) o.op with
        | some d => putA fb.f o.dst undef fun f => opsB P rec prec ops rest ⟨f, d :: fb.ds⟩ σ
        | none => match panOp prec (aeval fb.f) σ o.op with
          | some (x, σ') => some (some x, fb, σ')
          | none => none
    | some false => putA fb.f o.dst undef fun f => opsB P rec prec ops rest ⟨f, fb.ds⟩ σ
    | none => none
/-- A call has panicked: as the abstract one. -/
def PanR (ι : Inj) (σ : St) (w : World) (x : Value) (σ' : St) : Ending → World → Prop
  | .panicked ch, w' => ch = [{ v := x, recovered := false }] ∧ ∃ ι', Good ι σ w ι' σ' w'
  | _, _ => False
structure PSound (P : Program) (prec : PRec) : Prop where
  func : ∀ f args σ x σ', prec f args σ = some (x, σ') → ∀ (ι : Inj) (w : World) (args' : List Value), Rep ι σ w → VRs ι args args' →
    (∃ fn, P.funcs[f]? = some fn ∧ fn.body.isSome = true ∧ fn.name ≠ "runtime.NumGoroutine") ∧ ∀ n, CallsIn (Fw none) n P f ⟨args'⟩ w (PanR ι σ w x σ')
/-- What is deferred, in both. -/
def DfR (ι : Inj) (v : Value) (d : Deferred) : Prop := ∃ f as as' cap, refOf v [] = some (.func f, as) ∧ VRs ι as as' ∧ d.target = .fn (.func f) cap ∧ d.args ++ cap = ⟨as'⟩
inductive DfsR (ι : Inj) : List Value → List Deferred → Prop
  | nil : DfsR ι [] []
  | cons {v d vs ds} (h : DfR ι v d) (t : DfsR ι vs ds) : DfsR ι (v :: vs) (d :: ds)
structure FbR (ι : Inj) (fb : Fb) (a : Act) : Prop where
  tms : TmR ι fb.f a.tmps
  dfs : DfsR ι fb.ds a.defers
section
variable {P : Program} {ι : Inj} {σ : St} {w : World} {rec : Rec} {prec : PRec} {ops : Array Oper}
theorem DfsR.ext {ι' : Inj} {N n' : Nat} (e : Ext ι ι' N n') {vs : List Value} {ds : List Deferred} (h : DfsR ι vs ds) : DfsR ι' vs ds := by
  induction h with
  | nil => exact .nil
  | cons h _ ih =>
    obtain ⟨f, as, as', cap, h1, h2, h3, h4⟩ := h
    exact .cons ⟨f, as, as', cap, h1, h2.ext e, h3, h4⟩ ih
theorem panCall_sound (hp : PSound P prec) {f : FuncId} {args args' : List Value} {x : Value} {σ' : St} (h : panCall prec f args σ = some (x, σ')) (hr : Rep ι σ w) (ha : VRs ι args args') :
    (∃ fn, P.funcs[f]? = some fn ∧ fn.body.isSome = true ∧ fn.name ≠ "runtime.NumGoroutine") ∧ ∀ rd n, CallsIn (Fw rd) n P f ⟨args'⟩ w (PanR ι σ w x σ') := by
  unfold panCall at h
  split at h
  · cases h
  · rename_i x₁ σ₁ hc
    obtain ⟨hrig, h⟩ := bif_some h
    obtain ⟨h1, h2⟩ := hp.func _ _ _ _ _ hc ι w args' (hr.relow _) ha
    refine ⟨h1, fun rd n => callsIn_rd (CallsIn.mono (h2 n) (fun e w' hR => ?_))⟩
    cases e with
    | panicked ch =>
      obtain ⟨rfl, ι', hg⟩ := hR
      obtain ⟨rfl, ι'', _, hg'⟩ := back_sound h hr (VR.refl_rigid _ hrig) hg
      exact ⟨rfl, ι'', hg'⟩
    | returned _ => exact hR.elim
    | outgrown => exact hR.elim
theorem panOp_sound (hp : PSound P prec) {o : Oper} {ev : Operand → Value} {a : Act} {x : Value} {σ' : St} {rd : Option Nat} {n : Nat} {next : Act → World → Prop} {Q : Exit → Act → World → Prop}
    (h : panOp prec ev σ o.op = some (x, σ')) (hr : Rep ι σ w) (hev : ∀ x ∈ o.op.operands, VR ι (ev x) (a.eval x))
    (hn : ∀ w' ι', Good ι σ w ι' σ' w' → Q (died x) a w') : o.wpIn (Fw rd) n P a w next Q := by
  have hd : ∀ c', o.op ≠ .defer c' := fun c' e => by rw [e] at h; cases h
  refine ⟨fun f _ => Fw_fn rd f, ?_⟩
  rw [Oper.semAt_eq _ _ _ hd]
  unfold panOp at h
  split at h
  · rename_i y ho
    split at h
    · rename_i t v hv
      obtain ⟨hrig, h⟩ := bif_some h
      simp at h; obtain ⟨rfl, rfl⟩ := h
      have hx := hev y (by simp [ho, Op.operands])
      rw [hv] at hx
      have hx := hx.rigid _ hrig
      have hrun : (execOp a.eval o).run P w = .halt (.panic (.iface t v)) w := by
        simp only [execOp, ho, ← hx]
        rfl
      rw [hrun]
      exact hn w ι (.refl hr)
    · cases h
  · rename_i c ho
    split at h
    · rename_i g hc
      split at h
      · rename_i f as href
        have hf := hev g (by simp [ho, Op.operands, Call.operands, hc])
        have hargs := ev_list c.args.toList (ev := ev) (ev' := a.eval) (fun x hx => hev x (by simp [ho, Op.operands, Call.operands, hc] at hx ⊢; exact .inr hx))
        have eargs : c.args.map a.eval = (⟨c.args.toList.map a.eval⟩ : Array Value) := by apply Array.ext'; simp
        obtain ⟨as', has, hcase⟩ := call_run (P := P) href hf hargs
        have hsem : ∀ {d : Deferred}, (∀ w, (Deferred.ofValue (a.eval g) ⟨c.args.toList.map a.eval⟩).run P w = .ok d w) → (execOp a.eval o).run P w = (invoke d.target d.args).run P w := by
          intro d hd
          simp only [execOp, ho, resolve, hc, eargs, Sem.run_bind, hd, Result.andThen_ok]
        rcases hcase with ⟨f', cap, e, d, hd1, hd2, hd3⟩ | ⟨l, L, cap, e, _⟩
        · cases e
          obtain ⟨⟨fn, hfn, hbody, hname⟩, hcall⟩ := panCall_sound hp h hr has
          have hrun : (execOp a.eval o).run P w = .ok (.enter f ⟨as'⟩) w := by
            rw [hsem hd1, hd2]
            have hb : fn.body ≠ none := by cases hb : fn.body <;> simp_all
            simp [invoke, callFunc, hfn, hb, hname, hd3]
          rw [hrun, Oper.uponIn_enter]
          exact ⟨fun hs => Fw_depth rd hs n, CallsIn.mono (hcall rd _) (fun e w' hR => by
            cases e with
            | panicked ch => obtain ⟨rfl, ι', h2⟩ := hR; exact hn w' ι' h2
            | returned _ => exact hR.elim
            | outgrown => exact hR.elim)⟩
        · cases e
      · cases h
    · cases h
  · cases h
theorem FbR.put {ι' : Inj} {fb : Fb} {a : Act} {σ' : St} {w' : World} {v v' : Value} {o : Oper} (h : FbR ι fb a) (hg : Good ι σ w ι' σ' w') (hv : VR ι' v v') : FbR ι' ⟨setO fb.f o.dst v, fb.ds⟩ (a.put o.dst v') := by
  refine ⟨?_, ?_⟩
  · unfold setO Act.put
    cases o.dst with
    | none => exact h.tms.ext hg.ext
    | some d => exact (h.tms.ext hg.ext).set d hv
  · have e : (a.put o.dst v').defers = a.defers := by unfold Act.put; split <;> rfl
    rw [e]; exact h.dfs.ext hg.ext
theorem opsB_wp (hz : zeroOk P) (hrec : RecSound P rec) (hp : PSound P prec) {ι0 : Inj} {σ0 : St} {w0 : World} {n : Nat} {Q : Exit → Act → World → Prop} :
    ∀ (rest : List Oper) (k : Nat) {fb fb' : Fb} {r : Option Value} {σ τ : St} {ι : Inj} {w : World} {a : Act}, opsB P rec prec ops rest fb σ = some (r, fb', τ) → (∀ i, i < rest.length → ops[k + i]? = rest[i]?) → k + rest.length = ops.size → rest.all operOk = true →
    Good ι0 σ0 w0 ι σ w → FbR ι fb a → (∀ ι' a' w', Good ι0 σ0 w0 ι' τ w' → FbR ι' fb' a' → Q (exitB r) a' w') → wpOpsIn (Fw none) n P ops Q ((List.range rest.length).map (k + ·)) a w
  | [], k, fb, fb', r, σ, τ, ι, w, a, h, _, _, _, hg, hf, hQ => by
    simp [opsB] at h; obtain ⟨rfl, rfl, rfl⟩ := h
    exact hQ ι a w hg hf
  | o :: rest, k, fb, fb', r, σ, τ, ι, w, a, h, hget, hk, hok, hg, hf, hQ => by
    simp only [List.all_cons, Bool.and_eq_true] at hok
    have hl : (List.range (o :: rest).length).map (k + ·) = k :: (List.range rest.length).map (k + 1 + ·) := by
      rw [List.length_cons, List.range_succ_eq_map, List.map_cons, List.map_map]
      congr 1
      refine List.map_congr_left (fun i _ => ?_)
      simp; omega
    rw [hl]
    have ho : ops[k]? = some o := by have := hget 0 (by simp); simpa using this
    have go : ∀ {fb₁ : Fb} {σ' : St} {ι' : Inj} {a' : Act} {w' : World}, opsB P rec prec ops rest fb₁ σ' = some (r, fb', τ) → FbR ι' fb₁ a' → Good ι σ w ι' σ' w' → wpOpsIn (Fw none) n P ops Q ((List.range rest.length).map (k + 1 + ·)) a' w' := by
      intro fb₁ σ' ι' a' w' h' hf' hg'
      refine opsB_wp hz hrec hp rest (k + 1) h' (fun i hi => ?_) (by simp at hk; omega) hok.2 (hg.trans hg') hf' hQ
      have := hget (i + 1) (by simp; omega)
      simpa [Nat.add_assoc, Nat.add_comm 1 i] using this
    simp only [wpOpsIn, ho]
    unfold opsB at h
    split at h
    · rename_i hgd
      rw [guardA_sound hgd (fun j want d _ _ => hf.tms.2 d), if_pos rfl]
      have hev : ∀ x ∈ o.op.operands, VR ι (aeval fb.f x) (a.eval x) := fun x hx => aeval_sound hf.tms (opsOk hok.1 hx)
      split at h
      · rename_i v σ' hop
        rw [putA_eq] at h
        exact opA_sound hz hrec hop hg.rep hev (fun v' w' ι' hv hg' => go h (hf.put hg' hv) hg')
      · split at h
        · rename_i d hdf
          rw [putA_eq] at h
          unfold deferB at hdf
          split at hdf
          · rename_i c hc
            split at hdf
            · rename_i g hcg
              split at hdf
              · rename_i hnil
                split at hdf
                · rename_i f as href
                  simp at hdf; subst hdf
                  have hvg := hev g (by simp [hc, Op.operands, Call.operands, hcg])
                  obtain ⟨as', has, hcase⟩ := call_run (P := P) href hvg .nil
                  rcases hcase with ⟨f', cap, e, d, hd1, hd2, hd3⟩ | ⟨l, L, cap, e, _⟩
                  · cases e
                    have eargs : c.args.map a.eval = (⟨[]⟩ : Array Value) := by apply Array.ext'; simp [hnil]
                    have hrun : (Oper.semAt none a.eval o).run P w = .ok (.defer d) w := by
                      rw [Oper.semAt_none]
                      simp only [execOp, hc, resolve, hcg, eargs, Sem.run_bind, hd1, Result.andThen_ok, Sem.run_pure]
                    refine ⟨fun f _ => Fw_fn none f, ?_⟩
                    show o.uponIn (Fw none) n P a _ Q ((Oper.semAt none a.eval o).run P w)
                    rw [hrun, Oper.uponIn_defer]
                    refine go h ?_ (.refl hg.rep)
                    have h0 := hf.put (o := o) (.refl hg.rep) (VR.undef (ι := ι))
                    refine ⟨?_, ?_⟩
                    · have := h0.tms
                      unfold Act.put at this ⊢
                      revert this
                      cases o.dst <;> exact fun h => h
                    · have e2 : (({ a with defers := d :: a.defers } : Act).put o.dst undef).defers = d :: a.defers := by unfold Act.put; split <;> rfl
                      rw [e2]
                      exact .cons ⟨_, _, as', cap, href, has, hd2, hd3⟩ hf.dfs
                  · cases e
                · cases hdf
              · cases hdf
            · cases hdf
          · cases hdf
        · split at h
          · rename_i x σ' hpan
            simp at h; obtain ⟨rfl, rfl, rfl⟩ := h
            exact panOp_sound hp hpan hg.rep hev (fun w' ι' hg' => hQ ι' a w' (hg.trans hg') ⟨hf.tms.ext hg'.ext, hf.dfs.ext hg'.ext⟩)
          · cases h
    · rename_i hgd
      rw [guardA_sound hgd (fun j want d _ _ => hf.tms.2 d), if_neg (by simp)]
      rw [putA_eq] at h
      exact ⟨fun f _ => Fw_fn none f, go h (hf.put (.refl hg.rep) .undef) (.refl hg.rep)⟩
    · cases h
/-- A region in the order of the text, that may panic, or defer. -/
theorem region_textB (hz : zeroOk P) (hrec : RecSound P rec) (hp : PSound P prec) {fb fb' : Fb} {r : Option Value} {τ : St} {id : Nat} {n : Nat} {Q : Exit → Act → World → Prop} {a : Act} (hok : ops.toList.all operOk = true)
    (h : opsB P rec prec ops ops.toList fb σ = some (r, fb', τ)) (hr : Rep ι σ w) (hf : FbR ι fb a)
    (hQ : ∀ ι' a' w', Good ι σ w ι' τ w' → FbR ι' fb' a' → Q (exitB r) a' w') : (Code.region id ops false).wpIn (Fw none) n P Q a w := by
  refine wpIn_region ?_
  have := opsB_wp (n := n) (Q := Q) hz hrec hp ops.toList 0 h (fun i _ => by simp) (by simp) hok (.refl hr) hf hQ
  simpa using this
end
end Go.Lay

/-! PanE: A drawn region whose last operation panics. -/
namespace Go.Lay
open Go
section
variable {F : Fence} {n : Nat} {P : Program} {ops : Array Oper}
theorem wpIn_exits {Q Q' K : _} {o : Oper} {a : Act} {w : World} (hp : ∀ ch a w, Q (.panic ch) a w → Q' (.panic ch) a w) (ho : ∀ a w, Q .outgrown a w → Q' .outgrown a w)
    (hh : o.wpIn F n P a w K Q) : o.wpIn F n P a w K Q' := by
  unfold Oper.wpIn at *
  refine ⟨hh.1, ?_⟩
  have hh := hh.2
  have hl : LetsOut Q → LetsOut Q' := fun ⟨a, w, h⟩ => ⟨a, w, ho _ _ h⟩
  generalize (o.semAt F.round a.eval).run P w = r at *
  cases r with
  | ok x w' =>
    cases x <;> simp only [Oper.uponIn] at hh ⊢ <;>
      first
        | exact hh
        | exact ⟨hh.1, CallsIn.mono hh.2 (fun e w'' he => by cases e <;> first | exact he | exact hp _ _ _ he | exact hl he)⟩
        | exact ⟨hh.1, RoundIn.mono hh.2 (fun e w'' he => by cases e <;> first | exact he | exact hp _ _ _ he | exact hl he)⟩
  | halt x w' =>
    cases x <;> simp only [Oper.uponIn] at hh ⊢ <;> first | exact hp _ _ _ hh | exact hh
/-- Where nothing is ready, all has been done. -/
theorem ready_nil {listed : Array Bool} (hback : ∀ (j : Nat) (o : Oper), ops[j]? = some o → ∀ e ∈ o.after, Region.binds .any e = true → e.on < j) (hsz : listed.size = ops.size) (h : Region.ready .any ops listed = []) : ∀ j, j < ops.size → listed.getD j false = true := by
  intro j
  induction j using Nat.strongRecOn with
  | _ j ih =>
    intro hj
    cases hl : listed.getD j false with
    | true => rfl
    | false =>
      have ho : ops[j]? = some ops[j] := by simp [hj]
      have : j ∈ Region.ready .any ops listed := by
        refine mem_ready.2 ⟨by simpa [Array.getD, hsz, hj] using hl, _, ho, fun e he hb => ?_⟩
        have hlt := hback j _ ho e he hb
        exact ih e.on hlt (by omega)
      rw [h] at this; cases this
theorem push_getD {l : Array Bool} {j : Nat} {d : Bool} (hj : j < l.size) : (l.push false).getD j d = l.getD j d := by
  have : j < (l.push false).size := by simp; omega
  simp [Array.getD, hj, Array.getElem_push, Nat.lt_succ_of_lt hj]
theorem push_ready {o : Oper} {listed : Array Bool} (hback : ∀ (j : Nat) (o : Oper), ops[j]? = some o → ∀ e ∈ o.after, Region.binds .any e = true → e.on < j) (hsz : listed.size = ops.size) {j : Nat} (hj : j < ops.size) :
    j ∈ Region.ready .any (ops.push o) (listed.push false) ↔ j ∈ Region.ready .any ops listed := by
  rw [mem_ready, mem_ready, push_getD (by omega)]
  have e1 : (ops.push o)[j]? = ops[j]? := by rw [Array.getElem?_push]; simp; omega
  rw [e1]
  constructor
  · rintro ⟨h0, o', ho, h⟩
    refine ⟨h0, o', ho, fun e he hb => ?_⟩
    have := h e he hb
    rwa [push_getD (by have := hback j o' ho e he hb; omega)] at this
  · rintro ⟨h0, o', ho, h⟩
    refine ⟨h0, o', ho, fun e he hb => ?_⟩
    rw [push_getD (by have := hback j o' ho e he hb; omega)]
    exact h e he hb
theorem pre_in2 {X : Nat → Prop} (hback : ∀ (j : Nat) (o : Oper), ops[j]? = some o → ∀ e ∈ o.after.toList, Region.binds .any e = true → e.on < j) (hX : Closed ops X) : ∀ (j : Nat) (o : Oper), ops[j]? = some o → (∀ e ∈ o.after.toList, Region.binds .any e = true → X e.on) → ∀ i, pre (CheckFast.beforeF ops) i j = true → X i := by
  intro j
  induction j using Nat.strongRecOn with
  | _ j ih =>
    intro o ho hdep i hp
    obtain ⟨e, h1, h2, h3⟩ := pre_step ho (hback j o ho) hp
    have hx := hdep e h1 h2
    rcases h3 with rfl | h3
    · exact hx
    · have hlt := hback j o ho e h1 h2
      have hlt2 : j < ops.size := (getD_of ho).2
      have ho2 : ops[e.on]? = some ops[e.on] := by simp
      exact ih e.on hlt _ ho2 (fun e' he' hb' => hX e.on _ hx ho2 e' he' hb') i h3
theorem push_last {o : Oper} {listed : Array Bool} (hback : ∀ (j : Nat) (o : Oper), ops[j]? = some o → ∀ e ∈ o.after, Region.binds .any e = true → e.on < j) (hwait : ∀ i, i < ops.size → pre (CheckFast.beforeF (ops.push o)) i ops.size = true) (hwb : ∀ e ∈ o.after, Region.binds .any e = true → e.on < ops.size)
    (hC : Closed ops fun j => listed.getD j false = true) (hsz : listed.size = ops.size) (h : ops.size ∈ Region.ready .any (ops.push o) (listed.push false)) : ∀ j, j < ops.size → listed.getD j false = true := by
  intro j hj
  obtain ⟨_, o', ho, h⟩ := mem_ready.1 h
  rw [Array.getElem?_push_size] at ho
  cases ho
  have hlt : ∀ k, listed.getD k false = true → k < ops.size := fun k hk => by
    rcases Nat.lt_or_ge k ops.size with hlt | hge
    · exact hlt
    · simp [Array.getD, hsz, Nat.not_lt.2 hge] at hk
  refine pre_in2 (ops := ops.push o) (X := fun j => listed.getD j false = true) (fun k q hq e he hb => ?_) (fun k q hk hq e he hb => ?_) ops.size o (by simp) (fun e he hb => ?_) j (hwait j hj)
  · rcases Nat.lt_or_ge k ops.size with hl | hg
    · rw [Array.getElem?_push, if_neg (by omega)] at hq
      exact hback k q hq e (by simpa using he) hb
    · have := (getD_of hq).2
      simp at this
      have : k = ops.size := by omega
      subst this
      simp at hq; subst hq
      exact hwb e (by simpa using he) hb
  · have hl := hlt k hk
    rw [Array.getElem?_push, if_neg (by omega)] at hq
    exact hC k q hk hq e he hb
  · have he' : e ∈ o.after := by simpa using he
    have := h e he' hb
    rwa [push_getD (by have := hwb e he' hb; omega)] at this
/-- What is asked of the operations ahead of the last one. -/
def lastQ (F : Fence) (n : Nat) (P : Program) (ops : Array Oper) (o : Oper) (Q : Exit → Act → World → Prop) : Exit → Act → World → Prop
  | .normal, a, w => wpOpIn F n P (ops.push o) Q ops.size (fun _ _ => False) a w
  | e, a, w => Q e a w
theorem any_last {o : Oper} {Q : Exit → Act → World → Prop} (hback : ∀ (j : Nat) (o : Oper), ops[j]? = some o → ∀ e ∈ o.after, Region.binds .any e = true → e.on < j)
    (hgd : ∀ (j : Nat) (oj : Oper), ops[j]? = some oj → ∀ i b, oj.guard = some (i, b) → i < ops.size) (hwait : ∀ i, i < ops.size → pre (CheckFast.beforeF (ops.push o)) i ops.size = true) (hwb : ∀ e ∈ o.after, Region.binds .any e = true → e.on < ops.size) :
    ∀ (fuel : Nat) (listed : Array Bool) (a : Act) (w : World), (Closed ops fun j => listed.getD j false = true) → listed.size = ops.size → wpAnyIn F n P .any ops (lastQ F n P ops o Q) fuel listed a w → wpAnyIn F n P .any (ops.push o) Q (fuel + 1) (listed.push false) a w := by
  have fin : ∀ (fuel : Nat) (listed : Array Bool) (a : Act) (w : World), listed.size = ops.size → Region.ready .any ops listed = [] → lastQ F n P ops o Q .normal a w → wpAnyIn F n P .any (ops.push o) Q (fuel + 1) (listed.push false) a w := by
    intro fuel listed a w hsz h0 hq
    have hall := ready_nil hback hsz h0
    have hm : ops.size ∈ Region.ready .any (ops.push o) (listed.push false) := by
      refine mem_ready.2 ⟨by rw [← hsz]; simp [Array.getD], o, by simp, fun e he hb => ?_⟩
      rw [push_getD (by have := hwb e he hb; omega)]
      exact hall _ (hwb e he hb)
    refine ⟨fun hnil => (by rw [hnil] at hm; cases hm), fun i hi => ?_⟩
    obtain ⟨_, o', ho, _⟩ := mem_ready.1 hi
    have hlt : i < ops.size + 1 := by have := (Array.getElem?_eq_some_iff.1 ho).1; simpa using this
    rcases Nat.lt_or_ge i ops.size with hlt' | hge
    · have := (push_ready hback hsz hlt').1 hi
      rw [h0] at this; cases this
    · have : i = ops.size := by omega
      subst this
      have hq : wpOpIn F n P (ops.push o) Q ops.size (fun _ _ => False) a w := hq
      exact wpOpIn_mono (fun _ _ (hx : False) => False.elim hx) hq
  intro fuel
  induction fuel with
  | zero => intro listed a w hC hsz h; exact fin 0 listed a w hsz h.1 h.2
  | succ fuel ih =>
    intro listed a w hC hsz h
    by_cases h0 : Region.ready .any ops listed = []
    · exact fin (fuel + 1) listed a w hsz h0 (h.1 h0)
    have hno : ∀ i ∈ Region.ready .any (ops.push o) (listed.push false), i < ops.size := fun i hi => by
      obtain ⟨_, o', ho, _⟩ := mem_ready.1 hi
      have hlt : i < ops.size + 1 := by have := (Array.getElem?_eq_some_iff.1 ho).1; simpa using this
      rcases Nat.lt_or_ge i ops.size with hlt' | hge
      · exact hlt'
      · exfalso
        have : i = ops.size := by omega
        subst this
        have hall := push_last hback hwait hwb hC hsz hi
        apply h0
        refine List.eq_nil_iff_forall_not_mem.2 fun j hj => ?_
        obtain ⟨k0, o1, ho1, _⟩ := mem_ready.1 hj
        have hj' := (Array.getElem?_eq_some_iff.1 ho1).1
        have := hall j hj'
        simp [Array.getD, hsz, hj'] at this k0
        rw [this] at k0; cases k0
    refine ⟨fun hnil => ?_, fun i hi => ?_⟩
    · exfalso
      apply h0
      refine List.eq_nil_iff_forall_not_mem.2 fun j hj => ?_
      obtain ⟨_, o1, ho1, _⟩ := mem_ready.1 hj
      have := (push_ready (o := o) hback hsz (Array.getElem?_eq_some_iff.1 ho1).1).2 hj
      rw [hnil] at this; cases this
    · have hlt := hno i hi
      have h1 := h.2 i ((push_ready hback hsz hlt).1 hi)
      have e1 : (ops.push o)[i]? = ops[i]? := by rw [Array.getElem?_push]; simp; omega
      have e2 : (listed.push false).setIfInBounds i true = (listed.setIfInBounds i true).push false := by
        apply Array.ext'
        simp [List.set_append, hsz, hlt]
      have step : ∀ a w, wpAnyIn F n P .any ops (lastQ F n P ops o Q) fuel (listed.setIfInBounds i true) a w → wpAnyIn F n P .any (ops.push o) Q (fuel + 1) ((listed.push false).setIfInBounds i true) a w := fun a w hh => by
        rw [e2]; refine ih _ a w (fun k q hk hq e he hb => ?_) (by simpa using hsz) hh
        obtain ⟨_, oi, hoi, hdep⟩ := mem_ready.1 ((push_ready hback hsz hlt).1 hi)
        have hset : ∀ j, ((listed.setIfInBounds i true).getD j false = true) ↔ (listed.getD j false = true ∨ j = i) := by
          intro j
          by_cases hji : j = i
          · subst hji; simp [Array.getD, hsz, hlt]
          · have := getD_set_ne (listed := listed) false (Ne.symm hji)
            rw [this]; simp [hji]
        have hk : (listed.setIfInBounds i true).getD k false = true := hk
        show (listed.setIfInBounds i true).getD e.on false = true
        rw [hset] at hk ⊢
        rcases hk with hk | rfl
        · exact .inl (hC k q hk hq e he hb)
        · rw [hoi] at hq; cases hq
          exact .inl (hdep e (by simpa using he) hb)
      unfold wpOpIn at h1 ⊢
      rw [e1]
      cases ho : ops[i]? with
      | none => rw [ho] at h1; exact step _ _ h1
      | some oi =>
        rw [ho] at h1
        have hw : Region.wanted oi (yielded (ops.push o) a.tmps) = Region.wanted oi (yielded ops a.tmps) := by
          unfold Region.wanted
          cases hg : oi.guard with
          | none => rfl
          | some p =>
            have := hgd i oi ho p.1 p.2 hg
            have e3 : (ops.push o)[p.1]? = ops[p.1]? := by rw [Array.getElem?_push]; simp; omega
            simp only [yielded, e3]
        simp only [hw] at h1 ⊢
        split
        · rename_i hwd
          rw [if_pos hwd] at h1
          exact wpIn_exits (fun _ _ _ h => h) (fun _ _ h => h) (Oper.wpIn_mono step h1)
        · rename_i hwd
          rw [if_neg hwd] at h1
          exact ⟨h1.1, step _ _ h1.2⟩
end
/-- The last operation waits for all others, and for nothing else. -/
def lastOk (ops : Array Oper) (o : Oper) : Bool :=
  ((List.range ops.size).all fun i => pre (CheckFast.beforeF (ops.push o)) i ops.size) && o.after.toList.all fun e => !Region.binds .any e || Nat.blt e.on ops.size
/-- A region that draws, whose last operation dies. -/
def drawP (P : Program) (rec : Rec) (prec : PRec) (ops : Array Oper) (f : Tm) (σ : St) : Option (Value × Tm × St) :=
  match ops.back? with
  | some o => bif lastOk ops.pop o then
      match drawA P rec ops.pop f σ with
      | some (f, σ) => match guardA ops f o with
        | some true => match panOp prec (aeval f) σ o.op with
          | some (x, σ) => some (x, f, σ)
          | none => none
        | _ => none
      | none => none
    else none
  | none => none
section
variable {P : Program} {ι : Inj} {σ : St} {w : World} {rec : Rec} {prec : PRec} {ops : Array Oper}
theorem drawP_sound (hm : P.follows .mixedOrders = true) (hz : zeroOk P) (hrec : RecSound P rec) (hp : PSound P prec) {fb : Fb} {t : Tm} {x : Value} {τ : St} {id : Nat} {n : Nat} {Q : Exit → Act → World → Prop} {a : Act} (hok : ops.toList.all operOk = true)
    (h : drawP P rec prec ops fb.f σ = some (x, t, τ)) (hr : Rep ι σ w) (hf : FbR ι fb a)
    (hQ : ∀ ι' a' w', Good ι σ w ι' τ w' → FbR ι' ⟨t, fb.ds⟩ a' → Q (died x) a' w') : (Code.region id ops true).wpIn (Fw none) n P Q a w := by
  unfold drawP at h
  split at h
  rotate_left
  · cases h
  rename_i o ho
  obtain ⟨hl, h⟩ := bif_some h
  split at h
  rotate_left
  · cases h
  rename_i f₁ σ₁ hd
  split at h
  rotate_left
  · cases h
  rename_i hgd
  split at h
  rotate_left
  · cases h
  rename_i x₁ σ₂ hpan
  simp at h; obtain ⟨rfl, rfl, rfl⟩ := h
  obtain ⟨os, rfl⟩ := Array.back?_eq_some_iff.1 ho
  rw [Array.pop_push] at hl hd
  simp only [Array.toList_push, List.all_append, List.all_cons, List.all_nil, Bool.and_true, Bool.and_eq_true] at hok
  unfold lastOk at hl
  simp only [Bool.and_eq_true, List.all_eq_true, List.mem_range] at hl
  obtain ⟨D, _⟩ := drawA_spec hd
  refine wpIn_region_any hm ?_
  have e1 : (os.push o).size = os.size + 1 := by simp
  have e2 : Array.replicate (os.size + 1) false = (Array.replicate os.size false).push false := by
    apply Array.ext'; simp [List.replicate_succ']
  rw [e1, e2]
  refine any_last (fun j oj hj e he hb => D.back j oj hj e (by simpa using he) hb) (fun j oj hj i b hg => ?_) (fun i hi => ?_) (fun e he hb => ?_) _ _ _ _ (fun k q hk => ?_) (by simp)
    (region_any hz hrec hok.1 hd hr hf.tms fun ι' a' w' hg ht hds => ?_)
  · obtain ⟨e, he, hb, rfl⟩ := D.guard j oj hj i b hg
    have := D.back j oj hj e he hb
    have := (getD_of hj).2
    omega
  · exact hl.1 i hi
  · have := hl.2 e (by simpa using he)
    rw [hb] at this
    exact (blt_iff _ _).1 (by simpa using this)
  · exfalso
    have hk : (Array.replicate os.size false).getD k false = true := hk
    by_cases hj : k < os.size <;> simp [Array.getD, hj] at hk
  · show wpOpIn (Fw none) n P (os.push o) Q os.size (fun _ _ => False) a' w'
    unfold wpOpIn
    have e3 : (os.push o)[os.size]? = some o := by simp
    rw [e3]
    simp only
    have hf' : FbR ι' ⟨f₁, fb.ds⟩ a' := ⟨ht, by rw [hds]; exact hf.dfs.ext hg.ext⟩
    have hgs := guardA_sound hgd (fun j want d _ _ => hf'.tms.2 d)
    rw [hgs, if_pos rfl]
    have hev : ∀ x ∈ o.op.operands, VR ι' (aeval f₁ x) (a'.eval x) := fun x hx => aeval_sound ht (opsOk hok.2 hx)
    exact panOp_sound hp hpan hg.rep hev fun w₂ ι₂ hg₂ => hQ ι₂ a' w₂ (hg.trans hg₂) ⟨hf'.tms.ext hg₂.ext, hf'.dfs.ext hg₂.ext⟩
end
end Go.Lay

/-! PanB: Bodies that may panic, and that defer. -/
namespace Go.Lay
open Go
def loopB (step : StepB) : Nat → StepB
  | 0, _, _ => none
  | n + 1, fb, σ =>
    match step fb σ with
    | some (.normal, fb, σ) => loopB step n fb σ
    | r => r
def seqB (a b : StepB) : StepB := fun fb σ =>
  match a fb σ with
  | some (.normal, fb, σ) => b fb σ
  | r => r
def condB (c : Operand) (x y : StepB) : StepB := fun fb σ =>
  match aeval fb.f c with
  | .bool t => match t with
    | true => x fb σ
    | false => y fb σ
  | _ => none
def blockB (id : Nat) (c : StepB) : StepB := fun fb σ =>
  match c fb σ with
  | some (.exit i, fb, σ) => bif Nat.beq i id then some (.normal, fb, σ) else some (.exit i, fb, σ)
  | r => r
def regionB (P : Program) (rec : Rec) (prec : PRec) (ops : Array Oper) (draw : Bool) : StepB := fun fb σ =>
  match draw with
  | true => match drawA P rec ops fb.f σ with
    | some (f, σ) => some (.normal, ⟨f, fb.ds⟩, σ)
    | none => match drawP P rec prec ops fb.f σ with
      | some (x, f, σ) => some (died x, ⟨f, fb.ds⟩, σ)
      | none => none
  | false => match opsB P rec prec ops ops.toList fb σ with
    | some (r, fb, σ) => some (exitB r, fb, σ)
    | none => none
def codeB (P : Program) (rec : Rec) (prec : PRec) (fuel : Nat) : Code → StepB
  | .skip => fun fb σ => some (.normal, fb, σ)
  | .label _ => fun fb σ => some (.normal, fb, σ)
  | .ret => fun fb σ => some (.ret, fb, σ)
  | .exit id => fun fb σ => some (.exit id, fb, σ)
  | .goto _ => fun _ _ => none
  | .refuse _ => fun _ _ => none
  | .seq a b => seqB (codeB P rec prec fuel a) (codeB P rec prec fuel b)
  | .cond c x y => condB c (codeB P rec prec fuel x) (codeB P rec prec fuel y)
  | .block id c => blockB id (codeB P rec prec fuel c)
  | .scope c => codeB P rec prec fuel c
  | .loop c => loopB (codeB P rec prec fuel c) fuel
  | .region _ ops draw => regionB P rec prec ops draw
  | .rangeFunc _ _ _ _ => fun _ _ => none
section
variable {P : Program} {ι : Inj} {σ : St} {w : World} {rec : Rec} {prec : PRec}
theorem exitB_goto {r : Option Value} : ∀ l, exitB r ≠ .goto l := by
  intro l
  cases r <;> simp [exitB, died]
theorem codeB_noGoto (fuel : Nat) : ∀ (c : Code) (fb : Fb) (σ : St) (e : Exit) (fb' : Fb) (σ' : St), codeB P rec prec fuel c fb σ = some (e, fb', σ') → ∀ l, e ≠ .goto l := by
  intro c
  induction c with
  | skip => intro fb σ e fb' σ' h; simp [codeB] at h; rw [← h.1]; simp
  | label _ => intro fb σ e fb' σ' h; simp [codeB] at h; rw [← h.1]; simp
  | ret => intro fb σ e fb' σ' h; simp [codeB] at h; rw [← h.1]; simp
  | exit _ => intro fb σ e fb' σ' h; simp [codeB] at h; rw [← h.1]; simp
  | goto _ => intro fb σ e fb' σ' h; simp [codeB] at h
  | refuse _ => intro fb σ e fb' σ' h; simp [codeB] at h
  | rangeFunc _ _ _ _ _ _ => intro fb σ e fb' σ' h; simp [codeB] at h
  | seq x y ihx ihy =>
    intro fb σ e fb' σ' h
    simp only [codeB, seqB] at h
    split at h
    · exact ihy _ _ _ _ _ h
    · exact ihx _ _ _ _ _ h
  | cond c x y ihx ihy =>
    intro fb σ e fb' σ' h
    simp only [codeB, condB] at h
    split at h
    · rename_i t _
      cases t with
      | true => exact ihx _ _ _ _ _ h
      | false => exact ihy _ _ _ _ _ h
    · cases h
  | block id c ih =>
    intro fb σ e fb' σ' h
    simp only [codeB, blockB] at h
    split at h
    · rcases bif_cases h with ⟨_, h⟩ | ⟨_, h⟩ <;> simp at h <;> rw [← h.1] <;> simp
    · exact ih _ _ _ _ _ h
  | scope c ih => intro fb σ e fb' σ' h; exact ih _ _ _ _ _ h
  | loop c ih =>
    intro fb σ e fb' σ' h
    simp only [codeB] at h
    have key : ∀ m fb σ, loopB (codeB P rec prec fuel c) m fb σ = some (e, fb', σ') → ∀ l, e ≠ .goto l := by
      intro m
      induction m with
      | zero => intro fb σ h; simp [loopB] at h
      | succ m ihm =>
        intro fb σ h
        simp only [loopB] at h
        split at h
        · exact ihm _ _ h
        · exact ih _ _ _ _ _ h
    exact key _ _ _ h
  | region id ops draw =>
    intro fb σ e fb' σ' h
    simp only [codeB, regionB] at h
    cases draw with
    | true =>
      simp only at h
      split at h
      · simp at h; rw [← h.1]; simp
      · split at h
        · simp at h; rw [← h.1]; simp [died]
        · cases h
    | false =>
      simp only at h
      split at h
      · simp at h; rw [← h.1]; exact exitB_goto
      · cases h
theorem codeB_sound (hm : P.follows .mixedOrders = true) (hz : zeroOk P) (hrec : RecSound P rec) (hp : PSound P prec) (fuel : Nat) : ∀ (c : Code), codeOk c = true → ∀ (fb : Fb) (σ : St) (e : Exit) (fb' : Fb) (σ' : St), codeB P rec prec fuel c fb σ = some (e, fb', σ') →
    ∀ (ι : Inj) (w : World) (a : Act) (n : Nat) (Q : Exit → Act → World → Prop), Rep ι σ w → FbR ι fb a → (∀ ι' a' w', Good ι σ w ι' σ' w' → FbR ι' fb' a' → Q e a' w') → c.wpIn (Fw none) n P Q a w := by
  intro c
  induction c with
  | skip => intro _ fb σ e fb' σ' h ι w a n Q hr hf hQ; simp [codeB] at h; obtain ⟨rfl, rfl, rfl⟩ := h; exact wpIn_skip (hQ ι a w (.refl hr) hf)
  | label _ => intro _ fb σ e fb' σ' h ι w a n Q hr hf hQ; simp [codeB] at h; obtain ⟨rfl, rfl, rfl⟩ := h; exact wpIn_label (hQ ι a w (.refl hr) hf)
  | ret => intro _ fb σ e fb' σ' h ι w a n Q hr hf hQ; simp [codeB] at h; obtain ⟨rfl, rfl, rfl⟩ := h; exact wpIn_ret (hQ ι a w (.refl hr) hf)
  | exit _ => intro _ fb σ e fb' σ' h ι w a n Q hr hf hQ; simp [codeB] at h; obtain ⟨rfl, rfl, rfl⟩ := h; exact wpIn_exit (hQ ι a w (.refl hr) hf)
  | goto _ => intro _ fb σ e fb' σ' h; simp [codeB] at h
  | refuse _ => intro _ fb σ e fb' σ' h; simp [codeB] at h
  | rangeFunc _ _ _ _ _ _ => intro _ fb σ e fb' σ' h; simp [codeB] at h
  | seq x y ihx ihy =>
    intro hok fb σ e fb' σ' h ι w a n Q hr hf hQ
    simp only [codeOk, Bool.and_eq_true] at hok
    simp only [codeB, seqB] at h
    refine wpIn_seq ?_
    split at h
    · rename_i fb₁ σ₁ h1
      refine ihx hok.1 _ _ _ _ _ h1 ι w a n _ hr hf (fun ι₁ a₁ w₁ hg1 hf1 => ?_)
      exact ihy hok.2 _ _ _ _ _ h ι₁ w₁ a₁ n Q hg1.rep hf1 (fun ι₂ a₂ w₂ hg2 hf2 => hQ ι₂ a₂ w₂ (hg1.trans hg2) hf2)
    · rename_i hno
      refine ihx hok.1 _ _ _ _ _ h ι w a n _ hr hf (fun ι₁ a₁ w₁ hg1 hf1 => ?_)
      cases e with
      | normal => exact absurd h (hno _ _)
      | _ => exact hQ ι₁ a₁ w₁ hg1 hf1
  | cond c x y ihx ihy =>
    intro hok fb σ e fb' σ' h ι w a n Q hr hf hQ
    simp only [codeOk, Bool.and_eq_true] at hok
    simp only [codeB, condB] at h
    have hc := aeval_sound hf.tms hok.1.1
    split at h
    · rename_i t ht
      rw [ht] at hc
      have hcb := hc.bool_inv
      cases t with
      | true => exact wpIn_cond_true hcb (ihx hok.1.2 _ _ _ _ _ h ι w a n Q hr hf hQ)
      | false => exact wpIn_cond_false hcb (ihy hok.2 _ _ _ _ _ h ι w a n Q hr hf hQ)
    · cases h
  | block id c ih =>
    intro hok fb σ e fb' σ' h ι w a n Q hr hf hQ
    simp only [codeB, blockB] at h
    refine wpIn_block ?_
    split at h
    · rename_i i fb₁ σ₁ h1
      refine ih hok _ _ _ _ _ h1 ι w a n _ hr hf (fun ι₁ a₁ w₁ hg1 hf1 => ?_)
      rcases bif_cases h with ⟨hi, h⟩ | ⟨hi, h⟩
      · simp at h; obtain ⟨rfl, rfl, rfl⟩ := h
        simp only [Exit.inBlock]
        rw [if_pos (Nat.eq_of_beq_eq_true hi)]; exact hQ ι₁ a₁ w₁ hg1 hf1
      · simp at h; obtain ⟨rfl, rfl, rfl⟩ := h
        simp only [Exit.inBlock]
        rw [if_neg (fun e => by rw [e, Nat.beq_refl] at hi; cases hi)]; exact hQ ι₁ a₁ w₁ hg1 hf1
    · rename_i hno
      refine ih hok _ _ _ _ _ h ι w a n _ hr hf (fun ι₁ a₁ w₁ hg1 hf1 => ?_)
      cases e with
      | exit i => exact absurd h (hno _ _ _)
      | _ => exact hQ ι₁ a₁ w₁ hg1 hf1
  | scope c ih =>
    intro hok fb σ e fb' σ' h ι w a n Q hr hf hQ
    refine wpIn_scopeN (ih hok _ _ _ _ _ h ι w a n _ hr hf (fun ι₁ a₁ w₁ hg1 hf1 => ⟨codeB_noGoto fuel c _ _ _ _ _ h, hQ ι₁ a₁ w₁ hg1 hf1⟩))
  | loop c ih =>
    intro hok fb σ e fb' σ' h ι w a n Q hr hf hQ
    simp only [codeB] at h
    refine wpIn_loopN (fun m a₁ w₁ => ∃ fb₁ σ₁ ι₁, loopB (codeB P rec prec fuel c) m fb₁ σ₁ = some (e, fb', σ') ∧ Good ι σ w ι₁ σ₁ w₁ ∧ FbR ι₁ fb₁ a₁) ⟨fb, σ, ι, h, .refl hr, hf⟩ (fun m a₁ w₁ ⟨fb₁, σ₁, ι₁, hl, hg1, hf1⟩ => ?_)
    cases m with
    | zero => simp [loopB] at hl
    | succ m =>
      simp only [loopB] at hl
      split at hl
      · rename_i fb₂ σ₂ h2
        exact ih hok _ _ _ _ _ h2 ι₁ w₁ a₁ n _ hg1.rep hf1 (fun ι₂ a₂ w₂ hg2 hf2 => ⟨m, by omega, fb₂, σ₂, ι₂, hl, hg1.trans hg2, hf2⟩)
      · rename_i hno
        refine ih hok _ _ _ _ _ hl ι₁ w₁ a₁ n _ hg1.rep hf1 (fun ι₂ a₂ w₂ hg2 hf2 => ?_)
        cases e with
        | normal => exact absurd hl (hno _ _)
        | _ => exact hQ ι₂ a₂ w₂ (hg1.trans hg2) hf2
  | region id ops draw =>
    intro hok fb σ e fb' σ' h ι w a n Q hr hf hQ
    simp only [codeOk] at hok
    simp only [codeB, regionB] at h
    cases draw with
    | true =>
      simp only at h
      split at h
      · rename_i f₁ σ₁ h1
        simp at h; obtain ⟨rfl, rfl, rfl⟩ := h
        exact region_draw hm hz hrec hok h1 hr hf.tms fun ι' a' w' hg ht hd => hQ ι' a' w' hg ⟨ht, by rw [hd]; exact hf.dfs.ext hg.ext⟩
      · split at h
        · rename_i x₁ f₁ σ₁ h1
          simp at h; obtain ⟨rfl, rfl, rfl⟩ := h
          exact drawP_sound hm hz hrec hp hok h1 hr hf hQ
        · cases h
    | false =>
      simp only at h
      split at h
      · rename_i r fb₁ σ₁ h1
        simp at h; obtain ⟨rfl, rfl, rfl⟩ := h
        exact region_textB hz hrec hp hok h1 hr hf hQ
      · cases h
end
end Go.Lay

/-! Top: The theorem: what the abstract semantics computes the model computes. -/
namespace Go.Lay
open Go

structure ProgOk (P : Program) : Prop where
  mixed : P.follows .mixedOrders = true
  zero : zeroOk P
  code : ∀ (f : FuncId) (fn : Func) (c : Code), P.funcs[f]? = some fn → fn.body = some c → codeOk c = true ∧ fn.name ≠ "runtime.NumGoroutine"

theorem Tm.puts_eq {β : Type} : ∀ (l : List (Nat × Value)) (f : Tm) (k : Tm → β), Tm.puts l f k = k (l.foldl (fun f p => f.set p.1 p.2) f)
  | [], _, _ => rfl
  | (i, v) :: l, f, k => by rw [Tm.puts, Tm.put_eq, Tm.puts_eq l]; rfl

section
variable {P : Program} {ι : Inj} {σ : St} {w : World}

theorem args_tms : ∀ (args args' : List Value) (k : Nat) (f : Tm) (tm : Array Value), VRs ι args args' → TmR ι f tm → TmR ι ((Tm.args k args).foldl (fun f p => f.set p.1 p.2) f) ((Tm.args k args').foldl (fun t p => t.setIfInBounds p.1 p.2) tm)
  | [], [], _, _, _, _, h => h
  | [], _ :: _, _, _, _, h, _ => by cases h
  | _ :: _, [], _, _, _, h, _ => by cases h
  | v :: l, v' :: l', k, f, tm, h, ht => by
    cases h with
    | cons hv hl => exact args_tms l l' (k + 1) _ _ hl (ht.set k hv)

theorem args_foldl : ∀ (l : List Value) (k : Nat) (tm : Array Value), k + l.length ≤ tm.size → ((Tm.args k l).foldl (fun (t : Array Value) p => t.setIfInBounds p.1 p.2) tm).toList = tm.toList.take k ++ (l ++ tm.toList.drop (k + l.length))
  | [], k, tm, _ => by simp [Tm.args]
  | v :: l, k, tm, h => by
    simp only [List.length_cons] at h
    simp only [Tm.args, List.foldl_cons]
    rw [args_foldl l (k + 1) _ (by simp; omega)]
    have hlt : k < tm.toList.length := by simp; omega
    simp only [Array.toList_setIfInBounds, List.length_cons]
    have e1 : (tm.toList.set k v).take (k + 1) = tm.toList.take k ++ [v] := by
      rw [List.take_succ_eq_append_getElem (by simpa using hlt), List.take_set_of_le (Nat.le_refl _)]
      simp
    have e2 : (tm.toList.set k v).drop (k + 1 + l.length) = tm.toList.drop (k + (l.length + 1)) := by
      rw [List.drop_set_of_lt (by omega)]; congr 1; omega
    rw [e1, e2]; simp

theorem getP_full : ∀ (p : List Bool) (d : Nat), Tr.getP p (fullT d) = none ∨ Tr.getP p (fullT d) = some undef
  | p, 0 => .inl (Tr.getP_leaf p)
  | [], d + 1 => .inr rfl
  | b :: p, d + 1 => by cases b <;> exact getP_full p d
theorem fresh_nth (n i : Nat) : (fresh n).nth i = undef := by
  unfold fresh Tm.nth
  rcases getP_full (way i) ((way n).length + 1) with h | h <;> simp only [h]

theorem enter_tms {args args' : List Value} (h : VRs ι args args') (N : Nat) :
    TmR ι ((Tm.args 0 args).foldl (fun f p => f.set p.1 p.2) (fresh (args.length + (N - args.length)))) ((⟨args'⟩ : Array Value) ++ Array.replicate (N - (⟨args'⟩ : Array Value).size) undef) := by
  have h0 : TmR ι (fresh (args.length + (N - args.length))) (Array.replicate (args'.length + (N - args'.length)) undef) := by
    refine ⟨by simp [fresh, h.length], fun i => ?_⟩
    have e1 : (fresh (args.length + (N - args.length))).nth i = undef := fresh_nth _ _
    have e2 : (Array.replicate (args'.length + (N - args'.length)) undef).getD i undef = undef := by
      by_cases hi : i < args'.length + (N - args'.length) <;> simp [Array.getD, hi]
    rw [e1, e2]; exact .undef
  have h1 := args_tms args args' 0 _ _ h h0
  have h2 : ((Tm.args 0 args').foldl (fun (t : Array Value) p => t.setIfInBounds p.1 p.2) (Array.replicate (args'.length + (N - args'.length)) undef)) = (⟨args'⟩ : Array Value) ++ Array.replicate (N - (⟨args'⟩ : Array Value).size) undef := by
    apply Array.ext'
    rw [args_foldl args' 0 _ (by simp)]
    simp
  rw [h2] at h1; exact h1

theorem zip_tms : ∀ (ps : List Nat) (args args' : List Value) (f : Tm) (tm : Array Value), VRs ι args args' → TmR ι f tm → TmR ι ((ps.zip args).foldl (fun f p => f.set p.1 p.2) f) ((ps.zip args').foldl (fun t p => t.setIfInBounds p.1 p.2) tm)
  | [], _, _, _, _, _, h => by simpa using h
  | p :: ps, [], [], _, _, _, h => by simpa using h
  | p :: ps, [], _ :: _, _, _, h, _ => by cases h
  | p :: ps, _ :: _, [], _, _, h, _ => by cases h
  | p :: ps, v :: l, v' :: l', f, tm, h, ht => by
    cases h with
    | cons hv hl => exact zip_tms ps l l' _ _ hl (ht.set p hv)

/-- One result. -/
def resOne (tms : Array Value) : ResultVar → Sem Value
  | .tmp t => pure (tms.getD t undef)
  | .cell a t => do loadVar t (← asAddr (tms.getD a undef))
theorem results_eq (fn : Func) (tms : Array Value) : results fn tms = (do let vs ← fn.results.mapM (resOne tms); pure (if h : vs.size = 1 then vs[0] else .tuple vs)) := rfl
theorem resultsOf_run {f : Tm} {tms : Array Value} (hr : Rep ι σ w) (ht : TmR ι f tms) : ∀ (rs : List ResultVar) (vs : List Value), resultsOf P f σ rs = some vs →
    ∃ vs', VRs ι vs vs' ∧ (rs.mapM (resOne tms)).run P w = .ok vs' w
  | [], vs, h => by simp [resultsOf] at h; subst h; exact ⟨[], .nil, by simp⟩
  | r :: rs, vs, h => by
    simp only [resultsOf] at h
    split at h
    · rename_i v hv
      split at h
      · rename_i vs0 hvs
        simp at h; subst h
        obtain ⟨vs', h1, h2⟩ := resultsOf_run hr ht rs vs0 hvs
        cases r with
        | tmp t =>
          simp [resultA] at hv; subst hv
          refine ⟨tms.getD t undef :: vs', .cons (ht.2 t) h1, ?_⟩
          rw [List.mapM_cons]
          simp only [resOne, Sem.run_bind, Sem.run_pure, Result.andThen_ok, h2]
        | cell a t =>
          simp only [resultA] at hv
          split at hv
          · rename_i a0 ha0
            have hp := ht.2 a
            rw [ha0] at hp
            obtain ⟨L, hl, hlo, e⟩ := hp.ptr_inv
            obtain ⟨v', g1, g2⟩ := loadA_sound (P := P) hv hr hl hlo
            refine ⟨v' :: vs', .cons g2 h1, ?_⟩
            have g0 : (resOne tms (.cell a t)).run P w = .ok v' w := by
              simp only [resOne, e, asAddr, Sem.run_bind, Sem.run_pure, Result.andThen_ok, g1]
            rw [List.mapM_cons]
            simp only [Sem.run_bind, Sem.run_pure, Result.andThen_ok, g0, h2]
          · cases hv
      · cases h
    · cases h

theorem results_run {fn : Func} {f : Tm} {tms : Array Value} {v : Value} (hr : Rep ι σ w) (ht : TmR ι f tms) (h : resultsA P fn f σ = some v) : ∃ v', (results fn tms).run P w = .ok v' w ∧ VR ι v v' := by
  unfold resultsA at h
  have key : ∀ vs, resultsOf P f σ fn.results.toList = some vs → ∃ vs', VRs ι vs vs' ∧ (results fn tms).run P w = .ok (if h : (⟨vs'⟩ : Array Value).size = 1 then (⟨vs'⟩ : Array Value)[0] else .tuple ⟨vs'⟩) w := by
    intro vs hvs
    obtain ⟨vs', h1, h2⟩ := resultsOf_run hr ht _ _ hvs
    refine ⟨vs', h1, ?_⟩
    have h3 : (fn.results.mapM (resOne tms)).run P w = .ok ⟨vs'⟩ w := by
      rw [Array.mapM_eq_mapM_toList]; simp [h2]
    rw [results_eq, Sem.run_bind, h3]; rfl
  split at h
  · rename_i v0 hv
    simp at h; subst h
    obtain ⟨vs', h1, h2⟩ := key _ hv
    cases h1 with
    | cons hv0 hn =>
      cases hn
      rename_i v'
      refine ⟨v', ?_, hv0⟩
      rw [h2]; simp
  · rename_i vs hne hv
    simp at h; subst h
    obtain ⟨vs', h1, h2⟩ := key _ hv
    have hlen := h1.length
    have hl1 : ¬ (⟨vs'⟩ : Array Value).size = 1 := by
      intro e
      have e : vs'.length = 1 := e
      rw [← hlen] at e
      obtain ⟨x, hx⟩ := List.length_eq_one_iff.1 e
      exact hne x hx
    refine ⟨.tuple ⟨vs'⟩, ?_, .tuple' h1⟩
    rw [h2, dif_neg hl1]
  · cases h

theorem leaves_sound {fn : Func} {f : Tm} {tms : Array Value} {v : Value} {n : Nat} {R : Ending → World → Prop} : ∀ (marks : List Nat) (ds : List Deferred) (σ : St) (w : World) (σ₁ : St), dropMarks marks σ = some σ₁ → DefR ι marks ds → Rep ι σ w → TmR ι f tms →
    resultsA P fn f σ₁ = some v → (∀ v' w', VR ι v v' → Good ι σ w ι σ₁ w' → R (.returned v') w') → LeavesInM (Fw none) n P fn tms R ds .returning w
  | [], ds, σ, w, σ₁, h, hd, hr, ht, hres, hR => by
    cases hd
    simp [dropMarks] at h; subst h
    obtain ⟨v', h1, h2⟩ := results_run hr ht hres
    exact ⟨v', h1, hR v' w h2 (.refl hr)⟩
  | m :: ms, ds, σ, w, σ₁, h, hd, hr, ht, hres, hR => by
    cases hd with
    | cons hl hds =>
      rename_i L ds
      simp only [dropMarks] at h
      split at h
      · rename_i hb
        rw [St.drop_eq] at h
        obtain ⟨L', h1, h2, hg⟩ := shut_good hr hb
        rw [hl] at h1; cases h1
        refine ⟨by simp, .inl ⟨L.c, _, rfl, run_takeDeferred h2, ?_⟩⟩
        exact leaves_sound ms ds _ _ σ₁ h hds hg.rep ht hres (fun v' w' hv hg' => hR v' w' hv (hg.trans hg'))
      · cases h

end
end Go.Lay

/-! PanC: Calls that panic; a call whose deferred closure recovers. -/
namespace Go.Lay
open Go
/-- A call that dies, with what. -/
def diedA : Option (Exit × Fb × St) → Option (Value × St)
  | some (.panic [{ v := x, recovered := false, goexit := false }], fb, σ) => match fb.ds with
    | [] => some (x, σ)
    | _ => none
  | _ => none
def bodyP (P : Program) (rec : Rec) (prec : PRec) (N : Nat) : PRec := fun f args σ =>
  match P.funcs[f]? with
  | some fn => match fn.body with
    | some c => Tm.puts (Tm.args 0 args) (fresh (args.length + (fn.ntmps - args.length))) fun tm => diedA (codeB P rec prec N c ⟨tm, []⟩ σ)
    | none => none
  | none => none
section
variable {P : Program} {ι : Inj} {σ : St} {w : World} {rec : Rec} {prec : PRec}
theorem diedA_inv {r : Option (Exit × Fb × St)} {x : Value} {σ' : St} (h : diedA r = some (x, σ')) : ∃ fb, r = some (died x, fb, σ') ∧ fb.ds = [] := by
  unfold diedA at h
  split at h
  · split at h
    · rename_i hds
      simp at h; obtain ⟨rfl, rfl⟩ := h
      exact ⟨_, rfl, hds⟩
    · cases h
  · cases h
theorem enterB {args args' : List Value} (ha : VRs ι args args') (N : Nat) : FbR ι ⟨(Tm.args 0 args).foldl (fun f p => f.set p.1 p.2) (fresh (args.length + (N - args.length))), []⟩ { tmps := (⟨args'⟩ : Array Value) ++ Array.replicate (N - (⟨args'⟩ : Array Value).size) undef, defers := [] } :=
  ⟨enter_tms ha N, .nil⟩
theorem bodyP_sound (hP : ProgOk P) (hrec : RecSound P rec) (hp : PSound P prec) (N : Nat) : PSound P (bodyP P rec prec N) := by
  refine ⟨fun f args σ x σ' h ι w args' hr ha => ?_⟩
  unfold bodyP at h
  split at h
  · rename_i fn hfn
    split at h
    · rename_i c hc
      rw [Tm.puts_eq] at h
      obtain ⟨hok, hname⟩ := hP.code f fn c hfn hc
      refine ⟨⟨fn, hfn, by rw [hc]; rfl, hname⟩, fun n => ?_⟩
      obtain ⟨fb, hcode, hds⟩ := diedA_inv h
      refine callsIn_of_wp hfn hc trivial ?_
      refine codeB_sound hP.mixed hP.zero hrec hp N c hok _ _ _ _ _ hcode ι w _ n _ hr (enterB ha fn.ntmps) (fun ι' a' w' hg hf => ?_)
      have hd := hf.dfs
      rw [hds] at hd
      refine ⟨?_, rfl, ι', hg⟩
      generalize a'.defers = ds at hd
      cases hd
      rfl
    · cases h
  · cases h
end
/-! ### A deferred closure that recovers -/
def recB : Op → Bool
  | .call c => match c.callee with
    | .builtin .recover => match c.args.toList with | [] => true | _ => false
    | _ => false
  | _ => false
/-- Operations that only compute. -/
def pureOps (P : Program) : List Oper → Tm → Option Tm
  | [], f => some f
  | o :: rest, f => match o.guard with
    | none => match valOp P (aeval f) o.op with
      | some v => putA f o.dst v fun f => pureOps P rest f
      | none => none
    | some _ => none
def shutA (P : Program) (fn : Func) : Option (Exit × Fr × St) → Option St
  | some (.normal, fr, σ) => match fr.marks with | [] => (resultsA P fn fr.f σ).map fun _ => σ | _ => none
  | some (.ret, fr, σ) => match fr.marks with | [] => (resultsA P fn fr.f σ).map fun _ => σ | _ => none
  | _ => none
def closA (P : Program) (rec : Rec) (N : Nat) (rv : Value) (g : FuncId) (as : List Value) (σ : St) : Option St :=
  match P.funcs[g]? with
  | some fn => match fn.body with
    | some (.seq (.region _ ops false) rest) => match ops.toList with
      | o :: os => bif recB o.op && o.guard.isNone then
          Tm.puts (Tm.args 0 as) (fresh (as.length + (fn.ntmps - as.length))) fun tm =>
          putA tm o.dst rv fun tm => match pureOps P os tm with
            | some tm => shutA P fn (codeA P rec N none rest ⟨tm, []⟩ σ)
            | none => none
        else none
      | [] => none
    | _ => none
  | none => none
section
variable {P : Program} {ι : Inj} {σ : St} {w : World} {rec : Rec} {prec : PRec} {ops : Array Oper}
theorem pure_wpS (hz : zeroOk P) {Q : Exit → Act → List Frame → World → Prop} {cs : List Frame} : ∀ (rest : List Oper) (k : Nat) {f t : Tm} {a : Act}, pureOps P rest f = some t → (∀ i, i < rest.length → ops[k + i]? = rest[i]?) → rest.all operOk = true →
    TmR ι f a.tmps → a.defers = [] → (∀ a', TmR ι t a'.tmps → a'.defers = [] → Q .normal a' cs w) → wpOpsS P ops Q ((List.range rest.length).map (k + ·)) a cs w
  | [], k, f, t, a, h, _, _, hf, hd, hQ => by
    simp [pureOps] at h; subst h
    exact hQ a hf hd
  | o :: rest, k, f, t, a, h, hget, hok, hf, hd, hQ => by
    simp only [List.all_cons, Bool.and_eq_true] at hok
    have hl : (List.range (o :: rest).length).map (k + ·) = k :: (List.range rest.length).map (k + 1 + ·) := by
      rw [List.length_cons, List.range_succ_eq_map, List.map_cons, List.map_map]
      congr 1
      refine List.map_congr_left (fun i _ => ?_)
      simp; omega
    rw [hl]
    have ho : ops[k]? = some o := by have := hget 0 (by simp); simpa using this
    unfold pureOps at h
    split at h
    · rename_i hg
      split at h
      · rename_i v hv
        rw [putA_eq] at h
        obtain ⟨v', h1, h2⟩ := valOp_sound hz hv (fun x hx => aeval_sound hf (opsOk hok.1 hx))
        have hw : Region.wanted o (yielded ops a.tmps) = true := by unfold Region.wanted; simp [hg]
        have go : wpOpsS P ops Q ((List.range rest.length).map (k + 1 + ·)) (a.put o.dst v') cs w := by
          refine pure_wpS hz rest (k + 1) h (fun i hi => ?_) hok.2 ?_ ?_ hQ
          · have := hget (i + 1) (by simp; omega)
            simpa [Nat.add_assoc, Nat.add_comm 1 i] using this
          · unfold setO Act.put
            cases o.dst with
            | none => exact hf
            | some d => exact hf.set d h2
          · rw [← hd]; unfold Act.put; split <;> rfl
        simp only [wpOpsS, ho, hw, if_true, h1 w]
        exact go
      · cases h
    · cases h
theorem shutA_inv {fn : Func} {r : Option (Exit × Fr × St)} {σ' : St} (h : shutA P fn r = some σ') : ∃ e fr v, (e = .normal ∨ e = .ret) ∧ r = some (e, fr, σ') ∧ fr.marks = [] ∧ resultsA P fn fr.f σ' = some v := by
  unfold shutA at h
  split at h
  · rename_i fr σ₁
    split at h
    · rename_i hm
      cases hres : resultsA P fn fr.f σ₁ with
      | none => rw [hres] at h; cases h
      | some v => rw [hres] at h; simp at h; subst h; exact ⟨_, _, v, .inl rfl, rfl, hm, hres⟩
    · cases h
  · rename_i fr σ₁
    split at h
    · rename_i hm
      cases hres : resultsA P fn fr.f σ₁ with
      | none => rw [hres] at h; cases h
      | some v => rw [hres] at h; simp at h; subst h; exact ⟨_, _, v, .inr rfl, rfl, hm, hres⟩
    · cases h
  · cases h
theorem rec_run {o : Oper} {ev : Operand → Value} (h : recB o.op = true) : (execOp ev o).run P w = .ok .recover w := by
  unfold recB at h
  split at h
  · rename_i c hc
    split at h
    · rename_i hcal
      split at h
      · rename_i hargs
        simp [execOp, hc, resolve, hcal, invoke]
        rfl
      · cases h
    · cases h
  · cases h
/-- What recover sees, of the frame below. -/
def SeesR (u : FrameMode) (rv : Value) (u' : FrameMode) : Prop := ∀ (c₀ : Frame) (cs : List Frame), c₀.mode = u → match recoverD (c₀ :: cs) with
  | some (v, cs') => v = rv ∧ cs' = { c₀ with mode := u' } :: cs
  | none => rv = .nilIface ∧ u' = u
theorem sees_panic (x : Value) : SeesR (.panicking [{ v := x, recovered := false }]) x (.panicking [{ v := x, recovered := true }]) := by
  intro c₀ cs h
  simp [recoverD, h]
theorem sees_return : SeesR .returning .nilIface .returning := by
  intro c₀ cs h
  simp [recoverD, h]
theorem clos_sound (hP : ProgOk P) (hrec : RecSound P rec) {N : Nat} {rv : Value} {g : FuncId} {as as' : List Value} {σ' : St} {u u' : FrameMode} (h : closA P rec N rv g as σ = some σ') (hrig : rigidB RD rv = true) (hr : Rep ι σ w) (ha : VRs ι as as') (hs : SeesR u rv u') :
    (∃ fn, P.funcs[g]? = some fn ∧ fn.body.isSome = true ∧ fn.name ≠ "runtime.NumGoroutine") ∧ CallsD P g ⟨as'⟩ u w fun e u₁ w' => (∃ v, e = .returned v) ∧ u₁ = u' ∧ ∃ ι', Good ι σ w ι' σ' w' := by
  unfold closA at h
  split at h
  · rename_i fn hfn
    split at h
    · rename_i id ops rest hc
      split at h
      · rename_i o os hops
        obtain ⟨hb, h⟩ := bif_some h
        rw [Bool.and_eq_true] at hb
        rw [Tm.puts_eq, putA_eq] at h
        split at h
        · rename_i tm hpure
          obtain ⟨hok, hname⟩ := hP.code g fn _ hfn hc
          simp only [codeOk, Bool.and_eq_true] at hok
          have hok1 := hok.1
          rw [hops, List.all_cons, Bool.and_eq_true] at hok1
          refine ⟨⟨fn, hfn, by rw [hc]; rfl, hname⟩, callsD_of_wpS hfn hc fun c₀ cs hu => wpS_seq (wpS_region ?_)⟩
          obtain ⟨e, fr, v, he, hcode, hm, hres⟩ := shutA_inv h
          have hget : ∀ i : Nat, ops[i]? = (o :: os)[i]? := fun i => by rw [← hops]; simp
          have ho : ops[0]? = some o := by rw [hget]; rfl
          have hsz : List.range ops.size = 0 :: (List.range os.length).map (1 + ·) := by
            have : ops.size = os.length + 1 := by rw [← Array.length_toList, hops]; rfl
            rw [this, List.range_succ_eq_map]
            congr 1
            refine List.map_congr_left fun i _ => ?_
            omega
          rw [hsz]
          have hgd : o.guard = none := by cases hg : o.guard <;> simp_all
          have hw : ∀ t, Region.wanted o t = true := fun t => by unfold Region.wanted; simp [hgd]
          have ent := enterB ha fn.ntmps
          have last : ∀ a : Act, TmR ι tm a.tmps → a.defers = [] → rest.wpS P (bodyPostS P fn c₀ cs fun e u₁ w' => (∃ v, e = .returned v) ∧ u₁ = u' ∧ ∃ ι', Good ι σ w ι' σ' w') a ({ c₀ with mode := u' } :: cs) w := by
            intro a ht hd
            refine wpS_of_wp (wpIn_wide (n := 0).1 ?_)
            refine codeA_sound hP.mixed hP.zero hrec N none rest hok.2 _ _ _ _ _ hcode ι w a none 0 _ hr ⟨ht, by rw [hd]; exact .nil⟩ .none (fun ι' a' w' hg hf => ?_)
            have hds : a'.defers = [] := by
              have := hf.defs
              rw [hm] at this
              generalize a'.defers = ds at this
              cases this
              rfl
            obtain ⟨v', hv1, hv2⟩ := results_run hg.rep hf.tms hres
            rcases he with rfl | rfl <;> exact ⟨hds, u', rfl, v', hv1, ⟨v', rfl⟩, rfl, ι', hg⟩
          have step : ∀ a : Act, TmR ι (setO ((Tm.args 0 as).foldl (fun f p => f.set p.1 p.2) (fresh (as.length + (fn.ntmps - as.length)))) o.dst rv) a.tmps → a.defers = [] → wpOpsS P ops (Exit.thenS (rest.wpS P (bodyPostS P fn c₀ cs fun e u₁ w' => (∃ v, e = .returned v) ∧ u₁ = u' ∧ ∃ ι', Good ι σ w ι' σ' w')) (bodyPostS P fn c₀ cs fun e u₁ w' => (∃ v, e = .returned v) ∧ u₁ = u' ∧ ∃ ι', Good ι σ w ι' σ' w')) ((List.range os.length).map (1 + ·)) a ({ c₀ with mode := u' } :: cs) w := by
            intro a ht hd
            refine pure_wpS hP.zero os 1 hpure (fun i hi => ?_) hok1.2 ht hd fun a' ht' hd' => last a' ht' hd'
            rw [hget, Nat.add_comm]; rfl
          have put : TmR ι (setO ((Tm.args 0 as).foldl (fun f p => f.set p.1 p.2) (fresh (as.length + (fn.ntmps - as.length)))) o.dst rv) ((({ tmps := (⟨as'⟩ : Array Value) ++ Array.replicate (fn.ntmps - (⟨as'⟩ : Array Value).size) undef, defers := [] } : Act).put o.dst rv).tmps) ∧ ((({ tmps := (⟨as'⟩ : Array Value) ++ Array.replicate (fn.ntmps - (⟨as'⟩ : Array Value).size) undef, defers := [] } : Act).put o.dst rv).defers) = [] := by
            have h1 := ent.put (o := o) (.refl hr) (VR.refl_rigid _ hrig)
            refine ⟨h1.tms, ?_⟩
            unfold Act.put; split <;> rfl
          simp only [wpOpsS, ho, hw, if_true, rec_run hb.1]
          have hse := hs c₀ cs hu
          split
          · rename_i v1 cs1 hrd
            rw [hrd] at hse
            obtain ⟨rfl, rfl⟩ := hse
            exact step _ put.1 put.2
          · rename_i hrd
            rw [hrd] at hse
            obtain ⟨rfl, rfl⟩ := hse
            have : ({ c₀ with mode := u' } : Frame) = c₀ := by subst hu; rfl
            rw [this] at step
            exact step _ put.1 put.2
        · cases h
      · cases h
    · cases h
  · cases h
/-! ### A call whose deferred closure recovers -/
def rvOf : Exit → Option Value
  | .normal => some .nilIface
  | .ret => some .nilIface
  | .panic [{ v := x, recovered := false, goexit := false }] => some x
  | _ => none
def recEnd (P : Program) (rec : Rec) (N : Nat) (fn : Func) : Option (Exit × Fb × St) → Option (Value × St)
  | some (e, fb, σ) => match fb.ds with
    | [d] => match refOf d [] with
      | some (.func g, as) => match rvOf e with
        | some rv => bif rigidB RD rv then match closA P rec N rv g as σ with
          | some σ' => match resultsA P fn fb.f σ' with
            | some v => fV RD v fun v => some (v, σ')
            | none => none
          | none => none else none
        | none => none
      | _ => none
    | _ => none
  | none => none
def recvA (P : Program) (rec : Rec) (prec : PRec) (N : Nat) (f : FuncId) (args : List Value) (σ : St) : Option (Value × St) :=
  match P.funcs[f]? with
  | some fn => match fn.body with
    | some c => Tm.puts (Tm.args 0 args) (fresh (args.length + (fn.ntmps - args.length))) fun tm => recEnd P rec N fn (codeB P rec prec N c ⟨tm, []⟩ σ)
    | none => none
  | none => none
theorem recvA_sound (hP : ProgOk P) (hrec : RecSound P rec) (hp : PSound P prec) {N : Nat} {f : FuncId} {args args' : List Value} {v : Value} {σ' : St} (h : recvA P rec prec N f args σ = some (v, σ')) (hr : Rep ι σ w) (ha : VRs ι args args') :
    (∃ fn, P.funcs[f]? = some fn ∧ fn.body.isSome = true ∧ fn.name ≠ "runtime.NumGoroutine") ∧ ∀ n, CallsIn (Fw none) n P f ⟨args'⟩ w (RetR ι σ w v σ') := by
  unfold recvA at h
  split at h
  · rename_i fn hfn
    split at h
    · rename_i c hc
      rw [Tm.puts_eq] at h
      obtain ⟨hok, hname⟩ := hP.code f fn c hfn hc
      refine ⟨⟨fn, hfn, by rw [hc]; rfl, hname⟩, fun n => ?_⟩
      unfold recEnd at h
      split at h
      · rename_i e fb σ₁ hcode
        split at h
        · rename_i d hds
          split at h
          · rename_i g as href
            split at h
            · rename_i rv hrv
              obtain ⟨hrig, h⟩ := bif_some h
              split at h
              · rename_i σ₂ hcl
                split at h
                · rename_i v0 hres
                  rw [fV_eq] at h
                  simp at h; obtain ⟨rfl, rfl⟩ := h
                  refine callsIn_wide.2 (calls_of_wp_defers hfn hc (wpIn_wide (n := 0).1 ?_))
                  refine codeB_sound hP.mixed hP.zero hrec hp N c hok _ _ _ _ _ hcode ι w _ 0 _ hr (enterB ha fn.ntmps) (fun ι' a' w' hg hf => ?_)
                  have hd := hf.dfs
                  rw [hds] at hd
                  have key : ∀ u u', u ≠ .run → SeesR u rv u' → settle u' = .returning → Leaves P fn a'.tmps (RetR ι σ w v0 σ₂) a'.defers u w' := by
                    intro u u' hu hs hset
                    generalize a'.defers = ds at hd
                    cases hd with
                    | cons h1 h2 =>
                      rename_i d0 ds0
                      cases h2
                      obtain ⟨g', as1, as', cap, k1, k2, k3, k4⟩ := h1
                      rw [href] at k1
                      cases k1
                      obtain ⟨⟨fg, hfg, hbg, hng⟩, hcall⟩ := clos_sound hP hrec hcl hrig hg.rep k2 hs
                      refine ⟨hu, .func g, cap, g, ⟨as'⟩, k3, ?_, CallsD.mono hcall fun e1 u1 w1 hR => ?_⟩
                      · rw [k3]
                        have hb : fg.body ≠ none := by cases hb : fg.body <;> simp_all
                        simp [invoke, callFunc, hfg, hb, hng, k4]
                      · obtain ⟨⟨v1, rfl⟩, rfl, ι2, hg2⟩ := hR
                        show Leaves P fn a'.tmps (RetR ι σ w v0 σ₂) [] (settle u1) w1
                        rw [hset]
                        obtain ⟨v', q1, q2⟩ := results_run hg2.rep (hf.tms.ext hg2.ext) hres
                        exact ⟨v', q1, ι2, q2, hg.trans hg2⟩
                  unfold rvOf at hrv
                  split at hrv
                  · simp at hrv; subst hrv
                    exact key .returning .returning (by simp) sees_return rfl
                  · simp at hrv; subst hrv
                    exact key .returning .returning (by simp) sees_return rfl
                  · simp at hrv; subst hrv
                    exact key _ _ (by simp) (sees_panic _) rfl
                  · cases hrv
                · cases h
              · cases h
            · cases h
          · cases h
        · cases h
      · cases h
    · cases h
  · cases h
end
end Go.Lay

/-! Body: Bodies and rounds, with the calls given. -/
namespace Go.Lay
open Go
section
variable {P : Program} {rec : Rec} {ι : Inj} {σ : St} {w : World}
/-- A function, with the calls given. -/
def bodyF (P : Program) (rec : Rec) (N : Nat) (f : FuncId) (args : List Value) (σ : St) : Option (Value × St) :=
  match P.funcs[f]? with
  | some fn => match fn.body with
    | some c => Tm.puts (Tm.args 0 args) (fresh (args.length + (fn.ntmps - args.length))) fun tm => endA P fn (codeA P rec N none c ⟨tm, []⟩ σ)
    | none => none
  | none => none
/-- What the body computes, leaning on calls that are sound, the model computes. -/
theorem bodyF_sound (hP : ProgOk P) (ih : RecSound P rec) {n : Nat} {f : FuncId} {args args' : List Value} {v : Value} {σ' : St} (h : bodyF P rec n f args σ = some (v, σ')) (hr : Rep ι σ w) (ha : VRs ι args args') :
    (∃ fn, P.funcs[f]? = some fn ∧ fn.body.isSome = true ∧ fn.name ≠ "runtime.NumGoroutine") ∧ ∀ m, CallsIn (Fw none) m P f ⟨args'⟩ w (RetR ι σ w v σ') := by
  unfold bodyF at h
  split at h
  · rename_i fn hfn
    split at h
    · rename_i c hc
      rw [Tm.puts_eq] at h
      obtain ⟨hok, hname⟩ := hP.code f fn c hfn hc
      refine ⟨⟨fn, hfn, by rw [hc]; rfl, hname⟩, fun m => ?_⟩
      have fin : ∀ (e : Exit) (fr' : Fr) (σ₁ : St), (e = .normal ∨ e = .ret) → doneA P fn fr' σ₁ = some (v, σ') → ∀ ι' a' w', Good ι σ w ι' σ₁ w' → FrR ι' fr' a' → bodyPostM (Fw none) m P fn (RetR ι σ w v σ') e a' w' := by
        intro e fr' σ₁ he hd ι' a' w' hg hf
        have : LeavesInM (Fw none) m P fn a'.tmps (RetR ι σ w v σ') a'.defers .returning w' := by
          unfold doneA at hd
          split at hd
          · rename_i σ₂ hdr
            split at hd
            · rename_i v0 hres
              rw [fV_eq] at hd
              simp at hd; obtain ⟨rfl, rfl⟩ := hd
              exact leaves_sound fr'.marks a'.defers σ₁ w' σ₂ hdr hf.defs hg.rep hf.tms hres (fun v' w₂ hv hg2 => ⟨ι', hv, hg.trans hg2⟩)
            · cases hd
          · cases hd
        rcases he with rfl | rfl <;> exact this
      refine callsIn_of_wp_marks hfn hc trivial ?_
      have hfr0 : FrR ι ⟨(Tm.args 0 args).foldl (fun f p => f.set p.1 p.2) (fresh (args.length + (fn.ntmps - args.length))), []⟩ { tmps := (⟨args'⟩ : Array Value) ++ Array.replicate (fn.ntmps - (⟨args'⟩ : Array Value).size) undef, defers := [] } :=
        ⟨enter_tms ha fn.ntmps, .nil⟩
      unfold endA at h
      split at h
      · rename_i fr' σ₁ hcode
        exact codeA_sound hP.mixed hP.zero ih n none c hok _ _ _ _ _ hcode ι w _ none m _ hr hfr0 .none (fin _ fr' σ₁ (.inl rfl) h)
      · rename_i fr' σ₁ hcode
        exact codeA_sound hP.mixed hP.zero ih n none c hok _ _ _ _ _ hcode ι w _ none m _ hr hfr0 .none (fin _ fr' σ₁ (.inr rfl) h)
      · cases h
    · cases h
  · cases h
/-- A round, with the calls given. -/
def yieldF (P : Program) (rec : Rec) (n : Nat) (l : Nat) (args : List Value) (σ : St) : Option (Value × St) :=
  match getB σ.heap l with
  | some (.loop tm ps as bo _ _ _) =>
    bif Nat.beq args.length ps.length then
      Tm.puts (ps.zip args) tm fun tm => roundBody (codeA P rec n (some l) bo) l (codeA P rec n (some l) as ⟨tm, []⟩ σ)
    else none
  | _ => none
theorem yieldF_sound (hP : ProgOk P) (ih : RecSound P rec) {n : Nat} {l : Nat} {args args' : List Value} {v : Value} {σ' : St} {L : Loc} (h : yieldF P rec n l args σ = some (v, σ')) (hr : Rep ι σ w) (ha : VRs ι args args') (hl : ι.loc l 0 = some L) :
    ∀ m, ∃ fn tmps as bo, (Instr.yield L.c ⟨args'⟩).run P w = .ok (.round L.c fn tmps as bo) w ∧ RoundIn (Fw none) m P L.c fn tmps as bo w (RetR ι σ w v σ') := by
  intro m
  unfold yieldF at h
  split at h
  · rename_i tm ps as bo st pend db hb
    obtain ⟨hlen, h⟩ := bif_some h
    have hlen := Nat.eq_of_beq_eq_true hlen
    rw [Tm.puts_eq] at h
    obtain ⟨L', r, h1, h2, h3, _, h5, h6, h7, h8, oka, okb, _, _⟩ := loop_put (st' := st) (pend' := pend) hr hb
    rw [hl] at h1; cases h1
    have hsz : (⟨args'⟩ : Array Value).size = r.params.size := by rw [h6]; simp; rw [← ha.length]; exact hlen
    refine ⟨r.fn, _, r.assign, r.body, run_yield h2 hsz, ?_⟩
    rw [h7, h8]
    refine roundIn_of_wpIn trivial ?_
    have htm : TmR ι ((ps.zip args).foldl (fun f p => f.set p.1 p.2) tm) ((r.params.zip (⟨args'⟩ : Array Value)).foldl (fun tmps (t, a) => tmps.setIfInBounds t a) r.tmps) := by
      have := zip_tms ps args args' tm r.tmps ha h5
      rw [h6, ← Array.foldl_toList, Array.toList_zip]
      exact this
    -- the assignments
    unfold roundBody at h
    split at h
    · rename_i fr₁ σ₁ hcode
      split at h
      · rename_i tm1 ps1 as1 bo1 pend1 db1 hb1
        rw [St.write_eq] at h
        refine codeA_sound hP.mixed hP.zero ih n (some l) as oka _ _ _ _ _ hcode ι w _ (some L.c) m _ hr ⟨htm, .nil⟩ (.some hl) (fun ι₁ a₁ w₁ hg1 hf1 => ?_)
        obtain ⟨L1, r1, k1, k2, k3, k4, _, _, _, _, _, _, _, hg2⟩ := loop_put (st' := .busy) (pend' := pend1) hg1.rep hb1
        have hl1 := hg1.ext.loc _ _ _ hl
        rw [hl1] at k1; cases k1
        have hw : w₁.putObj L.c (.loop { r1 with state := .busy }) = w₁.putObj L.c (.loop { r1 with state := .busy, pending := pend1 }) := by rw [← k4]
        refine ⟨_, run_beginRound k2 k3, ?_⟩
        rw [hw]
        -- what is asked at the end
        have fin : ∀ (jump : Option Code) (σ₂ : St), roundEnd l jump σ₂ = some (v, σ') → ∀ ι₂ w₂, Good ι₁ (σ₁.put l (.loop tm1 ps1 as1 bo1 .busy pend1 db1)) (w₁.putObj L.c (.loop { r1 with state := .busy, pending := pend1 })) ι₂ σ₂ w₂ →
            ∃ v' w', (Instr.endRound L.c jump).run P w₂ = .ok v' w' ∧ RetR ι σ w v σ' (.returned v') w' := by
          intro jump σ₂ hend ι₂ w₂ hg3
          have hl2 := hg3.ext.loc _ _ _ hl1
          unfold roundEnd at hend
          split at hend
          · rename_i hb2
            cases jump with
            | none =>
              simp only [St.write_eq] at hend
              simp at hend; obtain ⟨rfl, rfl⟩ := hend
              obtain ⟨L2, r2, q1, q2, _, _, _, _, _, _, _, _, _, hg4⟩ := loop_put (st' := .ready) (pend' := none) hg3.rep hb2
              rw [hl2] at q1; cases q1
              exact ⟨_, _, run_endRound none q2, ι₂, .bool true, ((hg1.trans hg2).trans hg3).trans hg4⟩
            | some c =>
              simp only [St.write_eq] at hend
              simp at hend; obtain ⟨rfl, rfl⟩ := hend
              obtain ⟨L2, r2, q1, q2, _, _, _, _, _, _, _, _, _, hg4⟩ := loop_put (st' := .done) (pend' := some c) hg3.rep hb2
              rw [hl2] at q1; cases q1
              exact ⟨_, _, run_endRound (some c) q2, ι₂, .bool false, ((hg1.trans hg2).trans hg3).trans hg4⟩
          · cases hend
        unfold roundLeft at h
        split at h
        · rename_i fr₂ σ₂ hbody
          refine codeA_sound hP.mixed hP.zero ih n (some l) bo okb _ _ _ _ _ hbody ι₁ _ _ (some L.c) m _ hg2.rep hf1 (.some hl1) (fun ι₂ a₂ w₂ hg3 _ => ?_)
          exact fin none σ₂ h ι₂ w₂ hg3
        · rename_i fr₂ σ₂ hbody
          refine codeA_sound hP.mixed hP.zero ih n (some l) bo okb _ _ _ _ _ hbody ι₁ _ _ (some L.c) m _ hg2.rep hf1 (.some hl1) (fun ι₂ a₂ w₂ hg3 _ => ?_)
          exact fin (some .ret) σ₂ h ι₂ w₂ hg3
        · rename_i id fr₂ σ₂ hbody
          refine codeA_sound hP.mixed hP.zero ih n (some l) bo okb _ _ _ _ _ hbody ι₁ _ _ (some L.c) m _ hg2.rep hf1 (.some hl1) (fun ι₂ a₂ w₂ hg3 _ => ?_)
          exact fin (some (.exit id)) σ₂ h ι₂ w₂ hg3
        · cases h
      · cases h
    · cases h
  · cases h
end
end Go.Lay

/-! PanD: Calls, panicking or not, all the way down. -/
namespace Go.Lay
open Go
/-- A call's end, where nothing is deferred. -/
def endN (P : Program) (fn : Func) : Option (Exit × Fb × St) → Option (Value × St)
  | some (.normal, fb, σ) => match fb.ds with | [] => doneA P fn ⟨fb.f, []⟩ σ | _ => none
  | some (.ret, fb, σ) => match fb.ds with | [] => doneA P fn ⟨fb.f, []⟩ σ | _ => none
  | _ => none
/-- A body that might have panicked, and has not. -/
def bodyN (P : Program) (rec : Rec) (prec : PRec) (N : Nat) (f : FuncId) (args : List Value) (σ : St) : Option (Value × St) :=
  match P.funcs[f]? with
  | some fn => match fn.body with
    | some c => Tm.puts (Tm.args 0 args) (fresh (args.length + (fn.ntmps - args.length))) fun tm => endN P fn (codeB P rec prec N c ⟨tm, []⟩ σ)
    | none => none
  | none => none
def bodyX (P : Program) (rec : Rec) (prec : PRec) (N : Nat) (f : FuncId) (args : List Value) (σ : St) : Option (Value × St) :=
  match bodyF P rec N f args σ with
  | some r => some r
  | none => match recvA P rec prec N f args σ with
    | some r => some r
    | none => bodyN P rec prec N f args σ
def runX (P : Program) : Nat → Rec × PRec
  | 0 => (fun _ _ _ => none, fun _ _ _ => none)
  | n + 1 => (fun r args σ => match r with
    | .func f => bodyX P (runX P n).1 (runX P n).2 n f args σ
    | .yield l => yieldF P (runX P n).1 n l args σ, bodyP P (runX P n).1 (runX P n).2 n)
/-- Calls that return. -/
def runA (P : Program) (n : Nat) : Rec := (runX P n).1
/-- Calls that die. -/
def runP (P : Program) (n : Nat) : PRec := (runX P n).2
section
variable {P : Program} {ι : Inj} {σ : St} {w : World} {rec : Rec} {prec : PRec}
theorem bodyN_sound (hP : ProgOk P) (hrec : RecSound P rec) (hp : PSound P prec) {n : Nat} {f : FuncId} {args args' : List Value} {v : Value} {σ' : St} (h : bodyN P rec prec n f args σ = some (v, σ')) (hr : Rep ι σ w) (ha : VRs ι args args') :
    (∃ fn, P.funcs[f]? = some fn ∧ fn.body.isSome = true ∧ fn.name ≠ "runtime.NumGoroutine") ∧ ∀ m, CallsIn (Fw none) m P f ⟨args'⟩ w (RetR ι σ w v σ') := by
  unfold bodyN at h
  split at h
  rotate_left
  · cases h
  rename_i fn hfn
  split at h
  rotate_left
  · cases h
  rename_i c hc
  rw [Tm.puts_eq] at h
  obtain ⟨hok, hname⟩ := hP.code f fn c hfn hc
  refine ⟨⟨fn, hfn, by rw [hc]; rfl, hname⟩, fun m => ?_⟩
  have fin : ∀ (e : Exit) (fb : Fb) (σ₁ : St), (e = .normal ∨ e = .ret) → fb.ds = [] → doneA P fn ⟨fb.f, []⟩ σ₁ = some (v, σ') → ∀ ι' a' w', Good ι σ w ι' σ₁ w' → FbR ι' fb a' → bodyPostM (Fw none) m P fn (RetR ι σ w v σ') e a' w' := by
    intro e fb σ₁ he hds hd ι' a' w' hg hf
    have hdf := hf.dfs
    rw [hds] at hdf
    have : LeavesInM (Fw none) m P fn a'.tmps (RetR ι σ w v σ') a'.defers .returning w' := by
      generalize a'.defers = dd at hdf
      cases hdf
      unfold doneA at hd
      split at hd
      · rename_i σ₂ hdr
        split at hd
        · rename_i v0 hres
          rw [fV_eq] at hd
          simp at hd; obtain ⟨rfl, rfl⟩ := hd
          exact leaves_sound [] [] σ₁ w' σ₂ hdr .nil hg.rep hf.tms hres (fun v' w₂ hv hg2 => ⟨ι', hv, hg.trans hg2⟩)
        · cases hd
      · cases hd
    rcases he with rfl | rfl <;> exact this
  refine callsIn_of_wp_marks hfn hc trivial ?_
  unfold endN at h
  split at h
  · rename_i fb σ₁ hcode
    split at h
    · rename_i hds
      exact codeB_sound hP.mixed hP.zero hrec hp n c hok _ _ _ _ _ hcode ι w _ m _ hr (enterB ha fn.ntmps) (fin _ fb σ₁ (.inl rfl) hds h)
    · cases h
  · rename_i fb σ₁ hcode
    split at h
    · rename_i hds
      exact codeB_sound hP.mixed hP.zero hrec hp n c hok _ _ _ _ _ hcode ι w _ m _ hr (enterB ha fn.ntmps) (fin _ fb σ₁ (.inr rfl) hds h)
    · cases h
  · cases h
theorem bodyX_sound (hP : ProgOk P) (hrec : RecSound P rec) (hp : PSound P prec) {n : Nat} {f : FuncId} {args args' : List Value} {v : Value} {σ' : St} (h : bodyX P rec prec n f args σ = some (v, σ')) (hr : Rep ι σ w) (ha : VRs ι args args') :
    (∃ fn, P.funcs[f]? = some fn ∧ fn.body.isSome = true ∧ fn.name ≠ "runtime.NumGoroutine") ∧ ∀ m, CallsIn (Fw none) m P f ⟨args'⟩ w (RetR ι σ w v σ') := by
  unfold bodyX at h
  split at h
  · rename_i hb; cases h; exact bodyF_sound hP hrec hb hr ha
  · split at h
    · rename_i hb; cases h; exact recvA_sound hP hrec hp hb hr ha
    · exact bodyN_sound hP hrec hp h hr ha
theorem runX_sound (hP : ProgOk P) : ∀ n, RecSound P (runX P n).1 ∧ PSound P (runX P n).2
  | 0 => ⟨⟨fun f args σ v σ' h => by simp [runX] at h, fun l args σ v σ' h => by simp [runX] at h⟩, ⟨fun f args σ x σ' h => by simp [runX] at h⟩⟩
  | n + 1 => by
    obtain ⟨ih1, ih2⟩ := runX_sound hP n
    exact ⟨⟨fun f args σ v σ' h ι w args' hr ha => bodyX_sound hP ih1 ih2 (n := n) h hr ha, fun l args σ v σ' h ι w args' L hr ha hl => yieldF_sound hP ih1 (n := n) h hr ha hl⟩, bodyP_sound hP ih1 ih2 n⟩
theorem runA_sound (hP : ProgOk P) (n : Nat) : RecSound P (runA P n) := (runX_sound hP n).1
theorem runP_sound (hP : ProgOk P) (n : Nat) : PSound P (runP P n) := (runX_sound hP n).2
/-! ### What returns does not die -/
end
end Go.Lay

/-! Enter: From the abstract semantics to a row: programs that are fit; a start in no memory. -/
namespace Go.Lay
open Go

/-! ### Fit programs -/
def typesOk (P : Program) : Bool := P.types.toList.all fun i => match i.zero with | some z => rigidB RD z | none => true
def funcOk (fn : Func) : Bool := match fn.body with | some c => codeOk c && !(fn.name == "runtime.NumGoroutine") | none => true
def funcsOk (P : Program) : Bool := P.funcs.toList.all funcOk
theorem progOk_of {P : Program} (h1 : P.follows .mixedOrders = true) (h2 : typesOk P = true) (h3 : funcsOk P = true) : ProgOk P := by
  refine ⟨h1, fun t z hz => ?_, fun f fn c hf hc => ?_⟩
  · unfold zeroT at hz
    cases hi : P.types[t]? with
    | none => rw [hi] at hz; simp at hz
    | some i =>
      rw [hi] at hz; simp at hz
      have hm : i ∈ P.types.toList := List.mem_of_getElem? (by simpa using hi)
      have := List.all_eq_true.1 h2 i hm
      rw [hz] at this; exact this
  · have hm : fn ∈ P.funcs.toList := List.mem_of_getElem? (by simpa using hf)
    have := List.all_eq_true.1 h3 fn hm
    unfold funcOk at this
    rw [hc] at this
    simp only [Bool.and_eq_true, Bool.not_eq_true'] at this
    exact ⟨this.1, by simpa using this.2⟩

/-! ### The start -/
def noInj : Inj := { loc := fun _ _ => none, own := fun _ => none, csz := fun _ => 0 }
def noSt : St := ⟨.leaf, 0, 0⟩
theorem rep_no (w : World) : Rep noInj noSt w :=
  ⟨fun b y h => by simp [noSt, getB, Tr.getP_leaf] at h, fun _ _ _ h => by simp [noInj] at h, fun _ _ h => by simp [noInj] at h, fun _ _ _ => rfl⟩

/-- Nothing that was there is anybody's: it has been kept. -/
theorem grown_of {ι ι' : Inj} {σ σ' : St} {w w' : World} (h : Good ι σ w ι' σ' w') (ho : ∀ c, ι.own c = none) : RowKit.Grown w w' := by
  have hs : ∀ c, c < w.heap.size → w'.heap[c]? = w.heap[c]? := fun c hc => h.pres.same c hc (fun b hb => by rw [ho c] at hb; cases hb)
  refine ⟨⟨h.pres.os, h.pres.output, fun i hi => ?_⟩, fun a => ?_, h.pres.size⟩
  · rw [hs i hi]
    split <;> rename_i h1 h2
    · rw [h1] at h2; cases h2; exact ⟨rfl, rfl, rfl, fun _ _ => rfl⟩
    · rw [h1] at h2; cases h2; exact .inr ⟨rfl, rfl⟩
    · rfl
  · rcases Nat.lt_or_ge a.block w.heap.size with hlt | hge
    · simp only [World.frozen?, hs _ hlt]
    · have e1 : w.heap[a.block]? = none := by simp [hge]
      have e2 : w.frozen? a = false := by simp only [World.frozen?, e1]
      rw [e2]
      unfold World.frozen?
      split
      · rename_i arr elem lo hi hc
        rcases h.pres.fr _ _ _ _ hc with ⟨arr', elem', hc'⟩ | hf
        · rw [e1] at hc'; cases hc'
        · simp at hf; obtain ⟨rfl, rfl⟩ := hf; simp
      · rfl

def okB : Option (Value × St) → Bool
  | some (.bool b, _) => b
  | _ => false
theorem okB_some {r : Option (Value × St)} (h : okB r = true) : ∃ σ', r = some (.bool true, σ') := by
  unfold okB at h
  split at h
  · rename_i b σ'; exact ⟨σ', by rw [h]⟩
  · cases h

end Go.Lay

/-! Memo: A table of calls that are shown apart: the evaluation of a caller looks them up. -/
namespace Go.Lay
open Go

section
variable {P : Program} {rec : Rec} {ι : Inj} {σ : St} {w : World}
/-! ### Equal states, told by the kernel -/
def treq {α : Type} (eq : α → α → Bool) : Tr α → Tr α → Bool
  | .leaf, .leaf => true
  | .node (some a) l m, .node (some b) l' m' => eq a b && treq eq l l' && treq eq m m'
  | .node none l m, .node none l' m' => treq eq l l' && treq eq m m'
  | _, _ => false
def logEq : List (Nat × Nat) → List (Nat × Nat) → Bool
  | [], [] => true
  | (a, b) :: l, (a', b') :: l' => Nat.beq a a' && Nat.beq b b' && logEq l l'
  | _, _ => false
theorem logEq_eq : ∀ (l l' : List (Nat × Nat)), logEq l l' = true → l = l' := by
  intro l
  induction l with
  | nil => intro l' h; cases l' <;> simp_all [logEq]
  | cons x l ih =>
    intro l' h
    cases l' with
    | nil => simp [logEq] at h
    | cons y l' => simp only [logEq, Bool.and_eq_true, Nat.beq_eq] at h; rw [ih _ h.2]; obtain ⟨⟨h1, h2⟩, _⟩ := h; cases x; cases y; simp_all
def vsEq : List Value → List Value → Bool
  | [], [] => true
  | a :: l, b :: l' => veq RD a b && vsEq l l'
  | _, _ => false
theorem vsEq_eq : ∀ (l l' : List Value), vsEq l l' = true → l = l' := by
  intro l
  induction l with
  | nil => intro l' h; cases l' <;> simp_all [vsEq]
  | cons x l ih =>
    intro l' h
    cases l' with
    | nil => simp [vsEq] at h
    | cons y l' => simp only [vsEq, Bool.and_eq_true] at h; rw [veq_eq _ _ _ h.1, ih _ h.2]
def mapEq : List (Value × Value) → List (Value × Value) → Bool
  | [], [] => true
  | (a, b) :: l, (a', b') :: l' => veq RD a a' && veq RD b b' && mapEq l l'
  | _, _ => false
theorem mapEq_eq : ∀ (l l' : List (Value × Value)), mapEq l l' = true → l = l' := by
  intro l
  induction l with
  | nil => intro l' h; cases l' <;> simp_all [mapEq]
  | cons x l ih =>
    intro l' h
    cases l' with
    | nil => simp [mapEq] at h
    | cons y l' =>
      cases x; cases y
      simp only [mapEq, Bool.and_eq_true] at h; rw [veq_eq _ _ _ h.1.1, veq_eq _ _ _ h.1.2, ih _ h.2]
def blkEq : Blk → Blk → Bool
  | .cells c e l n ro, .cells c' e' l' n' ro' => vsEq c c' && Nat.beq e e' && logEq l l' && Nat.beq n n' && (ro == ro')
  | .map m, .map m' => mapEq m m'
  | .defd, .defd => true
  | _, _ => false
theorem blkEq_eq (a b : Blk) (h : blkEq a b = true) : a = b := by
  cases a <;> cases b <;> simp only [blkEq, Bool.and_eq_true, Bool.false_eq_true, Nat.beq_eq, beq_iff_eq] at h
  · obtain ⟨⟨⟨⟨h1, h2⟩, h3⟩, h4⟩, h5⟩ := h
    rw [vsEq_eq _ _ h1, logEq_eq _ _ h3]; simp_all
  · rw [mapEq_eq _ _ h]
  · rfl
/-- The second tree holds some of what the first holds. -/
def tsub {α : Type} (eq : α → α → Bool) : Tr α → Tr α → Bool
  | _, .leaf => true
  | .node (some a) l m, .node (some b) l' m' => eq a b && tsub eq l l' && tsub eq m m'
  | .node _ l m, .node none l' m' => tsub eq l l' && tsub eq m m'
  | _, _ => false
theorem tsub_get {α : Type} {eq : α → α → Bool} (he : ∀ a b, eq a b = true → a = b) : ∀ (t t' : Tr α), tsub eq t t' = true → ∀ p y, Tr.getP p t' = some y → Tr.getP p t = some y := by
  intro t t'
  induction t' generalizing t with
  | leaf => intro _ p y h; cases p <;> simp [Tr.getP] at h
  | node v' l' m' ihl ihm =>
    intro h p y hy
    cases t with
    | leaf => cases v' <;> simp [tsub] at h
    | node v l m =>
      have hs : (∀ b, v' = some b → v = some b) ∧ tsub eq l l' = true ∧ tsub eq m m' = true := by
        cases v' with
        | none => cases v <;> (simp only [tsub, Bool.and_eq_true] at h; exact ⟨fun _ hb => (by cases hb), h.1, h.2⟩)
        | some b =>
          cases v with
          | none => simp [tsub] at h
          | some a =>
            simp only [tsub, Bool.and_eq_true] at h
            exact ⟨fun _ hb => (by cases hb; rw [he _ _ h.1.1]), h.1.2, h.2⟩
      cases p with
      | nil => simp only [Tr.getP] at hy ⊢; exact hs.1 _ hy
      | cons b p =>
        simp only [Tr.getP] at hy ⊢
        cases b with
        | true => exact ihm _ hs.2.2 _ _ hy
        | false => exact ihl _ hs.2.1 _ _ hy
def stSub (σ τ : St) : Bool := Nat.beq σ.q τ.q && Nat.beq σ.low τ.low && tsub blkEq σ.heap τ.heap
theorem Good.sub {ι ι' : Inj} {σ τ τ' : St} {w w' : World} (h : Good ι σ w ι' τ w') (hs : stSub τ τ' = true) : Good ι σ w ι' τ' w' := by
  simp only [stSub, Bool.and_eq_true, Nat.beq_eq] at hs
  obtain ⟨⟨h1, h2⟩, h3⟩ := hs
  refine ⟨h1 ▸ h.ext, ⟨fun b y hb => ?_, fun b s L hl => h.rep.lt b s L hl, fun c b hb => ?_, fun b s hb => ?_⟩, h2 ▸ h.pres, h2 ▸ h.low, h1 ▸ h.q⟩
  · have := h.rep.blk b y (tsub_get blkEq_eq _ _ h3 _ _ hb)
    exact ⟨h1 ▸ this.1, this.2⟩
  · have := h.rep.ownlt c b hb; exact ⟨this.1, h1 ▸ this.2⟩
  · exact h.rep.fresh b s (h1 ▸ hb)

/-! ### The table -/
structure Ent where
  keep : Bool
  f : Nat
  args : List Value
  σ : St
  v : Value
  σ' : St
/-- Blocks, laid. -/
def ins : Tr Blk → List (Nat × Blk) → Tr Blk
  | t, [] => t
  | t, (i, y) :: l => Tr.setP (way i) t (some y) fun t => ins t l
/-- What lies there afterwards: what lay there, where the callee writes nothing old and hands back no address. -/
def Ent.out (e : Ent) (σ : St) : St := bif e.keep then σ else e.σ'
def findE : List Ent → Nat → List Value → St → Option (Value × St)
  | [], _, _, _ => none
  | e :: l, f, args, σ => bif Nat.beq e.f f && Nat.beq e.σ.q σ.q && vsEq e.args args && stSub σ e.σ then some (e.v, e.out σ) else findE l f args σ
def memoR (l : List Ent) (rec : Rec) : Rec := fun r args σ =>
  match r with
  | .func f => match findE l f args σ with
    | some x => some x
    | none => rec (.func f) args σ
  | .yield y => rec (.yield y) args σ
theorem findE_some : ∀ {l : List Ent} {f args σ x}, findE l f args σ = some x → ∃ e ∈ l, e.f = f ∧ e.args = args ∧ stSub σ e.σ = true ∧ x = (e.v, e.out σ) := by
  intro l
  induction l with
  | nil => intro f args σ x h; cases h
  | cons e l ih =>
    intro f args σ x h
    unfold findE at h
    cases hb : (Nat.beq e.f f && Nat.beq e.σ.q σ.q && vsEq e.args args && stSub σ e.σ) with
    | true =>
      rw [hb] at h
      simp only [Bool.and_eq_true, Nat.beq_eq] at hb
      simp only [cond_true, Option.some.injEq] at h
      exact ⟨e, List.mem_cons_self, hb.1.1.1, vsEq_eq _ _ hb.1.2, hb.2, h.symm⟩
    | false =>
      rw [hb] at h
      obtain ⟨e', he, hx⟩ := ih h
      exact ⟨e', List.mem_cons_of_mem _ he, hx⟩
theorem Rep.sub {σ σs : St} {w : World} (h : Rep ι σ w) (hs : stSub σ σs = true) : Rep ι σs w := by
  simp only [stSub, Bool.and_eq_true, Nat.beq_eq] at hs
  obtain ⟨⟨h1, _⟩, h3⟩ := hs
  refine ⟨fun b y hb => ?_, h.lt, fun c b hb => ?_, fun b s hb => h.fresh b s (h1 ▸ hb)⟩
  · have := h.blk b y (tsub_get blkEq_eq _ _ h3 _ _ hb)
    exact ⟨h1 ▸ this.1, this.2⟩
  · have := h.ownlt c b hb; exact ⟨this.1, h1 ▸ this.2⟩
/-- An entry is right: the model does so, wherever all lies that the entry names. -/
def EntSnd (P : Program) (e : Ent) : Prop := ∀ (ι : Inj) (σ : St) (w : World) (args' : List Value), stSub σ e.σ = true → Rep ι σ w → VRs ι e.args args' →
    (∃ fn, P.funcs[e.f]? = some fn ∧ fn.body.isSome = true ∧ fn.name ≠ "runtime.NumGoroutine") ∧ ∀ n, CallsIn (Fw none) n P e.f ⟨args'⟩ w (RetR ι σ w e.v (e.out σ))
def TblSnd (P : Program) (l : List Ent) : Prop := ∀ e ∈ l, EntSnd P e
theorem tbl_nil : TblSnd P [] := fun _ h => by cases h
theorem tbl_cons {e : Ent} {l : List Ent} (h : EntSnd P e) (hl : TblSnd P l) : TblSnd P (e :: l) := fun x hx => by
  rcases List.mem_cons.1 hx with rfl | hx
  · exact h
  · exact hl _ hx
theorem memo_sound (hP : ProgOk P) {l : List Ent} (h : TblSnd P l) (N : Nat) : RecSound P (memoR l (runA P N)) := by
  refine ⟨fun f args σ v σ' hx ι w args' hr ha => ?_, fun y args σ v σ' hx => (runA_sound hP N).yield y args σ v σ' hx⟩
  simp only [memoR] at hx
  cases hf : findE l f args σ with
  | some y =>
    rw [hf] at hx
    obtain ⟨e, he, rfl, rfl, hs, rfl⟩ := findE_some hf
    cases hx
    exact h e he ι σ w args' hs hr ha
  | none => rw [hf] at hx; exact (runA_sound hP N).func f args σ v σ' hx ι w args' hr ha

/-- A callee, with what is kept of what it leaves. -/
def fullB (e : Ent) : Option (Value × St) → Bool
  | some (v, τ) => veq RD v e.v && stSub τ e.σ' && !e.keep
  | none => false
theorem ent_full (hP : ProgOk P) {l : List Ent} (hl : TblSnd P l) (N : Nat) {e : Ent} (h : fullB e (bodyX P (memoR l (runA P N)) (runP P N) N e.f e.args e.σ) = true) : EntSnd P e := by
  intro ι σ w args' hs hr ha
  unfold fullB at h
  split at h
  · rename_i v τ hb
    simp only [Bool.and_eq_true, Bool.not_eq_true'] at h
    obtain ⟨h1, h2⟩ := bodyX_sound hP (memo_sound hP hl N) (runP_sound hP N) hb (hr.sub hs) ha
    refine ⟨h1, fun n => CallsIn.mono (h2 n) (fun e' w' hR => ?_)⟩
    cases e' with
    | returned v' =>
      obtain ⟨ι', hv, hg⟩ := hR
      have hg := hg.sub h.1.2
      simp only [stSub, Bool.and_eq_true, Nat.beq_eq] at hs
      refine ⟨ι', veq_eq _ _ _ h.1.1 ▸ hv, ?_⟩
      simp only [Ent.out, h.2, cond_false]
      exact ⟨hg.ext, hg.rep, hg.pres, hs.1.2 ▸ hg.low, hs.1.1 ▸ hg.q⟩
    | panicked _ => exact hR.elim
    | outgrown => exact hR.elim
  · cases h
/-- A callee that writes nothing old and hands back no address. -/
def pureB (e : Ent) : Option (Value × St) → Bool
  | some (v, τ) => veq RD v e.v && Nat.ble e.σ.q τ.low && rigidB RD e.v && e.keep
  | none => false
theorem ent_pure (hP : ProgOk P) {l : List Ent} (hl : TblSnd P l) (N : Nat) {e : Ent} (h : pureB e (bodyX P (memoR l (runA P N)) (runP P N) N e.f e.args e.σ) = true) : EntSnd P e := by
  intro ι σ w args' hs hr ha
  unfold pureB at h
  split at h
  · rename_i v τ hb
    simp only [Bool.and_eq_true] at h
    obtain ⟨h1, h2⟩ := bodyX_sound hP (memo_sound hP hl N) (runP_sound hP N) hb (hr.sub hs) ha
    refine ⟨h1, fun n => CallsIn.mono (h2 n) (fun e' w' hR => ?_)⟩
    have hn : σ.q = e.σ.q := by simp only [stSub, Bool.and_eq_true, Nat.beq_eq] at hs; exact hs.1.1
    cases e' with
    | returned v' =>
      obtain ⟨ι', hv, hg⟩ := hR
      have hv1 := veq_eq _ _ _ h.1.1.1
      subst hv1
      have hlow' := (ble_iff _ _).1 h.1.1.2
      have he := hv.rigid _ h.1.2; subst he
      have hsame : ∀ c, c < w.heap.size → (∀ b, ι.own c = some b → b < σ.q) → w'.heap[c]? = w.heap[c]? := fun c hcs ho =>
        hg.pres.same c hcs (fun b hb => Nat.lt_of_lt_of_le (hn ▸ ho b hb) hlow')
      simp only [Ent.out, h.2, cond_true]
      refine ⟨ι, .refl_rigid _ h.1.2, Ext.refl _ _ _, ⟨fun b y hb => ⟨(hr.blk b y hb).1, (hr.blk b y hb).2.keep (Ext.refl ι w.heap.size 0) hr.lt (fun c hcs ho => ?_) (fun cs esz log next ro hy s hs' => ?_)⟩, fun b s L hl => ?_, fun c b hb => ?_, hr.fresh⟩,
        ⟨hg.pres.size, fun c hcs ho => hsame c hcs (fun b hb => (hr.ownlt c b hb).2), hg.pres.tape, hg.pres.os, hg.pres.output, hg.pres.fr⟩, Nat.le_refl _, Nat.le_refl _⟩
      · refine hsame c hcs (fun b' hb' => ?_)
        rcases ho with ho | ho
        · exact (hr.ownlt c b' hb').2
        · rw [ho] at hb'; cases hb'
      · have := (hr.blk b y hb).2; subst hy; cases this with | cells _ _ _ fresh => exact fresh s hs'
      · exact Nat.lt_of_lt_of_le (hr.lt b s L hl) hg.pres.size
      · exact ⟨Nat.lt_of_lt_of_le (hr.ownlt c b hb).1 hg.pres.size, (hr.ownlt c b hb).2⟩
    | panicked _ => exact hR.elim
    | outgrown => exact hR.elim
  · cases h
/-- A closed statement, by a table. -/
theorem walk_memo (hP : ProgOk P) {l : List Ent} (hl : TblSnd P l) {N : Nat} {f : FuncId} (h : okB (bodyX P (memoR l (runA P N)) (runP P N) N f [] noSt) = true) (w : World) :
    Calls P f #[] w fun e w' => e = .returned (.bool true) ∧ RowKit.Grown w w' := by
  obtain ⟨σ', hr⟩ := okB_some h
  obtain ⟨h1, h2⟩ := bodyX_sound hP (memo_sound hP hl N) (runP_sound hP N) hr (rep_no w) .nil
  refine Calls.mono (callsIn_wide.1 (h2 0)) (fun e w' hR => ?_)
  cases e with
  | returned v' =>
    obtain ⟨ι', hv, hg⟩ := hR
    exact ⟨by rw [hv.bool_inv], grown_of hg (fun _ => rfl)⟩
  | panicked _ => exact hR.elim
  | outgrown => exact hR.elim
end
end Go.Lay
