/- Every operation, in the calculus of walks. -/
import Derived.Test.YthcdddbghldmiaaLayCall
set_option linter.unusedVariables false
set_option linter.unusedSimpArgs false
namespace Go.Lay
open Go
section
variable {P : Program} {ι : Inj} {σ : St} {w : World} {rec : Rec}

theorem with_some {o : Option Value} {v : Value} {σ' : St} (h : with_ σ o = some (v, σ')) : o = some v ∧ σ' = σ := by
  cases o with
  | none => simp [with_] at h
  | some x => simp [with_] at h; exact ⟨by rw [h.1], h.2.symm⟩

theorem callVal_sound (hrec : RecSound P rec) {o : Oper} {ev : Operand → Value} {a : Act} {c : Call} {fx : Operand} {v : Value} {σ' : St} {rd : Option Nat} {n : Nat} {next : Act → World → Prop} {Q : Exit → Act → World → Prop} {r : FnRef} {as : List Value}
    (ho : o.op = .call c) (hc : c.callee = .value fx) (href : refOf (ev fx) (c.args.toList.map ev) = some (r, as)) (h : callA rec r as σ = some (v, σ')) (hr : Rep ι σ w) (hev : ∀ x ∈ o.op.operands, VR ι (ev x) (a.eval x))
    (hn : ∀ v' w' ι', VR ι' v v' → Good ι σ w ι' σ' w' → next (a.put o.dst v') w') : o.wpIn (Fw rd) n P a w next Q := by
  have hf := hev fx (by simp [ho, Op.operands, Call.operands, hc])
  have hargs := ev_list c.args.toList (ev := ev) (ev' := a.eval) (fun x hx => hev x (by simp [ho, Op.operands, Call.operands, hc] at hx ⊢; exact .inr hx))
  have eargs : c.args.map a.eval = (⟨c.args.toList.map a.eval⟩ : Array Value) := by apply Array.ext'; simp
  obtain ⟨as', has, hcase⟩ := call_run (P := P) href hf hargs
  have hd : ∀ c', o.op ≠ .defer c' := fun c' => by rw [ho]; simp
  refine ⟨fun f _ => Fw_fn rd f, ?_⟩
  rw [Oper.semAt_eq _ _ _ hd]
  have hsem : ∀ {d : Deferred}, (∀ w, (Deferred.ofValue (a.eval fx) ⟨c.args.toList.map a.eval⟩).run P w = .ok d w) → (execOp a.eval o).run P w = (invoke d.target d.args).run P w := by
    intro d hd
    simp only [execOp, ho, resolve, hc, eargs, Sem.run_bind, hd, Result.andThen_ok]
  rcases hcase with ⟨f, cap, rfl, d, hd1, hd2, hd3⟩ | ⟨l, L, cap, rfl, hl, d, hd1, hd2, hd3⟩
  · obtain ⟨⟨fn, hfn, hbody, hname⟩, hcall⟩ := callA_func hrec h hr has
    have hrun : (execOp a.eval o).run P w = .ok (.enter f ⟨as'⟩) w := by
      rw [hsem hd1, hd2]
      have hb : fn.body ≠ none := by cases hb : fn.body <;> simp_all
      simp [invoke, callFunc, hfn, hb, hname, hd3]
    rw [hrun, Oper.uponIn_enter]
    exact ⟨fun hs => Fw_depth rd hs n, CallsIn.mono (hcall rd _) (fun e w' hR => by
      cases e with
      | returned v' => obtain ⟨ι', h1, h2⟩ := hR; exact hn v' w' ι' h1 h2
      | panicked _ => exact hR.elim
      | outgrown => exact hR.elim)⟩
  · obtain ⟨fn, tmps, as₁, bo, hy, hround⟩ := callA_yield hrec h hr has hl rd (n - 1)
    have hrun : (execOp a.eval o).run P w = .ok (.round L.c fn tmps as₁ bo) w := by
      rw [hsem hd1, hd2]
      simp only [invoke, hd3]; exact hy
    rw [hrun, Oper.uponIn_round]
    exact ⟨fun hs => Fw_depth rd hs n, RoundIn.mono hround (fun e w' hR => by
      cases e with
      | returned v' => obtain ⟨ι', h1, h2⟩ := hR; exact hn v' w' ι' h1 h2
      | panicked _ => exact hR.elim
      | outgrown => exact hR.elim)⟩

theorem EffOut.wp {o : Oper} {a : Act} {v : Value} {σ' : St} {rd : Option Nat} {n : Nat} {next : Act → World → Prop} {Q : Exit → Act → World → Prop} (hd : ∀ c, o.op ≠ .defer c) (h : EffOut P ι σ w v σ' (execOp a.eval o))
    (hn : ∀ v' w' ι', VR ι' v v' → Good ι σ w ι' σ' w' → next (a.put o.dst v') w') : o.wpIn (Fw rd) n P a w next Q := by
  obtain ⟨nx, v', w', ι', h1, h2, h3, h4⟩ := h
  exact wp_of_run hd h1 h2 (hn v' w' ι' h3 h4)

theorem valOp_wp (hz : zeroOk P) {o : Oper} {ev : Operand → Value} {a : Act} {v : Value} {rd : Option Nat} {n : Nat} {next : Act → World → Prop} {Q : Exit → Act → World → Prop} (h : valOp P ev o.op = some v) (hev : ∀ x ∈ o.op.operands, VR ι (ev x) (a.eval x))
    (hn : ∀ v', VR ι v v' → next (a.put o.dst v') w) : o.wpIn (Fw rd) n P a w next Q := by
  obtain ⟨v', h1, h2⟩ := valOp_sound hz h hev
  refine wp_of_run (fun c hc => ?_) (h1 w) (.value _) (hn v' h2)
  rw [hc] at h; simp [valOp] at h
theorem lookOp_wp (hz : zeroOk P) {o : Oper} {ev : Operand → Value} {a : Act} {v : Value} {rd : Option Nat} {n : Nat} {next : Act → World → Prop} {Q : Exit → Act → World → Prop} (h : lookOp P ev σ o.op = some v) (hr : Rep ι σ w) (hev : ∀ x ∈ o.op.operands, VR ι (ev x) (a.eval x))
    (hn : ∀ v', VR ι v v' → next (a.put o.dst v') w) : o.wpIn (Fw rd) n P a w next Q := by
  obtain ⟨v', h1, h2⟩ := lookOp_sound hz h hr hev
  refine wp_of_run (fun c hc => ?_) h1 (.value _) (hn v' h2)
  rw [hc] at h; simp [lookOp] at h

theorem seeOp_wp (hz : zeroOk P) {o : Oper} {ev : Operand → Value} {a : Act} {v : Value} {rd : Option Nat} {n : Nat} {next : Act → World → Prop} {Q : Exit → Act → World → Prop} (h : seeOp P ev σ o.op = some v) (hr : Rep ι σ w) (hev : ∀ x ∈ o.op.operands, VR ι (ev x) (a.eval x))
    (hn : ∀ v', VR ι v v' → next (a.put o.dst v') w) : o.wpIn (Fw rd) n P a w next Q := by
  unfold seeOp at h
  split at h
  · rename_i v0 hv; cases h; exact valOp_wp hz hv hev hn
  · exact lookOp_wp hz h hr hev hn

/-- Does it act, in opA's eyes? -/
theorem opA_acts {o : Op} {ev : Operand → Value} {v : Value} {σ' : St} (h : opA P rec ev σ o = some (v, σ')) :
    (actsB o = true ∧ ((∃ c fx r as, o = .call c ∧ c.callee = .value fx ∧ refOf (ev fx) (c.args.toList.map ev) = some (r, as) ∧ callA rec r as σ = some (v, σ')) ∨ effOp P ev σ o = some (v, σ') ∨ (valOp P ev o = some v ∧ σ' = σ))) ∨
    (actsB o = false ∧ looksB o = true ∧ seeOp P ev σ o = some v ∧ σ' = σ) ∨ (actsB o = false ∧ looksB o = false ∧ valOp P ev o = some v ∧ σ' = σ) := by
  unfold opA at h
  split at h
  · rename_i c
    unfold callOp at h
    split at h
    · rename_i fx hc
      split at h
      · rename_i r as href
        split at h
        · rename_i v0 hx
          refine .inl ⟨by simp [actsB, hc], .inr (.inl ?_)⟩
          simp only [effOp, hc, href, hx, Option.map_some]; exact h
        · refine .inl ⟨by simp [actsB, hc], .inl ⟨c, fx, r, as, rfl, hc, href, h⟩⟩
      · cases h
    · rename_i hc; exact .inl ⟨by simp [actsB, hc], .inr (.inl h)⟩
    · rename_i hc; exact .inl ⟨by simp [actsB, hc], .inr (.inl h)⟩
    · rename_i hc
      refine .inr (.inl ⟨by simp [actsB, hc], by simp [looksB, hc], ?_⟩)
      split at h
      · rename_i v0 hv
        simp at h; obtain ⟨rfl, rfl⟩ := h
        exact ⟨by simp [seeOp, hv], rfl⟩
      · rename_i hv
        obtain ⟨h1, h2⟩ := with_some h
        exact ⟨by simp [seeOp, hv, h1], h2⟩
    · rename_i b _ _ hlen hc
      obtain ⟨h1, h2⟩ := with_some h
      cases hb : actsB (.call c) with
      | true => exact .inl ⟨rfl, .inr (.inr ⟨h1, h2⟩)⟩
      | false =>
        refine .inr (.inr ⟨rfl, ?_, h1, h2⟩)
        simp only [looksB, hc]
        cases b <;> first | rfl | exact absurd rfl hlen
    · cases h
  · obtain ⟨h1, h2⟩ := with_some h; exact .inr (.inl ⟨rfl, rfl, by simp [seeOp, valOp, h1], h2⟩)
  · obtain ⟨h1, h2⟩ := with_some h; exact .inr (.inl ⟨rfl, rfl, by simp [seeOp, valOp, h1], h2⟩)
  · obtain ⟨h1, h2⟩ := with_some h; exact .inr (.inl ⟨rfl, rfl, by simp [seeOp, valOp, h1], h2⟩)
  · split at h
    · rename_i v0 hv
      simp at h; obtain ⟨rfl, rfl⟩ := h
      exact .inr (.inl ⟨rfl, rfl, by simp [seeOp, hv], rfl⟩)
    · rename_i hv
      obtain ⟨h1, h2⟩ := with_some h
      exact .inr (.inl ⟨rfl, rfl, by simp [seeOp, hv, h1], h2⟩)
  · rename_i hn1 hn2 hn3 hn4 hn5
    rcases bif_cases h with ⟨he, h⟩ | ⟨he, h⟩
    · refine .inl ⟨?_, .inr (.inl h)⟩
      cases o <;> first | exact he | exact absurd rfl (hn1 _)
    · obtain ⟨h1, h2⟩ := with_some h
      refine .inr (.inr ⟨?_, ?_, h1, h2⟩)
      · cases o <;> first | exact he | exact absurd rfl (hn1 _)
      · cases o <;> first | rfl | exact absurd rfl (hn1 _) | exact absurd rfl (hn2 _ _) | exact absurd rfl (hn3 _ _ _ _) | exact absurd rfl (hn4 _ _ _ _ _) | exact absurd rfl (hn5 _ _ _)

theorem opA_sound (hz : zeroOk P) (hrec : RecSound P rec) {o : Oper} {ev : Operand → Value} {a : Act} {v : Value} {σ' : St} {rd : Option Nat} {n : Nat} {next : Act → World → Prop} {Q : Exit → Act → World → Prop}
    (h : opA P rec ev σ o.op = some (v, σ')) (hr : Rep ι σ w) (hev : ∀ x ∈ o.op.operands, VR ι (ev x) (a.eval x))
    (hn : ∀ v' w' ι', VR ι' v v' → Good ι σ w ι' σ' w' → next (a.put o.dst v') w') : o.wpIn (Fw rd) n P a w next Q := by
  rcases opA_acts h with ⟨ha, ⟨c, fx, r, as, ho, hc, href, hcall⟩ | heff | ⟨hval, rfl⟩⟩ | ⟨_, _, hsee, rfl⟩ | ⟨_, _, hval, rfl⟩
  · exact callVal_sound hrec ho hc href hcall hr hev hn
  · refine EffOut.wp (fun c hc => ?_) (effOp_sound hz heff hr (hr.free _) hev) hn
    rw [hc] at heff; simp [effOp] at heff
  · exact valOp_wp hz hval hev (fun v' hv => hn v' w ι hv (.refl hr))
  · exact seeOp_wp hz hsee hr hev (fun v' hv => hn v' w ι hv (.refl hr))
  · exact valOp_wp hz hval hev (fun v' hv => hn v' w ι hv (.refl hr))

theorem opA_next {o : Op} {ev : Operand → Value} {v : Value} {σ' : St} (h : opA P rec ev σ o = some (v, σ')) : σ.next ≤ σ'.next := by
  rcases opA_acts h with ⟨ha, ⟨c, fx, r, as, ho, hc, href, hcall⟩ | heff | ⟨hval, rfl⟩⟩ | ⟨_, _, hsee, rfl⟩ | ⟨_, _, hval, rfl⟩
  · exact callA_next hcall
  · exact effOp_next heff
  · exact Nat.le_refl _
  · exact Nat.le_refl _
  · exact Nat.le_refl _

/-! ### Guards -/
theorem guardA_sound {ops : Array Oper} {f : Tm} {o : Oper} {a : Act} {b : Bool} (h : guardA ops f o = some b) (hf : ∀ j want d, o.guard = some (j, want) → (ops[j]?).bind (·.dst) = some d → VR ι (f.nth d) (a.tmps.getD d undef)) :
    Region.wanted o (yielded ops a.tmps) = b := by
  unfold guardA at h
  unfold Region.wanted
  split at h
  · rename_i hg; simp at h; subst h; simp [hg]
  · rename_i j want hg
    simp only [hg]
    split at h
    · rename_i d hd
      have hv := hf j want d hg hd
      split at h
      · rename_i b0 hb0
        simp at h; subst h
        rw [hb0] at hv
        have := hv.bool_inv
        unfold yielded
        simp only [hd, Option.bind_some]
        cases ht : a.tmps[d]? with
        | none => simp [Array.getD, undef] at this; rw [Array.getElem?_eq_none_iff] at ht; split at this <;> simp_all; omega
        | some x =>
          have hx : a.tmps.getD d undef = x := by simp [ht]
          rw [hx] at this; subst this
          simp
      · rename_i c hc
        simp at h; subst h
        rw [hc] at hv
        obtain ⟨c', e, _⟩ := hv.tuple_inv
        unfold yielded
        simp only [hd, Option.bind_some]
        cases ht : a.tmps[d]? with
        | none => rfl
        | some x =>
          have hx : a.tmps.getD d undef = x := by simp [ht]
          rw [hx] at e; subst e
          rfl
      · cases h
    · cases h
end
end Go.Lay
