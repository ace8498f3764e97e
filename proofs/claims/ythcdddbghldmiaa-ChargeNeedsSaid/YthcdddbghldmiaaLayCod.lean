/- Code; functions: the theorem. -/
import Derived.Test.YthcdddbghldmiaaLayDraw5
import Derived.RangeFuncRecord
set_option linter.unusedVariables false
set_option linter.unusedSimpArgs false
namespace Go.Lay
open Go

/-! ### Two rules of the calculus -/
section
variable {F : Fence} {n : Nat} {P : Program} {Q : Exit → Act → World → Prop} {a : Act} {w : World}
theorem stepR_scope {b : Frame} {k : List Item} {cs : List Frame} {c : Code} : step P (lone (b.atR a (.code (.scope c) :: k)) cs w) = .next (lone (b.atR a (.code c :: .inScope c :: k)) cs w) :=
  step_lone_go (by simp [stepG, stepG.exec, Frame.atR])
theorem stepR_inScope {b : Frame} {k : List Item} {cs : List Frame} {c : Code} : step P (lone (b.atR a (.inScope c :: k)) cs w) = .next (lone (b.atR a k) cs w) :=
  step_lone_go (by simp [stepG, stepG.exec, Frame.atR])
theorem wpIn_scopeN {c : Code} (h : c.wpIn F n P (fun e a w => (∀ l, e ≠ .goto l) ∧ Q e a w) a w) : (Code.scope c).wpIn F n P Q a w := by
  intro b k cs hro hb hr
  have h0 : (lone (b.atR a (.code (.scope c) :: k)) cs w).fenced P F := fenced_calm hb hr rfl
  obtain ⟨e, a₁, w₁, ⟨hg, hq⟩, harr⟩ := h b (.inScope c :: k) cs hro hb hr
  cases e with
  | normal => exact ⟨.normal, a₁, w₁, hq, .head h0 stepR_scope (StepsIn.trans harr (.one (fenced_calm hb hr rfl) stepR_inScope))⟩
  | exit id =>
    exact ⟨.exit id, a₁, w₁, hq, fun k' hk => .head h0 stepR_scope (harr.1 k' hk), fun hr' hk => let ⟨k₁, h1, h2⟩ := harr.2 hr' hk; ⟨k₁, h1, .head h0 stepR_scope h2⟩⟩
  | goto l => exact absurd rfl (hg l)
  | ret => exact ⟨_, a₁, w₁, hq, .of_steps (.one h0 stepR_scope) harr⟩
  | panic ch => exact ⟨_, a₁, w₁, hq, .of_steps (.one h0 stepR_scope) harr⟩
  | outgrown => exact ⟨_, a₁, w₁, hq, .of_steps (.one h0 stepR_scope) harr⟩
theorem wpIn_loopN {c : Code} (J : Nat → Act → World → Prop) {N : Nat} (h₀ : J N a w)
    (round : ∀ m a w, J m a w → c.wpIn F n P (Exit.then (fun a' w' => ∃ m', m' < m ∧ J m' a' w') Q) a w) : (Code.loop c).wpIn F n P Q a w := by
  intro b k cs hro hb hr
  have key : ∀ j a w, J j a w → ∃ e a' w', Q e a' w' ∧ ArrivesIn (Machine.fenced P F) P (lone (b.atR a (.code c :: .inLoop c :: k)) cs w) b k cs e a' w' := by
    intro j
    induction j using Nat.strongRecOn with
    | _ j ih =>
      intro a w hJ
      obtain ⟨e, a₁, w₁, hq, harr⟩ := round j a w hJ b (.inLoop c :: k) cs hro hb hr
      cases e with
      | normal =>
        obtain ⟨m', hlt, hJ'⟩ := hq
        obtain ⟨e₂, a₂, w₂, hq₂, harr₂⟩ := ih m' hlt a₁ w₁ hJ'
        exact ⟨e₂, a₂, w₂, hq₂, .of_steps (StepsIn.trans harr (.one (fenced_calm hb hr rfl) stepR_inLoop)) harr₂⟩
      | exit id => exact ⟨_, a₁, w₁, hq, .pass (x := .inLoop c) rfl (fun _ _ => .inl (by simp)) harr⟩
      | goto l => exact ⟨_, a₁, w₁, hq, .pass (x := .inLoop c) rfl (fun _ _ => .inl (by simp)) harr⟩
      | ret => exact ⟨_, a₁, w₁, hq, .pass (x := .inLoop c) rfl (fun _ _ => .inl (by simp)) harr⟩
      | panic ch => exact ⟨_, a₁, w₁, hq, .pass (x := .inLoop c) rfl (fun _ _ => .inl (by simp)) harr⟩
      | outgrown => exact ⟨_, a₁, w₁, hq, .pass (x := .inLoop c) rfl (fun _ _ => .inl (by simp)) harr⟩
  obtain ⟨e, a', w', hq, harr⟩ := key N a w h₀
  exact ⟨e, a', w', hq, .of_steps (.one (fenced_calm hb hr rfl) stepR_loop) harr⟩
end

/-! ### Frames -/
def markOf (c : Nat) : Deferred := { target := .collected c, args := #[] }
inductive DefR (ι : Inj) : List Nat → List Deferred → Prop
  | nil : DefR ι [] []
  | cons {m : Nat} {L : Loc} {ms : List Nat} {ds : List Deferred} (h : ι.loc m 0 = some L) (t : DefR ι ms ds) : DefR ι (m :: ms) (markOf L.c :: ds)
theorem DefR.sub {ι ι' : Inj} (e : Sub ι ι') {ms : List Nat} {ds : List Deferred} (h : DefR ι ms ds) : DefR ι' ms ds := by
  induction h with
  | nil => exact .nil
  | cons h _ ih => exact .cons (e.loc _ _ _ h) ih
structure FrR (ι : Inj) (fr : Fr) (a : Act) : Prop where
  tms : TmR ι fr.f a.tmps
  defs : DefR ι fr.marks a.defers
theorem FrR.sub {ι ι' : Inj} (e : Sub ι ι') {fr : Fr} {a : Act} (h : FrR ι fr a) : FrR ι' fr a := ⟨h.tms.sub e, h.defs.sub e⟩
/-- The round that one is in. -/
inductive RdR (ι : Inj) : Option Nat → Option Nat → Prop
  | none : RdR ι none none
  | some {r : Nat} {L : Loc} (h : ι.loc r 0 = some L) : RdR ι (some r) (some L.c)
theorem RdR.sub {ι ι' : Inj} (e : Sub ι ι') {rd rd' : Option Nat} (h : RdR ι rd rd') : RdR ι' rd rd' := by
  cases h with
  | none => exact .none
  | some h => exact .some (e.loc _ _ _ h)

section
variable {P : Program} {rec : Rec} {ι : Inj} {σ : St} {w : World}

/-- A loop's block, laid anew. -/
theorem loop_put {l : Nat} {tm : Tm} {ps : List Tmp} {as bo : Code} {st st' : LoopState} {pend pend' : Option Code} {db : Nat} (hr : Rep ι σ w) (hb : getB σ.heap l = some (.loop tm ps as bo st pend db)) :
    ∃ L r, ι.loc l 0 = some L ∧ w.heap[L.c]? = some (.loop r) ∧ r.state = st ∧ r.pending = pend ∧ TmR ι tm r.tmps ∧ r.params = ps.toArray ∧ r.assign = as ∧ r.body = bo ∧ codeOk as = true ∧ codeOk bo = true ∧ (∃ Ld, ι.loc db 0 = some Ld ∧ r.defers = Ld.c) ∧
      Good ι σ w ι (σ.put l (.loop tm ps as bo st' pend' db)) (w.putObj L.c (.loop { r with state := st', pending := pend' })) := by
  cases (hr.blk _ _ hb).2 with
  | loop loc own locd row tms oka okb =>
    rename_i fn L Ld
    have hlt := hr.lt _ _ _ loc
    refine ⟨L, _, loc, row, rfl, rfl, tms, rfl, rfl, rfl, oka, okb, ⟨Ld, locd, rfl⟩, ?_⟩
    refine Good.putBlk hr hb (Ext.refl _ _ _) (fun _ _ _ => rfl) (fun b s L h => by simpa using hr.lt b s L h) (fun c b h => by simpa using hr.ownlt c b h) (by simp)
      (fun c _ hc => World.putObj_heap_other (fun e => hc (by rw [e]; exact own))) ⟨rfl, rfl, rfl⟩ (.one L.c (fun c hc => World.putObj_heap_other hc) (fun _ _ _ h => by rw [World.putObj_heap_same hlt] at h; cases h)) ?_
    exact .loop loc own locd (World.putObj_heap_same hlt) tms oka okb

theorem shut_good {d : Nat} (hr : Rep ι σ w) (hb : getB σ.heap d = some .defd) : ∃ L, ι.loc d 0 = some L ∧ w.heap[L.c]? = some (.deferred (some [])) ∧ Good ι σ w ι (σ.shut d) (w.putObj L.c (.deferred none)) := by
  have hbd := hr.blk _ _ hb
  cases hbd.2 with
  | defd loc own row =>
    rename_i L
    refine ⟨L, loc, row, Ext.refl _ _ _, ⟨fun b y hby => ?_, fun b s L h => by simpa using hr.lt b s L h, fun c b h => by simpa using hr.ownlt c b h, hr.fresh⟩, ⟨by simp, fun c hc ho => ?_, rfl, rfl, rfl, .one L.c (fun c hc => World.putObj_heap_other hc) (fun _ _ _ h => by rw [World.putObj_heap_same (hr.lt _ _ _ loc)] at h; cases h)⟩, by simp; omega, by simp⟩
    · rw [St.shut_get] at hby
      by_cases hbe : b = d
      · rw [if_pos hbe] at hby; cases hby
      · rw [if_neg hbe] at hby
        have h := hr.blk b y hby
        refine ⟨h.1, h.2.keep (Ext.refl ι w.heap.size 0) hr.lt (fun c hc ho => World.putObj_heap_other (fun e => ?_)) (fun cs esz log next ro hy s hs => ?_)⟩
        · subst e
          rcases ho with ho | ho
          · rw [own] at ho; cases ho; exact hbe rfl
          · rw [own] at ho; cases ho
        · have h2 := h.2
          subst hy
          cases h2 with | cells _ _ _ fresh => exact fresh s hs
    · refine World.putObj_heap_other (fun e => ?_)
      subst e
      have := ho d own
      simp at this; omega

theorem rangeEnd_inv {l : Nat} {fr fr' : Fr} {e : Exit} {σ' : St} (h : rangeEnd l fr σ = some (e, fr', σ')) : ∃ tm ps as bo st pend db, getB σ.heap l = some (.loop tm ps as bo st pend db) ∧ st ≠ .busy ∧ fr' = fr ∧
    σ' = σ.put l (.loop tm ps as bo .exhausted pend db) ∧ ((pend = none ∧ e = .normal) ∨ (pend = some .ret ∧ e = .ret) ∨ ∃ id, pend = some (.exit id) ∧ e = .exit id) := by
  unfold rangeEnd at h
  split at h
  · rename_i tm ps as bo st pend db hb
    refine ⟨tm, ps, as, bo, st, pend, db, hb, ?_⟩
    split at h
    · cases h
    · rename_i hst
      rw [St.write_eq] at h
      refine ⟨fun e => hst e, ?_⟩
      split at h
      · simp at h; obtain ⟨rfl, rfl, rfl⟩ := h; exact ⟨rfl, rfl, .inl ⟨rfl, rfl⟩⟩
      · simp at h; obtain ⟨rfl, rfl, rfl⟩ := h; exact ⟨rfl, rfl, .inr (.inl ⟨rfl, rfl⟩)⟩
      · simp at h; obtain ⟨rfl, rfl, rfl⟩ := h; exact ⟨rfl, rfl, .inr (.inr ⟨_, rfl, rfl⟩)⟩
      · cases h
  · cases h

theorem rangeEnd_sound {l : Nat} {fr fr' : Fr} {e : Exit} {σ' : St} (h : rangeEnd l fr σ = some (e, fr', σ')) (hr : Rep ι σ w) {a : Act} {rd : Option Nat} {n : Nat} {Q : Exit → Act → World → Prop} {L : Loc} (hl : ι.loc l 0 = some L)
    (hQ : ∀ w', Good ι σ w ι σ' w' → fr' = fr → Q e a w') : ∃ jump w₄, (Instr.endLoop L.c).run P w = .ok jump w₄ ∧ (match jump with | none => Q .normal a w₄ | some c => c.wpIn (Fw rd) n P Q a w₄) := by
  obtain ⟨tm, ps, as, bo, st, pend, db, hb, hst, rfl, rfl, hcase⟩ := rangeEnd_inv h
  obtain ⟨L', r, h1, h2, h3, h4, _, _, _, _, _, _, _, hg⟩ := loop_put (st' := .exhausted) (pend' := pend) hr hb
  rw [hl] at h1; cases h1
  have hq := hQ _ hg rfl
  refine ⟨r.pending, _, run_endLoop h2 (by rw [h3]; exact hst), ?_⟩
  have hr2 : (w.putObj L.c (.loop { r with state := .exhausted })) = (w.putObj L.c (.loop { r with state := .exhausted, pending := pend })) := by rw [← h4]
  rw [hr2, h4]
  rcases hcase with ⟨hp, he⟩ | ⟨hp, he⟩ | ⟨id, hp, he⟩
  · rw [hp] at hq ⊢; rw [he] at hq; exact hq
  · rw [hp] at hq ⊢; rw [he] at hq; exact wpIn_ret hq
  · rw [hp] at hq ⊢; rw [he] at hq; exact wpIn_exit hq

theorem rangeGo_sound (hrec : RecSound P rec) {g : Operand} {ps : Array Tmp} {as bo : Code} {db : Nat} {fr fr' : Fr} {e : Exit} {σ' : St} (h : rangeGo rec g ps as bo db fr σ = some (e, fr', σ')) (hr : Rep ι σ w) {a : Act} (hf : FrR ι fr a)
    (hgk : constOk g = true) (ha : codeOk as = true) (hb : codeOk bo = true) {Ld : Loc} (hd : ι.loc db 0 = some Ld) (fn : FuncId) {rd : Option Nat} {n : Nat} {Q : Exit → Act → World → Prop}
    (hQ : ∀ ι' w', Good ι σ w ι' σ' w' → FrR ι' fr' a → Q e a w') :
    let w₁ := w.alloc (.loop { state := .ready, pending := none, fn, tmps := a.tmps, params := ps, assign := as, body := bo, defers := Ld.c })
    ∃ d f args, (resolve a.eval (rangeCall g w.heap.size) 0).run P w₁ = .ok d w₁ ∧ (invoke d.target d.args).run P w₁ = .ok (.enter f args) w₁ ∧ CallsIn (Fw rd) (n - 1) P f args w₁ (rangePost (Fw rd) n P w.heap.size Q a) := by
  intro w₁
  unfold rangeGo at h
  rw [St.new_eq] at h
  have e0 := Inj.add_ext (n := 0) (z := 0) hr (hr.free _)
  have hg1 : Good ι σ w (ι.add σ.next w.heap.size 0 0) (σ.add (.loop fr.f ps.toList as bo .ready none db)) w₁ :=
    Good.addBlk hr (hr.free _) (fun _ _ _ h => by cases h) (.loop (fn := fn) (Inj.add_loc _ _ _ _) (by simp [Inj.add]) (e0.loc _ _ _ hd) (by rw [World.push_new]) (hf.tms.ext e0) ha hb)
  split at h
  · rename_i hh args href
    have hev : VR (ι.add σ.next w.heap.size 0 0) (aeval fr.f g) (a.eval g) := (aeval_sound hf.tms hgk).ext hg1.ext
    have harg : VRs (ι.add σ.next w.heap.size 0 0) [.func (.yield σ.next) #[] #[]] [.func (.yield w.heap.size) #[] #[]] :=
      .cons (.func (.yield (L := ⟨w.heap.size, 0, 0, 0⟩) (Inj.add_loc _ _ _ _)) rfl (fun i v v' h => by simp at h) rfl (fun i v v' h => by simp at h)) .nil
    obtain ⟨as', hvs, hcase⟩ := call_run (P := P) href hev harg
    rcases hcase with ⟨f, cap, hfe, d, hd1, hd2, hd3⟩ | ⟨l0, _, _, hfe, _⟩
    · cases hfe
      split at h
      · rename_i v₃ σ₃ hc
        obtain ⟨⟨fn', hfn, hbody, hname⟩, hcall⟩ := callA_func hrec hc hg1.rep hvs
        refine ⟨d, hh, ⟨as'⟩, ?_, ?_, CallsIn.mono (hcall rd _) (fun e' w₃ hR => ?_)⟩
        · have := hd1 w₁
          simpa [resolve, Act.eval] using this
        · have hb : fn'.body ≠ none := by cases hb : fn'.body <;> simp_all
          rw [hd2]
          simp [invoke, callFunc, hfn, hb, hname, hd3]
        · cases e' with
          | returned v' =>
            obtain ⟨ι₃, _, hg3⟩ := hR
            have hl3 : ι₃.loc σ.next 0 = some ⟨w.heap.size, 0, 0, 0⟩ := hg3.ext.loc _ _ _ (Inj.add_loc _ _ _ _)
            obtain ⟨jump, w₄, h1, h2⟩ := rangeEnd_sound (P := P) (rd := rd) (n := n) (Q := Q) (a := a) h hg3.rep hl3 (fun w' hg4 hfr => hQ ι₃ w' ((hg1.trans hg3).trans hg4) (by rw [hfr]; exact (hf.sub hg1.ext.sub).sub hg3.ext.sub))
            exact ⟨jump, w₄, h1, h2⟩
          | panicked _ => exact hR.elim
          | outgrown => exact hR.elim
      · cases h
    · cases hfe
  · cases h

theorem rangeA_sound (hrec : RecSound P rec) {g : Operand} {ps : Array Tmp} {as bo : Code} {fr fr' : Fr} {e : Exit} {σ' : St} {r : Option Nat} (h : rangeA rec r g ps as bo fr σ = some (e, fr', σ')) (hr : Rep ι σ w) {a : Act} (hf : FrR ι fr a)
    {rd : Option Nat} (hrd : RdR ι r rd) (hgk : constOk g = true) (ha : codeOk as = true) (hb : codeOk bo = true) {n : Nat} {Q : Exit → Act → World → Prop}
    (hQ : ∀ ι' a' w', Good ι σ w ι' σ' w' → FrR ι' fr' a' → Q e a' w') : (Code.rangeFunc g ps as bo).wpIn (Fw rd) n P Q a w := by
  refine wpIn_rangeFunc (fun fn _ => ?_)
  unfold rangeA at h
  cases hrd with
  | none =>
    simp only [St.new_eq] at h
    have hg1 : Good ι σ w (ι.add σ.next w.heap.size 0 0) (σ.add .defd) (w.alloc (.deferred (some []))) :=
      Good.addBlk hr (hr.free _) (fun _ _ _ h => by cases h) (.defd (Inj.add_loc _ _ _ _) (by simp [Inj.add]) (World.push_new _ _))
    have hf1 : FrR (ι.add σ.next w.heap.size 0 0) ⟨fr.f, σ.next :: fr.marks⟩ { a with defers := markOf w.heap.size :: a.defers } :=
      ⟨hf.tms.ext hg1.ext, .cons (L := ⟨w.heap.size, 0, 0, 0⟩) (Inj.add_loc _ _ _ _) (hf.defs.sub hg1.ext.sub)⟩
    obtain ⟨d, f, args, h1, h2, h3⟩ := rangeGo_sound hrec h hg1.rep hf1 hgk ha hb (Ld := ⟨w.heap.size, 0, 0, 0⟩) (Inj.add_loc _ _ _ _) fn (rd := none) (n := n) (Q := Q) (fun ι' w' hg hf' => hQ ι' _ w' (hg1.trans hg) hf')
    have e1 : (w.alloc (.deferred (some []))).heap.size = w.heap.size + 1 := World.push_size w _
    rw [e1] at h1 h3
    exact ⟨_, [markOf w.heap.size], _, d, _, f, args, _, run_enterLoop_outer fn a.tmps ps as bo, h1, fun _ _ => Fw_fn none _, h2, fun hs => Fw_depth none hs n, h3⟩
  | @some r0 L hl =>
    simp only at h
    split at h
    · rename_i hbk
      obtain ⟨L', rr, k1, k2, _, _, _, _, _, _, _, _, ⟨Ld, k3, k4⟩, _⟩ := loop_put (st' := .ready) (pend' := none) hr hbk
      rw [hl] at k1; cases k1
      obtain ⟨d, f, args, h1, h2, h3⟩ := rangeGo_sound hrec h hr hf hgk ha hb k3 fn (rd := some L.c) (n := n) (Q := Q) (fun ι' w' hg hf' => hQ ι' _ w' hg hf')
      refine ⟨w.heap.size, [], _, d, _, f, args, _, ?_, h1, fun _ _ => Fw_fn _ _, h2, fun hs => Fw_depth _ hs n, h3⟩
      show (Instr.enterLoop fn a.tmps ps as bo (some L.c)).run P w = _
      simp only [Instr.enterLoop, Sem.run_bind, run_getLoop k2, Result.andThen_ok, Sem.run_pure, run_newObj_alloc, k4]
    · cases h

theorem codeA_noGoto (fuel : Nat) (rd : Option Nat) : ∀ (c : Code) (fr : Fr) (σ : St) (e : Exit) (fr' : Fr) (σ' : St), codeA P rec fuel rd c fr σ = some (e, fr', σ') → ∀ l, e ≠ .goto l := by
  intro c
  induction c with
  | skip => intro fr σ e fr' σ' h l; simp [codeA] at h; rw [← h.1]; simp
  | label _ => intro fr σ e fr' σ' h l; simp [codeA] at h; rw [← h.1]; simp
  | ret => intro fr σ e fr' σ' h l; simp [codeA] at h; rw [← h.1]; simp
  | exit _ => intro fr σ e fr' σ' h l; simp [codeA] at h; rw [← h.1]; simp
  | goto _ => intro fr σ e fr' σ' h; simp [codeA] at h
  | refuse _ => intro fr σ e fr' σ' h; simp [codeA] at h
  | seq x y ihx ihy =>
    intro fr σ e fr' σ' h
    simp only [codeA, seqA] at h
    split at h
    · exact ihy _ _ _ _ _ h
    · exact ihx _ _ _ _ _ h
  | cond c x y ihx ihy =>
    intro fr σ e fr' σ' h
    simp only [codeA, condA] at h
    split at h
    · split at h
      · exact ihx _ _ _ _ _ h
      · exact ihy _ _ _ _ _ h
    · cases h
  | block id c ih =>
    intro fr σ e fr' σ' h l
    simp only [codeA, blockA] at h
    split at h
    · rcases bif_cases h with ⟨_, h⟩ | ⟨_, h⟩ <;> (simp at h; rw [← h.1]; simp)
    · exact ih _ _ _ _ _ h l
  | scope c ih => intro fr σ e fr' σ' h; exact ih _ _ _ _ _ h
  | loop c ih =>
    intro fr σ e fr' σ' h
    simp only [codeA] at h
    have key : ∀ n fr σ, loopA (codeA P rec fuel rd c) n fr σ = some (e, fr', σ') → ∀ l, e ≠ .goto l := by
      intro n
      induction n with
      | zero => intro fr σ h; simp [loopA] at h
      | succ n ihn =>
        intro fr σ h
        simp only [loopA] at h
        split at h
        · exact ihn _ _ h
        · exact ih _ _ _ _ _ h
    exact key _ _ _ h
  | region id ops draw =>
    intro fr σ e fr' σ' h l
    simp only [codeA, regionA] at h
    split at h
    · simp at h; rw [← h.1]; simp
    · cases h
  | rangeFunc g ps as bo _ _ =>
    intro fr σ e fr' σ' h l
    have endn : ∀ (l0 : Nat) (fr : Fr) (σ : St), rangeEnd l0 fr σ = some (e, fr', σ') → e ≠ .goto l := by
      intro l0 fr σ h
      unfold rangeEnd at h
      split at h
      · split at h
        · cases h
        · rw [St.write_eq] at h
          split at h <;> first | (simp at h; rw [← h.1]; simp) | cases h
      · cases h
    have gon : ∀ (db : Nat) (fr : Fr) (σ : St), rangeGo rec g ps as bo db fr σ = some (e, fr', σ') → e ≠ .goto l := by
      intro db fr σ h
      unfold rangeGo at h
      rw [St.new_eq] at h
      split at h
      · split at h
        · exact endn _ _ _ h
        · cases h
      · cases h
    simp only [codeA, rangeA] at h
    split at h
    · rw [St.new_eq] at h; exact gon _ _ _ h
    · split at h
      · exact gon _ _ _ h
      · cases h

theorem codeA_sound (hm : P.follows .mixedOrders = true) (hz : zeroOk P) (hrec : RecSound P rec) (fuel : Nat) (r : Option Nat) : ∀ (c : Code), codeOk c = true → ∀ (fr : Fr) (σ : St) (e : Exit) (fr' : Fr) (σ' : St), codeA P rec fuel r c fr σ = some (e, fr', σ') →
    ∀ (ι : Inj) (w : World) (a : Act) (rd : Option Nat) (n : Nat) (Q : Exit → Act → World → Prop), Rep ι σ w → FrR ι fr a → RdR ι r rd → (∀ ι' a' w', Good ι σ w ι' σ' w' → FrR ι' fr' a' → Q e a' w') → c.wpIn (Fw rd) n P Q a w := by
  intro c
  induction c with
  | skip => intro _ fr σ e fr' σ' h ι w a rd n Q hr hf _ hQ; simp [codeA] at h; obtain ⟨rfl, rfl, rfl⟩ := h; exact wpIn_skip (hQ ι a w (.refl hr) hf)
  | label _ => intro _ fr σ e fr' σ' h ι w a rd n Q hr hf _ hQ; simp [codeA] at h; obtain ⟨rfl, rfl, rfl⟩ := h; exact wpIn_label (hQ ι a w (.refl hr) hf)
  | ret => intro _ fr σ e fr' σ' h ι w a rd n Q hr hf _ hQ; simp [codeA] at h; obtain ⟨rfl, rfl, rfl⟩ := h; exact wpIn_ret (hQ ι a w (.refl hr) hf)
  | exit _ => intro _ fr σ e fr' σ' h ι w a rd n Q hr hf _ hQ; simp [codeA] at h; obtain ⟨rfl, rfl, rfl⟩ := h; exact wpIn_exit (hQ ι a w (.refl hr) hf)
  | goto _ => intro _ fr σ e fr' σ' h; simp [codeA] at h
  | refuse _ => intro _ fr σ e fr' σ' h; simp [codeA] at h
  | seq x y ihx ihy =>
    intro hok fr σ e fr' σ' h ι w a rd n Q hr hf hrd hQ
    simp only [codeOk, Bool.and_eq_true] at hok
    simp only [codeA, seqA] at h
    refine wpIn_seq ?_
    split at h
    · rename_i fr₁ σ₁ h1
      refine ihx hok.1 _ _ _ _ _ h1 ι w a rd n _ hr hf hrd (fun ι₁ a₁ w₁ hg1 hf1 => ?_)
      exact ihy hok.2 _ _ _ _ _ h ι₁ w₁ a₁ rd n Q hg1.rep hf1 (hrd.sub hg1.ext.sub) (fun ι₂ a₂ w₂ hg2 hf2 => hQ ι₂ a₂ w₂ (hg1.trans hg2) hf2)
    · rename_i hno
      refine ihx hok.1 _ _ _ _ _ h ι w a rd n _ hr hf hrd (fun ι₁ a₁ w₁ hg1 hf1 => ?_)
      cases e with
      | normal => exact absurd h (hno _ _)
      | _ => exact hQ ι₁ a₁ w₁ hg1 hf1
  | cond c x y ihx ihy =>
    intro hok fr σ e fr' σ' h ι w a rd n Q hr hf hrd hQ
    simp only [codeOk, Bool.and_eq_true] at hok
    simp only [codeA, condA] at h
    have hc := aeval_sound hf.tms hok.1.1
    split at h
    · rename_i t ht
      rw [ht] at hc
      have hcb := hc.bool_inv
      cases t with
      | true => exact wpIn_cond_true hcb (ihx hok.1.2 _ _ _ _ _ h ι w a rd n Q hr hf hrd hQ)
      | false => exact wpIn_cond_false hcb (ihy hok.2 _ _ _ _ _ h ι w a rd n Q hr hf hrd hQ)
    · cases h
  | block id c ih =>
    intro hok fr σ e fr' σ' h ι w a rd n Q hr hf hrd hQ
    simp only [codeA, blockA] at h
    refine wpIn_block ?_
    split at h
    · rename_i i fr₁ σ₁ h1
      refine ih hok _ _ _ _ _ h1 ι w a rd n _ hr hf hrd (fun ι₁ a₁ w₁ hg1 hf1 => ?_)
      rcases bif_cases h with ⟨hi, h⟩ | ⟨hi, h⟩
      · simp at h; obtain ⟨rfl, rfl, rfl⟩ := h
        simp only [Exit.inBlock]
        rw [if_pos (Nat.eq_of_beq_eq_true hi)]; exact hQ ι₁ a₁ w₁ hg1 hf1
      · simp at h; obtain ⟨rfl, rfl, rfl⟩ := h
        simp only [Exit.inBlock]
        rw [if_neg (fun e => by rw [e, Nat.beq_refl] at hi; cases hi)]; exact hQ ι₁ a₁ w₁ hg1 hf1
    · rename_i hno
      refine ih hok _ _ _ _ _ h ι w a rd n _ hr hf hrd (fun ι₁ a₁ w₁ hg1 hf1 => ?_)
      cases e with
      | exit i => exact absurd h (hno _ _ _)
      | _ => exact hQ ι₁ a₁ w₁ hg1 hf1
  | scope c ih =>
    intro hok fr σ e fr' σ' h ι w a rd n Q hr hf hrd hQ
    refine wpIn_scopeN (ih hok _ _ _ _ _ h ι w a rd n _ hr hf hrd (fun ι₁ a₁ w₁ hg1 hf1 => ⟨codeA_noGoto fuel r c _ _ _ _ _ h, hQ ι₁ a₁ w₁ hg1 hf1⟩))
  | loop c ih =>
    intro hok fr σ e fr' σ' h ι w a rd n Q hr hf hrd hQ
    simp only [codeA] at h
    refine wpIn_loopN (fun m a₁ w₁ => ∃ fr₁ σ₁ ι₁, loopA (codeA P rec fuel r c) m fr₁ σ₁ = some (e, fr', σ') ∧ Good ι σ w ι₁ σ₁ w₁ ∧ FrR ι₁ fr₁ a₁) ⟨fr, σ, ι, h, .refl hr, hf⟩ (fun m a₁ w₁ ⟨fr₁, σ₁, ι₁, hl, hg1, hf1⟩ => ?_)
    cases m with
    | zero => simp [loopA] at hl
    | succ m =>
      simp only [loopA] at hl
      split at hl
      · rename_i fr₂ σ₂ h2
        exact ih hok _ _ _ _ _ h2 ι₁ w₁ a₁ rd n _ hg1.rep hf1 (hrd.sub hg1.ext.sub) (fun ι₂ a₂ w₂ hg2 hf2 => ⟨m, by omega, fr₂, σ₂, ι₂, hl, hg1.trans hg2, hf2⟩)
      · rename_i hno
        refine ih hok _ _ _ _ _ hl ι₁ w₁ a₁ rd n _ hg1.rep hf1 (hrd.sub hg1.ext.sub) (fun ι₂ a₂ w₂ hg2 hf2 => ?_)
        cases e with
        | normal => exact absurd hl (hno _ _)
        | _ => exact hQ ι₂ a₂ w₂ (hg1.trans hg2) hf2
  | region id ops draw =>
    intro hok fr σ e fr' σ' h ι w a rd n Q hr hf hrd hQ
    simp only [codeOk] at hok
    simp only [codeA, regionA] at h
    split at h
    · rename_i f₁ σ₁ h1
      simp at h; obtain ⟨rfl, rfl, rfl⟩ := h
      have fin : ∀ ι' a' w', Good ι σ w ι' σ₁ w' → TmR ι' f₁ a'.tmps → a'.defers = a.defers → Q .normal a' w' := fun ι' a' w' hg ht hd => hQ ι' a' w' hg ⟨ht, by rw [hd]; exact hf.defs.sub hg.ext.sub⟩
      cases draw with
      | true => exact region_draw hm hz hrec hok h1 hr hf.tms fin
      | false => exact region_text hz hrec hok h1 hr hf.tms fin
    · cases h
  | rangeFunc g ps as bo _ _ =>
    intro hok fr σ e fr' σ' h ι w a rd n Q hr hf hrd hQ
    simp only [codeOk, Bool.and_eq_true] at hok
    exact rangeA_sound hrec h hr hf hrd hok.1.1 hok.1.2 hok.2 hQ
end
end Go.Lay
