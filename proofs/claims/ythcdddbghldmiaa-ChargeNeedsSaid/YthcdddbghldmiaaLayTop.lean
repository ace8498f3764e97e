/- The theorem: what the abstract semantics computes the model computes. -/
import Derived.Test.YthcdddbghldmiaaLayCod
set_option linter.unusedVariables false
set_option linter.unusedSimpArgs false
namespace Go.Lay
open Go

structure ProgOk (P : Program) : Prop where
  mixed : P.follows .mixedOrders = true
  zero : zeroOk P
  code : ∀ (f : FuncId) (fn : Func) (c : Code), P.funcs[f]? = some fn → fn.body = some c → codeOk c = true ∧ fn.name ≠ "runtime.NumGoroutine"

theorem Tm.puts_eq {β : Type} : ∀ (l : List (Nat × Value)) (f : Tm) (k : Tm → β), Tm.puts l f k = k (l.foldl (fun f p => f.set p.1 p.2) f)
  | [], _, _ => rfl
  | (i, v) :: l, f, k => by rw [Tm.puts, Tm.put_eq, Tm.puts_eq l]; rfl

section
variable {P : Program} {ι : Inj} {σ : St} {w : World}

theorem args_tms : ∀ (args args' : List Value) (k : Nat) (f : Tm) (tm : Array Value), VRs ι args args' → TmR ι f tm → TmR ι ((Tm.args k args).foldl (fun f p => f.set p.1 p.2) f) ((Tm.args k args').foldl (fun t p => t.setIfInBounds p.1 p.2) tm)
  | [], [], _, _, _, _, h => h
  | [], _ :: _, _, _, _, h, _ => by cases h
  | _ :: _, [], _, _, _, h, _ => by cases h
  | v :: l, v' :: l', k, f, tm, h, ht => by
    cases h with
    | cons hv hl => exact args_tms l l' (k + 1) _ _ hl (ht.set k hv)

theorem args_foldl : ∀ (l : List Value) (k : Nat) (tm : Array Value), k + l.length ≤ tm.size → ((Tm.args k l).foldl (fun (t : Array Value) p => t.setIfInBounds p.1 p.2) tm).toList = tm.toList.take k ++ (l ++ tm.toList.drop (k + l.length))
  | [], k, tm, _ => by simp [Tm.args]
  | v :: l, k, tm, h => by
    simp only [List.length_cons] at h
    simp only [Tm.args, List.foldl_cons]
    rw [args_foldl l (k + 1) _ (by simp; omega)]
    have hlt : k < tm.toList.length := by simp; omega
    simp only [Array.toList_setIfInBounds, List.length_cons]
    have e1 : (tm.toList.set k v).take (k + 1) = tm.toList.take k ++ [v] := by
      rw [List.take_succ_eq_append_getElem (by simpa using hlt), List.take_set_of_le (Nat.le_refl _)]
      simp
    have e2 : (tm.toList.set k v).drop (k + 1 + l.length) = tm.toList.drop (k + (l.length + 1)) := by
      rw [List.drop_set_of_lt (by omega)]; congr 1; omega
    rw [e1, e2]; simp

theorem getP_full : ∀ (p : List Bool) (d : Nat), Tr.getP p (fullT d) = none ∨ Tr.getP p (fullT d) = some undef
  | p, 0 => .inl (Tr.getP_leaf p)
  | [], d + 1 => .inr rfl
  | b :: p, d + 1 => by cases b <;> exact getP_full p d
theorem fresh_nth (n i : Nat) : (fresh n).nth i = undef := by
  unfold fresh Tm.nth
  rcases getP_full (way i) ((way n).length + 1) with h | h <;> simp only [h]

theorem enter_tms {args args' : List Value} (h : VRs ι args args') (N : Nat) :
    TmR ι ((Tm.args 0 args).foldl (fun f p => f.set p.1 p.2) (fresh (args.length + (N - args.length)))) ((⟨args'⟩ : Array Value) ++ Array.replicate (N - (⟨args'⟩ : Array Value).size) undef) := by
  have h0 : TmR ι (fresh (args.length + (N - args.length))) (Array.replicate (args'.length + (N - args'.length)) undef) := by
    refine ⟨by simp [fresh, h.length], fun i => ?_⟩
    have e1 : (fresh (args.length + (N - args.length))).nth i = undef := fresh_nth _ _
    have e2 : (Array.replicate (args'.length + (N - args'.length)) undef).getD i undef = undef := by
      by_cases hi : i < args'.length + (N - args'.length) <;> simp [Array.getD, hi]
    rw [e1, e2]; exact .undef
  have h1 := args_tms args args' 0 _ _ h h0
  have h2 : ((Tm.args 0 args').foldl (fun (t : Array Value) p => t.setIfInBounds p.1 p.2) (Array.replicate (args'.length + (N - args'.length)) undef)) = (⟨args'⟩ : Array Value) ++ Array.replicate (N - (⟨args'⟩ : Array Value).size) undef := by
    apply Array.ext'
    rw [args_foldl args' 0 _ (by simp)]
    simp
  rw [h2] at h1; exact h1

theorem zip_tms : ∀ (ps : List Nat) (args args' : List Value) (f : Tm) (tm : Array Value), VRs ι args args' → TmR ι f tm → TmR ι ((ps.zip args).foldl (fun f p => f.set p.1 p.2) f) ((ps.zip args').foldl (fun t p => t.setIfInBounds p.1 p.2) tm)
  | [], _, _, _, _, _, h => by simpa using h
  | p :: ps, [], [], _, _, _, h => by simpa using h
  | p :: ps, [], _ :: _, _, _, h, _ => by cases h
  | p :: ps, _ :: _, [], _, _, h, _ => by cases h
  | p :: ps, v :: l, v' :: l', f, tm, h, ht => by
    cases h with
    | cons hv hl => exact zip_tms ps l l' _ _ hl (ht.set p hv)

/-- One result. -/
def resOne (tms : Array Value) : ResultVar → Sem Value
  | .tmp t => pure (tms.getD t undef)
  | .cell a t => do loadVar t (← asAddr (tms.getD a undef))
theorem results_eq (fn : Func) (tms : Array Value) : results fn tms = (do let vs ← fn.results.mapM (resOne tms); pure (if h : vs.size = 1 then vs[0] else .tuple vs)) := rfl
theorem resultsOf_run {f : Tm} {tms : Array Value} (hr : Rep ι σ w) (ht : TmR ι f tms) : ∀ (rs : List ResultVar) (vs : List Value), resultsOf P f σ rs = some vs →
    ∃ vs', VRs ι vs vs' ∧ (rs.mapM (resOne tms)).run P w = .ok vs' w
  | [], vs, h => by simp [resultsOf] at h; subst h; exact ⟨[], .nil, by simp⟩
  | r :: rs, vs, h => by
    simp only [resultsOf] at h
    split at h
    · rename_i v hv
      split at h
      · rename_i vs0 hvs
        simp at h; subst h
        obtain ⟨vs', h1, h2⟩ := resultsOf_run hr ht rs vs0 hvs
        cases r with
        | tmp t =>
          simp [resultA] at hv; subst hv
          refine ⟨tms.getD t undef :: vs', .cons (ht.2 t) h1, ?_⟩
          rw [List.mapM_cons]
          simp only [resOne, Sem.run_bind, Sem.run_pure, Result.andThen_ok, h2]
        | cell a t =>
          simp only [resultA] at hv
          split at hv
          · rename_i a0 ha0
            have hp := ht.2 a
            rw [ha0] at hp
            obtain ⟨L, hl, hlo, e⟩ := hp.ptr_inv
            obtain ⟨v', g1, g2⟩ := loadA_sound (P := P) hv hr hl hlo
            refine ⟨v' :: vs', .cons g2 h1, ?_⟩
            have g0 : (resOne tms (.cell a t)).run P w = .ok v' w := by
              simp only [resOne, e, asAddr, Sem.run_bind, Sem.run_pure, Result.andThen_ok, g1]
            rw [List.mapM_cons]
            simp only [Sem.run_bind, Sem.run_pure, Result.andThen_ok, g0, h2]
          · cases hv
      · cases h
    · cases h

theorem results_run {fn : Func} {f : Tm} {tms : Array Value} {v : Value} (hr : Rep ι σ w) (ht : TmR ι f tms) (h : resultsA P fn f σ = some v) : ∃ v', (results fn tms).run P w = .ok v' w ∧ VR ι v v' := by
  unfold resultsA at h
  have key : ∀ vs, resultsOf P f σ fn.results.toList = some vs → ∃ vs', VRs ι vs vs' ∧ (results fn tms).run P w = .ok (if h : (⟨vs'⟩ : Array Value).size = 1 then (⟨vs'⟩ : Array Value)[0] else .tuple ⟨vs'⟩) w := by
    intro vs hvs
    obtain ⟨vs', h1, h2⟩ := resultsOf_run hr ht _ _ hvs
    refine ⟨vs', h1, ?_⟩
    have h3 : (fn.results.mapM (resOne tms)).run P w = .ok ⟨vs'⟩ w := by
      rw [Array.mapM_eq_mapM_toList]; simp [h2]
    rw [results_eq, Sem.run_bind, h3]; rfl
  split at h
  · rename_i v0 hv
    simp at h; subst h
    obtain ⟨vs', h1, h2⟩ := key _ hv
    cases h1 with
    | cons hv0 hn =>
      cases hn
      rename_i v'
      refine ⟨v', ?_, hv0⟩
      rw [h2]; simp
  · rename_i vs hne hv
    simp at h; subst h
    obtain ⟨vs', h1, h2⟩ := key _ hv
    have hlen := h1.length
    have hl1 : ¬ (⟨vs'⟩ : Array Value).size = 1 := by
      intro e
      have e : vs'.length = 1 := e
      rw [← hlen] at e
      obtain ⟨x, hx⟩ := List.length_eq_one_iff.1 e
      exact hne x hx
    refine ⟨.tuple ⟨vs'⟩, ?_, .tuple' h1⟩
    rw [h2, dif_neg hl1]
  · cases h

theorem leaves_sound {fn : Func} {f : Tm} {tms : Array Value} {v : Value} {n : Nat} {R : Ending → World → Prop} : ∀ (marks : List Nat) (ds : List Deferred) (σ : St) (w : World) (σ₁ : St), dropMarks marks σ = some σ₁ → DefR ι marks ds → Rep ι σ w → TmR ι f tms →
    resultsA P fn f σ₁ = some v → (∀ v' w', VR ι v v' → Good ι σ w ι σ₁ w' → R (.returned v') w') → LeavesInM (Fw none) n P fn tms R ds .returning w
  | [], ds, σ, w, σ₁, h, hd, hr, ht, hres, hR => by
    cases hd
    simp [dropMarks] at h; subst h
    obtain ⟨v', h1, h2⟩ := results_run hr ht hres
    exact ⟨v', h1, hR v' w h2 (.refl hr)⟩
  | m :: ms, ds, σ, w, σ₁, h, hd, hr, ht, hres, hR => by
    cases hd with
    | cons hl hds =>
      rename_i L ds
      simp only [dropMarks] at h
      split at h
      · rename_i hb
        rw [St.drop_eq] at h
        obtain ⟨L', h1, h2, hg⟩ := shut_good hr hb
        rw [hl] at h1; cases h1
        refine ⟨by simp, .inl ⟨L.c, _, rfl, run_takeDeferred h2, ?_⟩⟩
        exact leaves_sound ms ds _ _ σ₁ h hds hg.rep ht hres (fun v' w' hv hg' => hR v' w' hv (hg.trans hg'))
      · cases h

theorem runA_sound (hP : ProgOk P) : ∀ n, RecSound P (runA P n)
  | 0 => ⟨fun f args σ v σ' h => by simp [runA] at h, fun l args σ v σ' h => by simp [runA] at h⟩
  | n + 1 => by
    have ih := runA_sound hP n
    refine ⟨fun f args σ v σ' h ι w args' hr ha => ?_, fun l args σ v σ' h ι w args' L hr ha hl m => ?_⟩
    · simp only [runA] at h
      split at h
      · rename_i fn hfn
        split at h
        · rename_i c hc
          rw [Tm.puts_eq] at h
          obtain ⟨hok, hname⟩ := hP.code f fn c hfn hc
          refine ⟨⟨fn, hfn, by rw [hc]; rfl, hname⟩, fun m => ?_⟩
          have fin : ∀ (e : Exit) (fr' : Fr) (σ₁ : St), (e = .normal ∨ e = .ret) → doneA P fn fr' σ₁ = some (v, σ') → ∀ ι' a' w', Good ι σ w ι' σ₁ w' → FrR ι' fr' a' → bodyPostM (Fw none) m P fn (RetR ι σ w v σ') e a' w' := by
            intro e fr' σ₁ he hd ι' a' w' hg hf
            have : LeavesInM (Fw none) m P fn a'.tmps (RetR ι σ w v σ') a'.defers .returning w' := by
              unfold doneA at hd
              split at hd
              · rename_i σ₂ hdr
                split at hd
                · rename_i v0 hres
                  rw [fV_eq] at hd
                  simp at hd; obtain ⟨rfl, rfl⟩ := hd
                  exact leaves_sound fr'.marks a'.defers σ₁ w' σ₂ hdr hf.defs hg.rep hf.tms hres (fun v' w₂ hv hg2 => ⟨ι', hv, hg.trans hg2⟩)
                · cases hd
              · cases hd
            rcases he with rfl | rfl <;> exact this
          refine callsIn_of_wp_marks hfn hc trivial ?_
          have hfr0 : FrR ι ⟨(Tm.args 0 args).foldl (fun f p => f.set p.1 p.2) (fresh (args.length + (fn.ntmps - args.length))), []⟩ { tmps := (⟨args'⟩ : Array Value) ++ Array.replicate (fn.ntmps - (⟨args'⟩ : Array Value).size) undef, defers := [] } :=
            ⟨enter_tms ha fn.ntmps, .nil⟩
          unfold endA at h
          split at h
          · rename_i fr' σ₁ hcode
            exact codeA_sound hP.mixed hP.zero ih n none c hok _ _ _ _ _ hcode ι w _ none m _ hr hfr0 .none (fin _ fr' σ₁ (.inl rfl) h)
          · rename_i fr' σ₁ hcode
            exact codeA_sound hP.mixed hP.zero ih n none c hok _ _ _ _ _ hcode ι w _ none m _ hr hfr0 .none (fin _ fr' σ₁ (.inr rfl) h)
          · cases h
        · cases h
      · cases h
    · simp only [runA] at h
      split at h
      · rename_i tm ps as bo st pend db hb
        obtain ⟨hlen, h⟩ := bif_some h
        have hlen := Nat.eq_of_beq_eq_true hlen
        rw [Tm.puts_eq] at h
        obtain ⟨L', r, h1, h2, h3, _, h5, h6, h7, h8, oka, okb, _, _⟩ := loop_put (st' := st) (pend' := pend) hr hb
        rw [hl] at h1; cases h1
        have hsz : (⟨args'⟩ : Array Value).size = r.params.size := by rw [h6]; simp; rw [← ha.length]; exact hlen
        refine ⟨r.fn, _, r.assign, r.body, run_yield h2 hsz, ?_⟩
        rw [h7, h8]
        refine roundIn_of_wpIn trivial ?_
        have htm : TmR ι ((ps.zip args).foldl (fun f p => f.set p.1 p.2) tm) ((r.params.zip (⟨args'⟩ : Array Value)).foldl (fun tmps (t, a) => tmps.setIfInBounds t a) r.tmps) := by
          have := zip_tms ps args args' tm r.tmps ha h5
          rw [h6, ← Array.foldl_toList, Array.toList_zip]
          exact this
        -- the assignments
        unfold roundBody at h
        split at h
        · rename_i fr₁ σ₁ hcode
          split at h
          · rename_i tm1 ps1 as1 bo1 pend1 db1 hb1
            rw [St.write_eq] at h
            refine codeA_sound hP.mixed hP.zero ih n (some l) as oka _ _ _ _ _ hcode ι w _ (some L.c) m _ hr ⟨htm, .nil⟩ (.some hl) (fun ι₁ a₁ w₁ hg1 hf1 => ?_)
            obtain ⟨L1, r1, k1, k2, k3, k4, _, _, _, _, _, _, _, hg2⟩ := loop_put (st' := .busy) (pend' := pend1) hg1.rep hb1
            have hl1 := hg1.ext.loc _ _ _ hl
            rw [hl1] at k1; cases k1
            have hw : w₁.putObj L.c (.loop { r1 with state := .busy }) = w₁.putObj L.c (.loop { r1 with state := .busy, pending := pend1 }) := by rw [← k4]
            refine ⟨_, run_beginRound k2 k3, ?_⟩
            rw [hw]
            -- what is asked at the end
            have fin : ∀ (jump : Option Code) (σ₂ : St), roundEnd l jump σ₂ = some (v, σ') → ∀ ι₂ w₂, Good ι₁ (σ₁.put l (.loop tm1 ps1 as1 bo1 .busy pend1 db1)) (w₁.putObj L.c (.loop { r1 with state := .busy, pending := pend1 })) ι₂ σ₂ w₂ →
                ∃ v' w', (Instr.endRound L.c jump).run P w₂ = .ok v' w' ∧ RetR ι σ w v σ' (.returned v') w' := by
              intro jump σ₂ hend ι₂ w₂ hg3
              have hl2 := hg3.ext.loc _ _ _ hl1
              unfold roundEnd at hend
              split at hend
              · rename_i hb2
                cases jump with
                | none =>
                  simp only [St.write_eq] at hend
                  simp at hend; obtain ⟨rfl, rfl⟩ := hend
                  obtain ⟨L2, r2, q1, q2, _, _, _, _, _, _, _, _, _, hg4⟩ := loop_put (st' := .ready) (pend' := none) hg3.rep hb2
                  rw [hl2] at q1; cases q1
                  exact ⟨_, _, run_endRound none q2, ι₂, .bool true, ((hg1.trans hg2).trans hg3).trans hg4⟩
                | some c =>
                  simp only [St.write_eq] at hend
                  simp at hend; obtain ⟨rfl, rfl⟩ := hend
                  obtain ⟨L2, r2, q1, q2, _, _, _, _, _, _, _, _, _, hg4⟩ := loop_put (st' := .done) (pend' := some c) hg3.rep hb2
                  rw [hl2] at q1; cases q1
                  exact ⟨_, _, run_endRound (some c) q2, ι₂, .bool false, ((hg1.trans hg2).trans hg3).trans hg4⟩
              · cases hend
            unfold roundLeft at h
            split at h
            · rename_i fr₂ σ₂ hbody
              refine codeA_sound hP.mixed hP.zero ih n (some l) bo okb _ _ _ _ _ hbody ι₁ _ _ (some L.c) m _ hg2.rep hf1 (.some hl1) (fun ι₂ a₂ w₂ hg3 _ => ?_)
              exact fin none σ₂ h ι₂ w₂ hg3
            · rename_i fr₂ σ₂ hbody
              refine codeA_sound hP.mixed hP.zero ih n (some l) bo okb _ _ _ _ _ hbody ι₁ _ _ (some L.c) m _ hg2.rep hf1 (.some hl1) (fun ι₂ a₂ w₂ hg3 _ => ?_)
              exact fin (some .ret) σ₂ h ι₂ w₂ hg3
            · rename_i id fr₂ σ₂ hbody
              refine codeA_sound hP.mixed hP.zero ih n (some l) bo okb _ _ _ _ _ hbody ι₁ _ _ (some L.c) m _ hg2.rep hf1 (.some hl1) (fun ι₂ a₂ w₂ hg3 _ => ?_)
              exact fin (some (.exit id)) σ₂ h ι₂ w₂ hg3
            · cases h
          · cases h
        · cases h
      · cases h

/-- **THE THEOREM**: a call that the abstract semantics runs to its end: the model's returns, with what stands for it. -/
theorem calls_of_runA (hP : ProgOk P) {n : Nat} {f : FuncId} {args args' : List Value} {v : Value} {σ' : St} (h : runA P n (.func f) args σ = some (v, σ')) (hr : Rep ι σ w) (ha : VRs ι args args') :
    Calls P f ⟨args'⟩ w (RetR ι σ w v σ') := callsIn_wide.1 (((runA_sound hP n).func f args σ v σ' h ι w args' hr ha).2 0)
end
end Go.Lay
