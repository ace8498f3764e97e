/- A table of calls that are shown apart: the evaluation of a caller looks them up. -/
import Derived.Test.YthcdddbghldmiaaLayEnter
set_option linter.unusedVariables false
set_option linter.unusedSimpArgs false
namespace Go.Lay
open Go

section
variable {P : Program} {rec : Rec} {ι : Inj} {σ : St} {w : World}
/-- A function, with the calls given. -/
def bodyF (P : Program) (rec : Rec) (N : Nat) (f : FuncId) (args : List Value) (σ : St) : Option (Value × St) :=
  match P.funcs[f]? with
  | some fn => match fn.body with
    | some c => Tm.puts (Tm.args 0 args) (fresh (args.length + (fn.ntmps - args.length))) fun tm => endA P fn (codeA P rec N none c ⟨tm, []⟩ σ)
    | none => none
  | none => none
/-- What the body computes, leaning on calls that are sound, the model computes. -/
theorem bodyF_sound (hP : ProgOk P) (ih : RecSound P rec) {n : Nat} {f : FuncId} {args args' : List Value} {v : Value} {σ' : St} (h : bodyF P rec n f args σ = some (v, σ')) (hr : Rep ι σ w) (ha : VRs ι args args') :
    (∃ fn, P.funcs[f]? = some fn ∧ fn.body.isSome = true ∧ fn.name ≠ "runtime.NumGoroutine") ∧ ∀ m, CallsIn (Fw none) m P f ⟨args'⟩ w (RetR ι σ w v σ') := by
  unfold bodyF at h
  split at h
  · rename_i fn hfn
    split at h
    · rename_i c hc
      rw [Tm.puts_eq] at h
      obtain ⟨hok, hname⟩ := hP.code f fn c hfn hc
      refine ⟨⟨fn, hfn, by rw [hc]; rfl, hname⟩, fun m => ?_⟩
      have fin : ∀ (e : Exit) (fr' : Fr) (σ₁ : St), (e = .normal ∨ e = .ret) → doneA P fn fr' σ₁ = some (v, σ') → ∀ ι' a' w', Good ι σ w ι' σ₁ w' → FrR ι' fr' a' → bodyPostM (Fw none) m P fn (RetR ι σ w v σ') e a' w' := by
        intro e fr' σ₁ he hd ι' a' w' hg hf
        have : LeavesInM (Fw none) m P fn a'.tmps (RetR ι σ w v σ') a'.defers .returning w' := by
          unfold doneA at hd
          split at hd
          · rename_i σ₂ hdr
            split at hd
            · rename_i v0 hres
              rw [fV_eq] at hd
              simp at hd; obtain ⟨rfl, rfl⟩ := hd
              exact leaves_sound fr'.marks a'.defers σ₁ w' σ₂ hdr hf.defs hg.rep hf.tms hres (fun v' w₂ hv hg2 => ⟨ι', hv, hg.trans hg2⟩)
            · cases hd
          · cases hd
        rcases he with rfl | rfl <;> exact this
      refine callsIn_of_wp_marks hfn hc trivial ?_
      have hfr0 : FrR ι ⟨(Tm.args 0 args).foldl (fun f p => f.set p.1 p.2) (fresh (args.length + (fn.ntmps - args.length))), []⟩ { tmps := (⟨args'⟩ : Array Value) ++ Array.replicate (fn.ntmps - (⟨args'⟩ : Array Value).size) undef, defers := [] } :=
        ⟨enter_tms ha fn.ntmps, .nil⟩
      unfold endA at h
      split at h
      · rename_i fr' σ₁ hcode
        exact codeA_sound hP.mixed hP.zero ih n none c hok _ _ _ _ _ hcode ι w _ none m _ hr hfr0 .none (fin _ fr' σ₁ (.inl rfl) h)
      · rename_i fr' σ₁ hcode
        exact codeA_sound hP.mixed hP.zero ih n none c hok _ _ _ _ _ hcode ι w _ none m _ hr hfr0 .none (fin _ fr' σ₁ (.inr rfl) h)
      · cases h
    · cases h
  · cases h
/-! ### Equal states, told by the kernel -/
def treq {α : Type} (eq : α → α → Bool) : Tr α → Tr α → Bool
  | .leaf, .leaf => true
  | .node (some a) l m, .node (some b) l' m' => eq a b && treq eq l l' && treq eq m m'
  | .node none l m, .node none l' m' => treq eq l l' && treq eq m m'
  | _, _ => false
theorem treq_eq {α : Type} {eq : α → α → Bool} (he : ∀ a b, eq a b = true → a = b) : ∀ (t t' : Tr α), treq eq t t' = true → t = t' := by
  intro t
  induction t with
  | leaf => intro t' h; cases t' <;> simp_all [treq]
  | node v l m ihl ihm =>
    intro t' h
    cases t' with
    | leaf => cases v <;> simp [treq] at h
    | node v' l' m' =>
      cases v <;> cases v' <;> simp only [treq, Bool.and_eq_true, Bool.false_eq_true] at h
      · rw [ihl _ h.1, ihm _ h.2]
      · rw [he _ _ h.1.1, ihl _ h.1.2, ihm _ h.2]
def logEq : List (Nat × Nat) → List (Nat × Nat) → Bool
  | [], [] => true
  | (a, b) :: l, (a', b') :: l' => Nat.beq a a' && Nat.beq b b' && logEq l l'
  | _, _ => false
theorem logEq_eq : ∀ (l l' : List (Nat × Nat)), logEq l l' = true → l = l' := by
  intro l
  induction l with
  | nil => intro l' h; cases l' <;> simp_all [logEq]
  | cons x l ih =>
    intro l' h
    cases l' with
    | nil => simp [logEq] at h
    | cons y l' => simp only [logEq, Bool.and_eq_true, Nat.beq_eq] at h; rw [ih _ h.2]; obtain ⟨⟨h1, h2⟩, _⟩ := h; cases x; cases y; simp_all
def vsEq : List Value → List Value → Bool
  | [], [] => true
  | a :: l, b :: l' => veq RD a b && vsEq l l'
  | _, _ => false
theorem vsEq_eq : ∀ (l l' : List Value), vsEq l l' = true → l = l' := by
  intro l
  induction l with
  | nil => intro l' h; cases l' <;> simp_all [vsEq]
  | cons x l ih =>
    intro l' h
    cases l' with
    | nil => simp [vsEq] at h
    | cons y l' => simp only [vsEq, Bool.and_eq_true] at h; rw [veq_eq _ _ _ h.1, ih _ h.2]
def mapEq : List (Value × Value) → List (Value × Value) → Bool
  | [], [] => true
  | (a, b) :: l, (a', b') :: l' => veq RD a a' && veq RD b b' && mapEq l l'
  | _, _ => false
theorem mapEq_eq : ∀ (l l' : List (Value × Value)), mapEq l l' = true → l = l' := by
  intro l
  induction l with
  | nil => intro l' h; cases l' <;> simp_all [mapEq]
  | cons x l ih =>
    intro l' h
    cases l' with
    | nil => simp [mapEq] at h
    | cons y l' =>
      cases x; cases y
      simp only [mapEq, Bool.and_eq_true] at h; rw [veq_eq _ _ _ h.1.1, veq_eq _ _ _ h.1.2, ih _ h.2]
def blkEq : Blk → Blk → Bool
  | .cells c e l n ro, .cells c' e' l' n' ro' => vsEq c c' && Nat.beq e e' && logEq l l' && Nat.beq n n' && (ro == ro')
  | .map m, .map m' => mapEq m m'
  | .defd, .defd => true
  | _, _ => false
theorem blkEq_eq (a b : Blk) (h : blkEq a b = true) : a = b := by
  cases a <;> cases b <;> simp only [blkEq, Bool.and_eq_true, Bool.false_eq_true, Nat.beq_eq, beq_iff_eq] at h
  · obtain ⟨⟨⟨⟨h1, h2⟩, h3⟩, h4⟩, h5⟩ := h
    rw [vsEq_eq _ _ h1, logEq_eq _ _ h3]; simp_all
  · rw [mapEq_eq _ _ h]
  · rfl
def stEq (σ τ : St) : Bool := Nat.beq σ.next τ.next && Nat.beq σ.low τ.low && treq blkEq σ.heap τ.heap
theorem stEq_eq (σ τ : St) (h : stEq σ τ = true) : σ = τ := by
  cases σ; cases τ
  simp only [stEq, Bool.and_eq_true, Nat.beq_eq] at h
  obtain ⟨⟨h1, h2⟩, h3⟩ := h
  simp_all [treq_eq blkEq_eq _ _ h3]

/-- The second tree holds some of what the first holds. -/
def tsub {α : Type} (eq : α → α → Bool) : Tr α → Tr α → Bool
  | _, .leaf => true
  | .node (some a) l m, .node (some b) l' m' => eq a b && tsub eq l l' && tsub eq m m'
  | .node _ l m, .node none l' m' => tsub eq l l' && tsub eq m m'
  | _, _ => false
theorem tsub_get {α : Type} {eq : α → α → Bool} (he : ∀ a b, eq a b = true → a = b) : ∀ (t t' : Tr α), tsub eq t t' = true → ∀ p y, Tr.getP p t' = some y → Tr.getP p t = some y := by
  intro t t'
  induction t' generalizing t with
  | leaf => intro _ p y h; cases p <;> simp [Tr.getP] at h
  | node v' l' m' ihl ihm =>
    intro h p y hy
    cases t with
    | leaf => cases v' <;> simp [tsub] at h
    | node v l m =>
      have hs : (∀ b, v' = some b → v = some b) ∧ tsub eq l l' = true ∧ tsub eq m m' = true := by
        cases v' with
        | none => cases v <;> (simp only [tsub, Bool.and_eq_true] at h; exact ⟨fun _ hb => (by cases hb), h.1, h.2⟩)
        | some b =>
          cases v with
          | none => simp [tsub] at h
          | some a =>
            simp only [tsub, Bool.and_eq_true] at h
            exact ⟨fun _ hb => (by cases hb; rw [he _ _ h.1.1]), h.1.2, h.2⟩
      cases p with
      | nil => simp only [Tr.getP] at hy ⊢; exact hs.1 _ hy
      | cons b p =>
        simp only [Tr.getP] at hy ⊢
        cases b with
        | true => exact ihm _ hs.2.2 _ _ hy
        | false => exact ihl _ hs.2.1 _ _ hy
def stSub (σ τ : St) : Bool := Nat.beq σ.next τ.next && Nat.beq σ.low τ.low && tsub blkEq σ.heap τ.heap
theorem Good.sub {ι ι' : Inj} {σ τ τ' : St} {w w' : World} (h : Good ι σ w ι' τ w') (hs : stSub τ τ' = true) : Good ι σ w ι' τ' w' := by
  simp only [stSub, Bool.and_eq_true, Nat.beq_eq] at hs
  obtain ⟨⟨h1, h2⟩, h3⟩ := hs
  refine ⟨h1 ▸ h.ext, ⟨fun b y hb => ?_, fun b s L hl => h.rep.lt b s L hl, fun c b hb => ?_, fun b s hb => ?_⟩, h2 ▸ h.pres, h2 ▸ h.low, h1 ▸ h.next⟩
  · have := h.rep.blk b y (tsub_get blkEq_eq _ _ h3 _ _ hb)
    exact ⟨h1 ▸ this.1, this.2⟩
  · have := h.rep.ownlt c b hb; exact ⟨this.1, h1 ▸ this.2⟩
  · exact h.rep.fresh b s (h1 ▸ hb)

/-! ### The table -/
structure Ent where
  keep : Bool
  f : Nat
  args : List Value
  σ : St
  v : Value
  σ' : St
/-- Blocks, laid. -/
def ins : Tr Blk → List (Nat × Blk) → Tr Blk
  | t, [] => t
  | t, (i, y) :: l => Tr.setP (way i) t (some y) fun t => ins t l
/-- What lies there afterwards: what lay there, where the callee writes nothing old and hands back no address. -/
def Ent.out (e : Ent) (σ : St) : St := bif e.keep then σ else e.σ'
def findE : List Ent → Nat → List Value → St → Option (Value × St)
  | [], _, _, _ => none
  | e :: l, f, args, σ => bif Nat.beq e.f f && Nat.beq e.σ.next σ.next && vsEq e.args args && stSub σ e.σ then some (e.v, e.out σ) else findE l f args σ
def memoR (l : List Ent) (rec : Rec) : Rec := fun r args σ =>
  match r with
  | .func f => match findE l f args σ with
    | some x => some x
    | none => rec (.func f) args σ
  | .yield y => rec (.yield y) args σ
theorem findE_some : ∀ {l : List Ent} {f args σ x}, findE l f args σ = some x → ∃ e ∈ l, e.f = f ∧ e.args = args ∧ stSub σ e.σ = true ∧ x = (e.v, e.out σ) := by
  intro l
  induction l with
  | nil => intro f args σ x h; cases h
  | cons e l ih =>
    intro f args σ x h
    unfold findE at h
    cases hb : (Nat.beq e.f f && Nat.beq e.σ.next σ.next && vsEq e.args args && stSub σ e.σ) with
    | true =>
      rw [hb] at h
      simp only [Bool.and_eq_true, Nat.beq_eq] at hb
      simp only [cond_true, Option.some.injEq] at h
      exact ⟨e, List.mem_cons_self, hb.1.1.1, vsEq_eq _ _ hb.1.2, hb.2, h.symm⟩
    | false =>
      rw [hb] at h
      obtain ⟨e', he, hx⟩ := ih h
      exact ⟨e', List.mem_cons_of_mem _ he, hx⟩
theorem Rep.sub {σ σs : St} {w : World} (h : Rep ι σ w) (hs : stSub σ σs = true) : Rep ι σs w := by
  simp only [stSub, Bool.and_eq_true, Nat.beq_eq] at hs
  obtain ⟨⟨h1, _⟩, h3⟩ := hs
  refine ⟨fun b y hb => ?_, h.lt, fun c b hb => ?_, fun b s hb => h.fresh b s (h1 ▸ hb)⟩
  · have := h.blk b y (tsub_get blkEq_eq _ _ h3 _ _ hb)
    exact ⟨h1 ▸ this.1, this.2⟩
  · have := h.ownlt c b hb; exact ⟨this.1, h1 ▸ this.2⟩
/-- An entry is right: the model does so, wherever all lies that the entry names. -/
def EntSnd (P : Program) (e : Ent) : Prop := ∀ (ι : Inj) (σ : St) (w : World) (args' : List Value), stSub σ e.σ = true → Rep ι σ w → VRs ι e.args args' →
    (∃ fn, P.funcs[e.f]? = some fn ∧ fn.body.isSome = true ∧ fn.name ≠ "runtime.NumGoroutine") ∧ ∀ n, CallsIn (Fw none) n P e.f ⟨args'⟩ w (RetR ι σ w e.v (e.out σ))
def TblSnd (P : Program) (l : List Ent) : Prop := ∀ e ∈ l, EntSnd P e
theorem tbl_nil : TblSnd P [] := fun _ h => by cases h
theorem tbl_cons {e : Ent} {l : List Ent} (h : EntSnd P e) (hl : TblSnd P l) : TblSnd P (e :: l) := fun x hx => by
  rcases List.mem_cons.1 hx with rfl | hx
  · exact h
  · exact hl _ hx
theorem memo_sound (hP : ProgOk P) {l : List Ent} (h : TblSnd P l) (N : Nat) : RecSound P (memoR l (runA P N)) := by
  refine ⟨fun f args σ v σ' hx ι w args' hr ha => ?_, fun y args σ v σ' hx => (runA_sound hP N).yield y args σ v σ' hx⟩
  simp only [memoR] at hx
  cases hf : findE l f args σ with
  | some y =>
    rw [hf] at hx
    obtain ⟨e, he, rfl, rfl, hs, rfl⟩ := findE_some hf
    cases hx
    exact h e he ι σ w args' hs hr ha
  | none => rw [hf] at hx; exact (runA_sound hP N).func f args σ v σ' hx ι w args' hr ha

/-- A callee, with what is kept of what it leaves. -/
def fullB (e : Ent) : Option (Value × St) → Bool
  | some (v, τ) => veq RD v e.v && stSub τ e.σ' && !e.keep
  | none => false
theorem ent_full (hP : ProgOk P) {l : List Ent} (hl : TblSnd P l) (N : Nat) {e : Ent} (h : fullB e (bodyF P (memoR l (runA P N)) N e.f e.args e.σ) = true) : EntSnd P e := by
  intro ι σ w args' hs hr ha
  unfold fullB at h
  split at h
  · rename_i v τ hb
    simp only [Bool.and_eq_true, Bool.not_eq_true'] at h
    obtain ⟨h1, h2⟩ := bodyF_sound hP (memo_sound hP hl N) hb (hr.sub hs) ha
    refine ⟨h1, fun n => CallsIn.mono (h2 n) (fun e' w' hR => ?_)⟩
    cases e' with
    | returned v' =>
      obtain ⟨ι', hv, hg⟩ := hR
      have hg := hg.sub h.1.2
      simp only [stSub, Bool.and_eq_true, Nat.beq_eq] at hs
      refine ⟨ι', veq_eq _ _ _ h.1.1 ▸ hv, ?_⟩
      simp only [Ent.out, h.2, cond_false]
      exact ⟨hg.ext, hg.rep, hg.pres, hs.1.2 ▸ hg.low, hs.1.1 ▸ hg.next⟩
    | panicked _ => exact hR.elim
    | outgrown => exact hR.elim
  · cases h
/-- A callee that writes nothing old and hands back no address. -/
def pureB (e : Ent) : Option (Value × St) → Bool
  | some (v, τ) => veq RD v e.v && Nat.ble e.σ.next τ.low && rigidB RD e.v && e.keep
  | none => false
theorem ent_pure (hP : ProgOk P) {l : List Ent} (hl : TblSnd P l) (N : Nat) {e : Ent} (h : pureB e (bodyF P (memoR l (runA P N)) N e.f e.args e.σ) = true) : EntSnd P e := by
  intro ι σ w args' hs hr ha
  unfold pureB at h
  split at h
  · rename_i v τ hb
    simp only [Bool.and_eq_true] at h
    obtain ⟨h1, h2⟩ := bodyF_sound hP (memo_sound hP hl N) hb (hr.sub hs) ha
    refine ⟨h1, fun n => CallsIn.mono (h2 n) (fun e' w' hR => ?_)⟩
    have hn : σ.next = e.σ.next := by simp only [stSub, Bool.and_eq_true, Nat.beq_eq] at hs; exact hs.1.1
    cases e' with
    | returned v' =>
      obtain ⟨ι', hv, hg⟩ := hR
      have hv1 := veq_eq _ _ _ h.1.1.1
      subst hv1
      have hlow' := (ble_iff _ _).1 h.1.1.2
      have he := hv.rigid _ h.1.2; subst he
      have hsame : ∀ c, c < w.heap.size → (∀ b, ι.own c = some b → b < σ.next) → w'.heap[c]? = w.heap[c]? := fun c hcs ho =>
        hg.pres.same c hcs (fun b hb => Nat.lt_of_lt_of_le (hn ▸ ho b hb) hlow')
      simp only [Ent.out, h.2, cond_true]
      refine ⟨ι, .refl_rigid _ h.1.2, Ext.refl _ _ _, ⟨fun b y hb => ⟨(hr.blk b y hb).1, (hr.blk b y hb).2.keep (Ext.refl ι w.heap.size 0) hr.lt (fun c hcs ho => ?_) (fun cs esz log next ro hy s hs' => ?_)⟩, fun b s L hl => ?_, fun c b hb => ?_, hr.fresh⟩,
        ⟨hg.pres.size, fun c hcs ho => hsame c hcs (fun b hb => (hr.ownlt c b hb).2), hg.pres.tape, hg.pres.os, hg.pres.output, hg.pres.fr⟩, Nat.le_refl _, Nat.le_refl _⟩
      · refine hsame c hcs (fun b' hb' => ?_)
        rcases ho with ho | ho
        · exact (hr.ownlt c b' hb').2
        · rw [ho] at hb'; cases hb'
      · have := (hr.blk b y hb).2; subst hy; cases this with | cells _ _ _ fresh => exact fresh s hs'
      · exact Nat.lt_of_lt_of_le (hr.lt b s L hl) hg.pres.size
      · exact ⟨Nat.lt_of_lt_of_le (hr.ownlt c b hb).1 hg.pres.size, (hr.ownlt c b hb).2⟩
    | panicked _ => exact hR.elim
    | outgrown => exact hR.elim
  · cases h
/-- A closed statement, by a table. -/
theorem walk_memo (hP : ProgOk P) {l : List Ent} (hl : TblSnd P l) {N : Nat} {f : FuncId} (h : okB (bodyF P (memoR l (runA P N)) N f [] noSt) = true) (w : World) :
    Calls P f #[] w fun e w' => e = .returned (.bool true) ∧ RowKit.Grown w w' := by
  obtain ⟨σ', hr⟩ := okB_some h
  obtain ⟨h1, h2⟩ := bodyF_sound hP (memo_sound hP hl N) hr (rep_no w) .nil
  refine Calls.mono (callsIn_wide.1 (h2 0)) (fun e w' hR => ?_)
  cases e with
  | returned v' =>
    obtain ⟨ι', hv, hg⟩ := hR
    exact ⟨by rw [hv.bool_inv], grown_of hg (fun _ => rfl)⟩
  | panicked _ => exact hR.elim
  | outgrown => exact hR.elim
end
end Go.Lay
