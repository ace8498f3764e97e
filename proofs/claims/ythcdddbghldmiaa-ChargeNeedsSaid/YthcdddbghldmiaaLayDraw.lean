/- Regions that draw their order: the text of a region; the run in the order of the text. -/
import Derived.Test.YthcdddbghldmiaaLayOp
set_option linter.unusedVariables false
set_option linter.unusedSimpArgs false
namespace Go.Lay
open Go

/-! ### What comes before what -/
theorem fold_testBit (look : Nat → Nat) (i : Nat) : ∀ (l : List Edge) (s : Nat), (l.foldl (fun s e => if Region.binds .any e then s ||| 2 ^ e.on ||| look e.on else s) s).testBit i = true →
    s.testBit i = true ∨ ∃ e ∈ l, Region.binds .any e = true ∧ (e.on = i ∨ (look e.on).testBit i = true)
  | [], s, h => .inl h
  | e :: l, s, h => by
    rw [List.foldl_cons] at h
    rcases fold_testBit look i l _ h with h | ⟨e', h1, h2⟩
    · by_cases hb : Region.binds .any e = true
      · rw [if_pos hb] at h
        simp only [Nat.testBit_or, Bool.or_eq_true, Nat.testBit_two_pow, decide_eq_true_eq] at h
        rcases h with (h | h) | h
        · exact .inl h
        · exact .inr ⟨e, by simp, hb, .inl h⟩
        · exact .inr ⟨e, by simp, hb, .inr h⟩
      · rw [if_neg hb] at h; exact .inl h
    · exact .inr ⟨e', by simp [h1], h2⟩
theorem one_testBit {look : Nat → Nat} {o : Oper} {i : Nat} (h : (CheckFast.one look o).testBit i = true) : ∃ e ∈ o.after.toList, Region.binds .any e = true ∧ (e.on = i ∨ (look e.on).testBit i = true) := by
  unfold CheckFast.one at h
  rw [← Array.foldl_toList] at h
  rcases fold_testBit look i o.after.toList 0 h with h | h
  · simp at h
  · exact h

theorem foldB : ∀ (l : List Oper) (A : Array Nat), (l.foldl (fun acc o => acc.push (CheckFast.one (fun i => acc.getD i 0) o)) A).size = A.size + l.length ∧
    (∀ k, k < A.size → (l.foldl (fun acc o => acc.push (CheckFast.one (fun i => acc.getD i 0) o)) A)[k]? = A[k]?) ∧
    ∀ k o, l[k]? = some o → ∃ C : Array Nat, (∀ m, m < A.size + k → C[m]? = (l.foldl (fun acc o => acc.push (CheckFast.one (fun i => acc.getD i 0) o)) A)[m]?) ∧
      (l.foldl (fun acc o => acc.push (CheckFast.one (fun i => acc.getD i 0) o)) A)[A.size + k]? = some (CheckFast.one (fun i => C.getD i 0) o)
  | [], A => ⟨by simp, fun _ _ => rfl, fun k o h => by simp at h⟩
  | x :: l, A => by
    have ih := foldB l (A.push (CheckFast.one (fun i => A.getD i 0) x))
    simp only [List.foldl_cons]
    obtain ⟨h1, h2, h3⟩ := ih
    simp only [Array.size_push] at h1 h2 h3
    refine ⟨by rw [h1]; simp; omega, fun k hk => by rw [h2 k (by omega), Array.getElem?_push, if_neg (by omega)], fun k o hk => ?_⟩
    cases k with
    | zero =>
      simp at hk; subst hk
      refine ⟨A, fun m hm => by rw [h2 m (by omega), Array.getElem?_push, if_neg (by omega)], ?_⟩
      rw [Nat.add_zero, h2 _ (by omega), Array.getElem?_push, if_pos rfl]
    | succ k =>
      simp only [List.getElem?_cons_succ] at hk
      obtain ⟨C, c1, c2⟩ := h3 k o hk
      exact ⟨C, fun m hm => c1 m (by omega), by rw [show A.size + (k + 1) = A.size + 1 + k by omega]; exact c2⟩

theorem pre_step {ops : Array Oper} {i j : Nat} {o : Oper} (ho : ops[j]? = some o) (hb : ∀ e ∈ o.after.toList, Region.binds .any e = true → e.on < j) (h : pre (CheckFast.beforeF ops) i j = true) :
    ∃ e ∈ o.after.toList, Region.binds .any e = true ∧ (e.on = i ∨ pre (CheckFast.beforeF ops) i e.on = true) := by
  rw [CheckFast.beforeF_eq] at h ⊢
  have hB : Region.before ops = ops.toList.foldl (fun acc o => acc.push (CheckFast.one (fun i => acc.getD i 0) o)) #[] := by
    unfold Region.before
    rw [← Array.foldl_toList]; rfl
  obtain ⟨_, _, h3⟩ := foldB ops.toList #[]
  obtain ⟨C, c1, c2⟩ := h3 j o (by simpa using ho)
  rw [← hB] at c1 c2
  simp only [Array.size_empty, Nat.zero_add] at c1 c2
  unfold pre at h
  have hg : (Region.before ops).getD j 0 = CheckFast.one (fun i => C.getD i 0) o := by simp [c2]
  rw [hg] at h
  obtain ⟨e, h1, h2, h3⟩ := one_testBit h
  refine ⟨e, h1, h2, h3.imp id (fun h => ?_)⟩
  unfold pre
  have := c1 e.on (hb e h1 h2)
  simpa [this] using h

/-- What is asked of a region's text, as propositions. -/
structure DrawOk (ops : Array Oper) : Prop where
  back : ∀ (j : Nat) (o : Oper), ops[j]? = some o → ∀ e ∈ o.after.toList, Region.binds .any e = true → e.on < j
  guard : ∀ (j : Nat) (o : Oper), ops[j]? = some o → ∀ g want, o.guard = some (g, want) → ∃ e ∈ o.after.toList, Region.binds .any e = true ∧ e.on = g
  sel : ∀ (j : Nat) (o : Oper), ops[j]? = some o → ∀ cs b, o.op ≠ .select cs b
  acts : ∀ (i j : Nat) (oi oj : Oper), ops[i]? = some oi → ops[j]? = some oj → i < j → actsB oi.op = true → actsB oj.op = true → makesB oj.op = false → pre (CheckFast.beforeF ops) i j = true
  apart : ∀ (i j : Nat) (oi oj : Oper), ops[i]? = some oi → ops[j]? = some oj → i ≠ j → pre (CheckFast.beforeF ops) i j = false → pre (CheckFast.beforeF ops) j i = false → Oper.apart ops oi oj = true

theorem getD_of {ops : Array Oper} {j : Nat} {o : Oper} (h : ops[j]? = some o) : ops.getD j default = o ∧ j < ops.size := ⟨by simp [h], (Array.getElem?_eq_some_iff.1 h).1⟩

theorem drawOk_spec {ops : Array Oper} (h : drawOk ops (CheckFast.beforeF ops) = true) : DrawOk ops := by
  unfold drawOk at h
  have key : ∀ (j : Nat) (o : Oper), ops[j]? = some o → _ := fun j o ho => List.all_eq_true.1 h j (List.mem_range.2 (getD_of ho).2)
  refine ⟨fun j o ho e he hb => ?_, fun j o ho g want hg => ?_, fun j o ho cs b hs => ?_, fun i j oi oj hi hj hlt ha hb hm => ?_, fun i j oi oj hi hj hne h1 h2 => ?_⟩
  · have := key j o ho
    simp only [(getD_of ho).1, Bool.and_eq_true] at this
    have h1 := List.all_eq_true.1 this.1.1.1 e he
    rw [hb] at h1; simpa using h1
  · have := key j o ho
    simp only [(getD_of ho).1, Bool.and_eq_true, hg] at this
    obtain ⟨e, h1, h2⟩ := List.any_eq_true.1 this.1.1.2
    simp only [Bool.and_eq_true] at h2
    exact ⟨e, h1, h2.1, Nat.eq_of_beq_eq_true h2.2⟩
  · have := key j o ho
    simp only [(getD_of ho).1, Bool.and_eq_true, hs] at this
    simp at this
  · have := key j oj hj
    simp only [(getD_of hj).1, Bool.and_eq_true] at this
    have h1 := List.all_eq_true.1 this.2 i (List.mem_range.2 (getD_of hi).2)
    simp only [(getD_of hi).1, Bool.and_eq_true, ha, hb, hm] at h1
    have hl : Nat.blt i j = true := (ble_iff _ _).2 hlt
    simpa [hl] using h1.1
  · have := key j oj hj
    simp only [(getD_of hj).1, Bool.and_eq_true] at this
    have h3 := List.all_eq_true.1 this.2 i (List.mem_range.2 (getD_of hi).2)
    simp only [(getD_of hi).1, Bool.and_eq_true] at h3
    have hb : Nat.beq i j = false := by rw [Bool.eq_false_iff]; intro e; exact hne (Nat.eq_of_beq_eq_true e)
    simpa [hb, apartB, h1, h2] using h3.2

section
variable {ops : Array Oper} (D : DrawOk ops)
include D
/-- A set of operations that holds with each one all that it waits for. -/
def Closed (ops : Array Oper) (X : Nat → Prop) : Prop := ∀ (j : Nat) (o : Oper), X j → ops[j]? = some o → ∀ e ∈ o.after.toList, Region.binds .any e = true → X e.on
theorem pre_in {X : Nat → Prop} (hX : Closed ops X) : ∀ (j : Nat) (o : Oper), ops[j]? = some o → (∀ e ∈ o.after.toList, Region.binds .any e = true → X e.on) → ∀ i, pre (CheckFast.beforeF ops) i j = true → X i := by
  intro j
  induction j using Nat.strongRecOn with
  | _ j ih =>
    intro o ho hdep i hp
    obtain ⟨e, h1, h2, h3⟩ := pre_step ho (D.back j o ho) hp
    have hx := hdep e h1 h2
    rcases h3 with rfl | h3
    · exact hx
    · have hlt := D.back j o ho e h1 h2
      have hlt2 : j < ops.size := (getD_of ho).2
      have ho2 : ops[e.on]? = some ops[e.on] := by simp
      exact ih e.on hlt _ ho2 (fun e' he' hb' => hX e.on _ hx ho2 e' he' hb') i h3
theorem pre_lt (i j : Nat) (hj : j < ops.size) (hp : pre (CheckFast.beforeF ops) i j = true) : i < j := by
  have ho : ops[j]? = some ops[j] := by simp [hj]
  have := pre_in D (X := fun i => i < j) (fun k o hk ho e he hb => Nat.lt_trans (D.back k o ho e he hb) hk) j _ ho (fun e he hb => D.back j _ ho e he hb) i hp
  exact this
end

/-! ### The run in the order of the text -/
def setO (f : Tm) (dst : Option Tmp) (v : Value) : Tm := match dst with | some d => f.set d v | none => f
theorem putA_eq {β : Type} (f : Tm) (dst : Option Tmp) (v : Value) (k : Tm → β) : putA f dst v k = k (setO f dst v) := by
  cases dst with
  | none => rfl
  | some d => exact Tm.put_eq f d v k

def frL (l : List Seen) (t : Tm) (i : Nat) : Tm := match l[i]? with | some s => s.f | none => t
def stL (l : List Seen) (τ : St) (i : Nat) : St := match l[i]? with | some s => s.before | none => τ

structure SeqD (P : Program) (rec : Rec) (ops : Array Oper) (rest : List Oper) (l : List Seen) (t : Tm) (τ : St) : Prop where
  len : l.length = rest.length
  step : ∀ (i : Nat) (o : Oper), rest[i]? = some o → ∃ s, l[i]? = some s ∧ s.f = frL l t i ∧ s.before = stL l τ i ∧ s.after = stL l τ (i + 1) ∧ frL l t (i + 1) = setO (frL l t i) o.dst s.v ∧ guardA ops (frL l t i) o = some s.want ∧
    (s.want = true → opA P rec (aeval (frL l t i)) (stL l τ i) o.op = some (s.v, stL l τ (i + 1))) ∧ (s.want = false → s.v = undef ∧ stL l τ (i + 1) = stL l τ i)

theorem seenA_spec {P : Program} {rec : Rec} {ops : Array Oper} : ∀ (rest : List Oper) (f : Tm) (σ : St) (l : List Seen) (t : Tm) (τ : St), seenA P rec ops rest f σ = some (l, t, τ) →
    frL l t 0 = f ∧ stL l τ 0 = σ ∧ SeqD P rec ops rest l t τ
  | [], f, σ, l, t, τ, h => by
    simp [seenA] at h; obtain ⟨rfl, rfl, rfl⟩ := h
    exact ⟨rfl, rfl, rfl, fun i o h => by simp at h⟩
  | o :: rest, f, σ, l, t, τ, h => by
    have fin : ∀ (v : Value) (want : Bool) (σ' : St) (l' : List Seen), guardA ops f o = some want → (want = true → opA P rec (aeval f) σ o.op = some (v, σ')) → (want = false → v = undef ∧ σ' = σ) →
        seenA P rec ops rest (setO f o.dst v) σ' = some (l', t, τ) → l = ⟨f, v, want, σ, σ'⟩ :: l' → frL l t 0 = f ∧ stL l τ 0 = σ ∧ SeqD P rec ops (o :: rest) l t τ := by
      intro v want σ' l' hg h1 h2 hrec hl
      obtain ⟨e1, e2, e3⟩ := seenA_spec rest _ _ _ _ _ hrec
      subst hl
      refine ⟨rfl, rfl, by simp [e3.len], fun i o' ho' => ?_⟩
      cases i with
      | zero =>
        simp at ho'; subst ho'
        have f1 : frL (⟨f, v, want, σ, σ'⟩ :: l') t (0 + 1) = setO f o.dst v := e1
        have s1 : stL (⟨f, v, want, σ, σ'⟩ :: l') τ (0 + 1) = σ' := e2
        rw [f1, s1]
        exact ⟨_, rfl, rfl, rfl, rfl, rfl, hg, h1, h2⟩
      | succ i =>
        exact e3.step i o' (by simpa using ho')
    unfold seenA at h
    split at h
    · rename_i hg
      split at h
      · rename_i v σ' hop
        rw [fV_eq, putA_eq] at h
        split at h
        · rename_i l' t' τ' hs
          simp at h; obtain ⟨rfl, rfl, rfl⟩ := h
          exact fin v true σ' l' hg (fun _ => hop) (fun h => by cases h) hs rfl
        · cases h
      · cases h
    · rename_i hg
      rw [putA_eq] at h
      split at h
      · rename_i l' t' τ' hs
        simp at h; obtain ⟨rfl, rfl, rfl⟩ := h
        exact fin undef false σ l' hg (fun h => by cases h) (fun _ => ⟨rfl, rfl⟩) hs rfl
      · cases h
    · cases h

theorem opsA_seen {P : Program} {rec : Rec} {ops : Array Oper} : ∀ (rest : List Oper) (f : Tm) (σ : St) (t : Tm) (τ : St), opsA P rec ops rest f σ = some (t, τ) → ∃ l, seenA P rec ops rest f σ = some (l, t, τ)
  | [], f, σ, t, τ, h => by simp [opsA] at h; obtain ⟨rfl, rfl⟩ := h; exact ⟨[], rfl⟩
  | o :: rest, f, σ, t, τ, h => by
    unfold opsA at h
    split at h
    · rename_i hg
      split at h
      · rename_i v σ' hop
        rw [putA_eq] at h
        obtain ⟨l, hl⟩ := opsA_seen rest _ _ _ _ h
        exact ⟨⟨f, v, true, σ, σ'⟩ :: l, by simp [seenA, hg, hop, fV_eq, putA_eq, hl]⟩
      · cases h
    · rename_i hg
      rw [putA_eq] at h
      obtain ⟨l, hl⟩ := opsA_seen rest _ _ _ _ h
      exact ⟨⟨f, undef, false, σ, σ⟩ :: l, by simp [seenA, hg, putA_eq, hl]⟩
    · cases h

theorem setO_n (f : Tm) (d : Option Tmp) (v : Value) : (setO f d v).n = f.n := by cases d <;> simp [setO]
theorem setO_nth (f : Tm) (d : Option Tmp) (v : Value) (t : Nat) : (setO f d v).nth t = if d = some t ∧ t < f.n then v else f.nth t := by
  cases d with
  | none => simp [setO]
  | some i =>
    simp only [setO, Tm.nth_set]
    by_cases h : t = i
    · subst h; simp
    · rw [if_neg (fun x => h x.1), if_neg (fun x => h (by simpa using x.1.symm))]

section
variable {P : Program} {rec : Rec} {ops : Array Oper} {l : List Seen} {t : Tm} {τ : St} (S : SeqD P rec ops ops.toList l t τ)
include S
theorem SeqD.at {i : Nat} {o : Oper} (ho : ops[i]? = some o) : ∃ s, l[i]? = some s ∧ s.f = frL l t i ∧ s.before = stL l τ i ∧ s.after = stL l τ (i + 1) ∧ frL l t (i + 1) = setO (frL l t i) o.dst s.v ∧ guardA ops (frL l t i) o = some s.want ∧
    (s.want = true → opA P rec (aeval (frL l t i)) (stL l τ i) o.op = some (s.v, stL l τ (i + 1))) ∧ (s.want = false → s.v = undef ∧ stL l τ (i + 1) = stL l τ i) := S.step i o (by simpa using ho)
theorem SeqD.frn : ∀ i, i ≤ ops.size → (frL l t i).n = (frL l t 0).n
  | 0, _ => rfl
  | i + 1, h => by
    obtain ⟨s, _, _, _, _, hf, _⟩ := S.at (i := i) (o := ops[i]) (by simp)
    rw [hf, setO_n, SeqD.frn i (by omega)]
theorem SeqD.mono : ∀ (i j : Nat), i ≤ j → j ≤ ops.size → (stL l τ i).next ≤ (stL l τ j).next := by
  intro i j hij
  induction hij with
  | refl => intro _; exact Nat.le_refl _
  | step h ih =>
    rename_i m
    intro hm
    have hm' : m + 1 ≤ ops.size := hm
    refine Nat.le_trans (ih (by omega)) ?_
    obtain ⟨s, _, _, _, _, _, _, h1, h2⟩ := S.at (i := m) (o := ops[m]) (by simp)
    cases hw : s.want with
    | true => exact opA_next (h1 hw)
    | false => rw [(h2 hw).2]; exact Nat.le_refl _
/-- Who wrote a temporary last. -/
theorem SeqD.last (t0 : Nat) (h0 : t0 < (frL l t 0).n) : ∀ j, j ≤ ops.size →
    (∃ i s, i < j ∧ (ops[i]?).bind (·.dst) = some t0 ∧ l[i]? = some s ∧ (frL l t j).nth t0 = s.v ∧ ∀ i', i < i' → i' < j → (ops[i']?).bind (·.dst) ≠ some t0) ∨
    ((∀ i, i < j → (ops[i]?).bind (·.dst) ≠ some t0) ∧ (frL l t j).nth t0 = (frL l t 0).nth t0)
  | 0, _ => .inr ⟨fun i h => absurd h (Nat.not_lt_zero _), rfl⟩
  | j + 1, hj => by
    have ho : ops[j]? = some ops[j] := by simp
    obtain ⟨s, hs, _, _, _, hf, _⟩ := S.at ho
    have hn := S.frn j (by omega)
    rw [hf]
    by_cases hd : ops[j].dst = some t0
    · refine .inl ⟨j, s, by omega, by rw [ho]; exact hd, hs, ?_, fun i' h1 h2 => by omega⟩
      rw [setO_nth, if_pos ⟨hd, by omega⟩]
    · rw [setO_nth, if_neg (fun x => hd x.1)]
      rcases SeqD.last t0 h0 j (by omega) with ⟨i, s', h1, h2, h3, h4, h5⟩ | ⟨h1, h2⟩
      · refine .inl ⟨i, s', by omega, h2, h3, h4, fun i' h6 h7 => ?_⟩
        by_cases he : i' = j
        · subst he; rw [ho]; exact hd
        · exact h5 i' h6 (by omega)
      · refine .inr ⟨fun i hi => ?_, h2⟩
        by_cases he : i = j
        · subst he; rw [ho]; exact hd
        · exact h1 i (by omega)
end
end Go.Lay
