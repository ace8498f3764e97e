/- Loops; slices that grow. -/
import Derived.Test.YthcdddbghldmiaaLayHeap
set_option linter.unusedVariables false
set_option linter.unusedSimpArgs false
namespace Go.Lay
open Go

/-! ### The code's parts -/
/-- The way to a part: 0 the first, 1 the second, .. -/
def Code.part : List Nat → Code → Code
  | 0 :: p, .seq a _ => Code.part p a
  | 1 :: p, .seq _ b => Code.part p b
  | 0 :: p, .cond _ a _ => Code.part p a
  | 1 :: p, .cond _ _ b => Code.part p b
  | 0 :: p, .block _ c => Code.part p c
  | 0 :: p, .scope c => Code.part p c
  | 0 :: p, .loop c => Code.part p c
  | 0 :: p, .rangeFunc _ _ a _ => Code.part p a
  | 1 :: p, .rangeFunc _ _ _ b => Code.part p b
  | _, c => c
def bodyOf (P : Program) (f : FuncId) : Code := match P.funcs[f]? with | some fn => (match fn.body with | some c => c | none => .skip) | none => .skip

/-! ### Loops -/
def CodeE (P : Program) (rd : Option Nat) (c : Code) (fr : Fr) (σ : St) (e : Exit) (fr' : Fr) (σ' : St) : Prop :=
  ∃ N0, ∀ N, N0 ≤ N → codeA P (runA P N) N rd c fr σ = some (e, fr', σ')
def LoopE (P : Program) (rd : Option Nat) (c : Code) (fr : Fr) (σ : St) (e : Exit) (fr' : Fr) (σ' : St) : Prop :=
  ∃ N0, ∀ N m, N0 ≤ N → N0 ≤ m → loopA (codeA P (runA P N) N rd c) m fr σ = some (e, fr', σ')
section
variable {P : Program} {rd : Option Nat} {c : Code} {fr fr' fr₁ : Fr} {σ σ' σ₁ : St} {e : Exit}
theorem LoopE.step (h : CodeE P rd c fr σ .normal fr₁ σ₁) (k : LoopE P rd c fr₁ σ₁ e fr' σ') : LoopE P rd c fr σ e fr' σ' := by
  obtain ⟨N1, h1⟩ := h
  obtain ⟨N2, h2⟩ := k
  refine ⟨N1 + N2 + 1, fun N m hN hm => ?_⟩
  obtain ⟨m, rfl⟩ : ∃ m', m = m' + 1 := ⟨m - 1, by omega⟩
  simp only [loopA, h1 N (by omega)]
  exact h2 N m (by omega) (by omega)
theorem LoopE.exit (h : CodeE P rd c fr σ e fr' σ') (he : e ≠ .normal) : LoopE P rd c fr σ e fr' σ' := by
  obtain ⟨N1, h1⟩ := h
  refine ⟨N1 + 1, fun N m hN hm => ?_⟩
  obtain ⟨m, rfl⟩ : ∃ m', m = m' + 1 := ⟨m - 1, by omega⟩
  simp only [loopA, h1 N (by omega)]
  split
  · rename_i heq; cases heq; exact absurd rfl he
  · rfl
theorem code_of (h : ∃ N0, ∀ N, N0 ≤ N → ∃ as, wpC P (runA P N) N rd c as fr σ fun e₂ f₂ s₂ _ => e₂ = e ∧ f₂ = fr' ∧ s₂ = σ') : CodeE P rd c fr σ e fr' σ' := by
  obtain ⟨N0, hN⟩ := h
  refine ⟨N0, fun N hNN => ?_⟩
  obtain ⟨as, hw⟩ := hN N hNN
  obtain ⟨e₂, f₂, s₂, _, h1, rfl, rfl, rfl⟩ := wpC_sound _ _ _ _ _ _ _ hw
  exact h1
end

/-! ### Nothing below a number has been written -/
structure Keep (n0 : Nat) (σ σ' : St) : Prop where
  next : σ.next ≤ σ'.next
  get : ∀ b, b < n0 → getB σ'.heap b = getB σ.heap b
  low : min σ.low n0 ≤ σ'.low
section
variable {P : Program} {σ σ' : St} {a : Addr} {cs : List Value} {n0 : Nat}
theorem Keep.refl (n0 : Nat) (σ : St) : Keep n0 σ σ := ⟨Nat.le_refl _, fun _ _ => rfl, Nat.min_le_left _ _⟩
theorem Keep.trans {σ₁ σ₂ σ₃ : St} (h : Keep n0 σ₁ σ₂) (k : Keep n0 σ₂ σ₃) : Keep n0 σ₁ σ₃ := ⟨Nat.le_trans h.next k.next, fun b hb => (k.get b hb).trans (h.get b hb), by have := h.low; have := k.low; omega⟩
theorem Keep.add (hn : n0 ≤ σ.next) (y : Blk) : Keep n0 σ (σ.add y) := ⟨by simp, fun b hb => by rw [St.add_get, if_neg (by omega)], by simp; omega⟩
theorem Keep.row (hn : n0 ≤ σ.next) (ds : List Value) (n : Nat) : Keep n0 σ (σ.row ds n) := Keep.add hn _
theorem Keep.put {b : Nat} (hb : n0 ≤ b) (y : Blk) : Keep n0 σ (σ.put b y) := ⟨by simp, fun c hc => by rw [St.put_get, if_neg (by omega)], by simp; omega⟩
theorem Keep.own {b : Nat} (hb : n0 ≤ b) (ds : List Value) (n : Nat) : Keep n0 σ (σ.own b ds n) := Keep.put hb _
theorem Row.keep (h : Row σ a cs) (k : Keep n0 σ σ') (hb : a.block < n0) : Row σ' a cs := ⟨by
  have := h.rd
  unfold readRow at this ⊢
  rw [k.get _ hb]; exact this, Nat.lt_of_lt_of_le h.lt k.next⟩
theorem SlP.keep {n len : Nat} {p : Option Addr} {l : List Value} (h : SlP σ n p len l) (k : Keep σ.next σ σ') : SlP σ' n p len l := by
  refine ⟨h.1, ?_⟩
  cases p with
  | none => exact h.2
  | some a =>
    have hr : Row σ a l := h.2
    exact hr.keep k hr.lt

/-! ### A slice that grows: of the call's own -/
/-- v is a slice of the call's own (its block from n0 on), of len elements with the cells cs, to which one may append. -/
inductive App (σ : St) (n0 n : Nat) : Value → Nat → List Value → Prop
  | nil : App σ n0 n (.slice none 0 0) 0 []
  | more {b s nx len : Nat} {cs : List Value} {sp : Option Nat} {log : List (Nat × Nat)} (h : getB σ.heap b = some (.cells cs n ((s, cs.length) :: log) nx false)) (hs : sp.getD 0 = s) (hb : n0 ≤ b) (hlt : b < σ.next) (hl : cs.length = len * n) (hp : 0 < len) (hsn : s < nx) :
      App σ n0 n (.slice (some ⟨b, 0, sp⟩) len (len + INEX)) len cs

/-- A type of integers. -/
def isIntD : TypeDesc → Bool
  | .int _ => true
  | _ => false
/-- What is asked of the types of an append. -/
structure AppT (P : Program) (st xt e n : Nat) : Prop where
  el : elemOfSlice P st = some (e, n)
  src : ∃ xd, P.underlying xt = some xd ∧ isIntD xd = false
  info : ∃ ei z, P.info? e = some ei ∧ ei.zero = some z ∧ ei.bytes ≤ 4096 ∧ rigidB RD z = true ∧ Nat.beq z.cells.toList.length n = true
  le : n ≤ 4096
  pos : 0 < n
def appTB (P : Program) (st xt e n : Nat) : Bool :=
  (match elemOfSlice P st with | some (e', n') => Nat.beq e e' && Nat.beq n n' | none => false) &&
  (match P.underlying xt with | some xd => !isIntD xd | none => false) &&
  (match P.info? e with | some ei => (match ei.zero with | some z => Nat.ble ei.bytes 4096 && rigidB RD z && Nat.beq z.cells.toList.length n | none => false) | none => false) &&
  Nat.ble n 4096 && Nat.blt 0 n
theorem appT_of {P : Program} {st xt e n : Nat} (h : appTB P st xt e n = true) : AppT P st xt e n := by
  unfold appTB at h
  simp only [Bool.and_eq_true] at h
  obtain ⟨⟨⟨⟨h1, h2⟩, h3⟩, h4⟩, h5⟩ := h
  refine ⟨?_, ?_, ?_, (ble_iff _ _).1 h4, (ble_iff _ _).1 h5⟩
  · split at h1
    · rename_i e' n' he
      simp only [Bool.and_eq_true] at h1
      rw [he, Nat.eq_of_beq_eq_true h1.1, Nat.eq_of_beq_eq_true h1.2]
    · cases h1
  · split at h2
    · rename_i xd hx; exact ⟨xd, hx, by simpa using h2⟩
    · cases h2
  · split at h3
    · rename_i ei hi
      split at h3
      · rename_i z hz
        simp only [Bool.and_eq_true] at h3
        exact ⟨ei, z, hi, hz, (ble_iff _ _).1 h3.1.1, h3.1.2, h3.2⟩
      · cases h3
    · cases h3

theorem capLow_inex (x : Nat) : capLow (x + INEX) = x := by unfold capLow; rw [if_pos (by omega)]; omega
theorem capExact_inex (x : Nat) : capExact (x + INEX) = false := by rw [Bool.eq_false_iff]; intro e; have := (capExact_iff _).1 e; omega
theorem inex_pos : 0 < INEX := by unfold INEX; decide

theorem append_one {st xt e n m k len : Nat} {v : Value} {a2 : Addr} {xs : List Value} (T : AppT P st xt e n) (hA : App σ n0 n v len cs) (hr : Row σ a2 xs) (hm : xs.length = m * n) (hp : 0 < m) (hroom : len + m ≤ 1073741824) (hc : xs.all cellB = true) (hn0 : n0 ≤ σ.next) :
    ∃ v' σ', appendA P st xt v (.slice (some a2) m k) σ = some (v', σ') ∧ App σ' n0 n v' (len + m) (cs ++ xs) ∧ Keep n0 σ σ' := by
  obtain ⟨xd, hxd, hxi⟩ := T.src
  obtain ⟨ei, z, hei, hz, hby, hrz, hzl⟩ := T.info
  have hrd := hr.rd
  rw [hm] at hrd
  have hsrc : appSrc σ n z xd (.slice (some a2) m k) = some (m, xs) := by
    unfold appSrc
    cases xd with
    | int _ => cases hxi
    | _ => simp only [srcCells, hrd, Option.map_some]
  have hcond : (roomy (len + m) n ei.bytes && xs.all cellB && Nat.beq xs.length (m * n) && rigidB RD z && Nat.beq z.cells.toList.length n) = true := by
    unfold roomy
    rw [(ble_iff _ _).2 hroom, (ble_iff _ _).2 T.le, (ble_iff _ _).2 hby, hc, hm, Nat.beq_refl, hrz, hzl]; rfl
  have hble : ∀ x : Nat, Nat.ble (x + m) x = false := fun x => by rw [Bool.eq_false_iff]; intro e; have := (ble_iff _ _).1 e; omega
  cases hA with
  | nil =>
    refine ⟨.slice (some ⟨σ.next, 0, none⟩) (0 + m) (0 + m + INEX), σ.add (.cells xs n [(0, xs.length)] 1 false), ?_, ?_, Keep.add hn0 _⟩
    · have hc0 : capLow 0 = 0 := by unfold capLow; have := inex_pos; rw [if_neg (by omega)]
      have hc1 : capExact 0 = true := (capExact_iff 0).2 inex_pos
      unfold appendA
      simp only [T.el, hxd, hei, hz, hsrc, hcond, cond_true, appRows, hc0, hble, cond_false, hc1, Nat.beq_refl, newRow_eq]
    · have e1 : 0 + m = m := Nat.zero_add m
      rw [e1, List.nil_append]
      exact .more (b := σ.next) (s := 0) (nx := 1) (log := []) (by rw [St.add_get, if_pos rfl]) rfl hn0 (by simp) hm hp (by omega)
  | @more b s nx _ _ sp log h hs hb hlt hl hpp hsn =>
    have hex : extOf ((s, cs.length) :: log) (stampOf ⟨b, 0, sp⟩) = some cs.length := by
      have : Nat.beq s (stampOf ⟨b, 0, sp⟩) = true := by unfold stampOf; simp only [hs]; exact Nat.beq_refl _
      simp only [extOf, this, cond_true]
    have hlf : logFrom ((s, cs.length) :: log) (stampOf ⟨b, 0, sp⟩) = (s, cs.length) :: log := by
      have : Nat.beq s (stampOf ⟨b, 0, sp⟩) = true := by unfold stampOf; simp only [hs]; exact Nat.beq_refl _
      simp only [logFrom, this, cond_true]
    have hg : (Nat.beq len len && Nat.beq (0 + len * n) cs.length && Nat.beq n n && !false && Nat.blt 0 n) = true := by
      rw [Nat.beq_refl, Nat.zero_add, hl, Nat.beq_refl, Nat.beq_refl, (blt_iff 0 n).2 T.pos]; rfl
    refine ⟨.slice (some ⟨b, 0, some nx⟩) (len + m) (len + m + INEX), σ.put b (.cells (cs.take cs.length ++ xs) n ((nx, cs.length + m * n) :: (s, cs.length) :: log) (nx + 1) false), ?_, ?_, Keep.put hb _⟩
    · unfold appendA
      simp only [T.el, hxd, hei, hz, hsrc, hcond, cond_true, appRows, capLow_inex, hble, cond_false, capExact_inex, appGrow, h, hex, hg, fVs_eq, fN_eq, St.write_eq, hlf]
    · refine .more (b := b) (s := nx) (nx := nx + 1) (log := (s, cs.length) :: log) ?_ rfl hb hlt ?_ (by omega) (by omega)
      · rw [St.put_get, if_pos rfl, List.take_length]
        simp [hm]
      · simp [hl, hm, Nat.add_mul]
/-- What has been appended reads as a slice. -/
theorem App.sl {v : Value} {n len : Nat} (h : App σ n0 n v len cs) : ∃ p cap, v = .slice p len cap ∧ SlP σ n p len cs := by
  cases h with
  | nil => exact ⟨none, 0, rfl, SlP.nil _ _⟩
  | @more b s nx _ _ sp log h hs hb hlt hl hp hsn =>
    refine ⟨_, _, rfl, hl, ?_, hlt⟩
    have hex : extOf ((s, cs.length) :: log) (stampOf ⟨b, 0, sp⟩) = some cs.length := by
      have : Nat.beq s (stampOf ⟨b, 0, sp⟩) = true := by unfold stampOf; simp only [hs]; exact Nat.beq_refl _
      simp only [extOf, this, cond_true]
    have h2 : Nat.ble (0 + cs.length) cs.length = true := (ble_iff _ _).2 (by omega)
    unfold readRow
    simp only [h, hex, h2, cond_true, List.drop_zero, List.take_length]
theorem App.keep {v : Value} {n len : Nat} (h : App σ n0 n v len cs) (hk : Le σ σ') : App σ' n0 n v len cs := by
  cases h with
  | nil => exact .nil
  | more h hs hb hlt hl hp hsn => exact .more (by rw [hk.get _ hlt]; exact h) hs hb (Nat.lt_of_lt_of_le hlt hk.next) hl hp hsn
theorem App.own {v : Value} {n len c m : Nat} {ds : List Value} (h : App σ n0 n v len cs) (hc : ∀ b o s, v = .slice (some ⟨b, o, s⟩) len (len + INEX) → b ≠ c) : App (σ.own c ds m) n0 n v len cs := by
  cases h with
  | nil => exact .nil
  | more h hs hb hlt hl hp hsn =>
    refine .more (σ := σ.own c ds m) (by
      show getB (σ.put _ _).heap _ = _
      rw [St.put_get, if_neg (hc _ _ _ rfl)]; exact h) hs hb hlt hl hp hsn

/-! ### Elements -/
def flat (vs : List Value) : List Value := vs.flatMap fun v => v.cells.toList
/-- Values of a type whose size is n. -/
def elOk (P : Program) (t : TypeId) (n : Nat) (v : Value) : Prop :=
  (aggT P t = some false ∧ n = 1 ∧ v.cells.toList = [v]) ∨ (aggT P t = some true ∧ sizeT P t = some n ∧ ∃ cs : List Value, v = .agg ⟨cs⟩ ∧ cs.length = n)
theorem elOk.len {t n : Nat} {v : Value} (h : elOk P t n v) : v.cells.toList.length = n := by
  rcases h with ⟨_, h1, h2⟩ | ⟨_, _, ds, rfl, h⟩
  · rw [h2, h1]; rfl
  · exact h
theorem flat_len {t n : Nat} : ∀ {vs : List Value}, (∀ v ∈ vs, elOk P t n v) → (flat vs).length = vs.length * n
  | [], _ => by simp [flat]
  | v :: vs, h => by
    have h1 := (h v (by simp)).len
    have h2 := flat_len (vs := vs) (fun x hx => h x (by simp [hx]))
    unfold flat at h2 ⊢
    rw [List.flatMap_cons, List.length_append, h1, h2, List.length_cons, Nat.add_mul]; omega
theorem flat_get {t n : Nat} : ∀ {vs : List Value} {i : Nat} {v : Value}, (∀ v ∈ vs, elOk P t n v) → vs[i]? = some v → ((flat vs).drop (i * n)).take n = v.cells.toList ∧ i * n + n ≤ (flat vs).length
  | [], i, v, _, h => by simp at h
  | x :: vs, 0, v, hv, h => by
    simp at h; subst h
    have h1 := (hv x (by simp)).len
    unfold flat
    rw [List.flatMap_cons, Nat.zero_mul, List.drop_zero, Nat.zero_add, List.length_append]
    exact ⟨by rw [← h1, List.take_left'  rfl], by omega⟩
  | x :: vs, i + 1, v, hv, h => by
    have h1 := (hv x (by simp)).len
    have ih := flat_get (vs := vs) (i := i) (v := v) (fun x hx => hv x (by simp [hx])) (by simpa using h)
    unfold flat at ih ⊢
    rw [List.flatMap_cons, Nat.add_mul, Nat.one_mul, List.length_append]
    refine ⟨?_, by omega⟩
    rw [show i * n + n = x.cells.toList.length + i * n by omega, List.drop_append]
    simp only [Nat.add_sub_cancel_left]
    rw [List.drop_of_length_le (by omega), List.nil_append]
    exact ih.1
theorem Row.el {vs : List Value} {t n i : Nat} {v : Value} (h : Row σ a (flat vs)) (he : ∀ v ∈ vs, elOk P t n v) (hv : vs[i]? = some v) : loadA P σ t (aadd a (i * n)) = some v := by
  obtain ⟨h1, h2⟩ := flat_get he hv
  rcases he v (List.mem_of_getElem? hv) with ⟨g1, g2, g3⟩ | ⟨g1, g2, ds, rfl, g3⟩
  · subst g2
    refine h.load1 g1 ?_
    rw [g3] at h1
    have := congrArg (fun l => l[0]?) h1
    simp only [List.getElem?_cons_zero] at this
    rw [List.getElem?_take_of_lt (by omega), List.getElem?_drop] at this
    simpa using this
  · exact h.loadN g1 g2 h1 g3 h2
/-- A slice of values. -/
def SlV (P : Program) (σ : St) (t n : Nat) (p : Option Addr) (len : Nat) (vs : List Value) : Prop := SlP σ n p len (flat vs) ∧ vs.length = len ∧ ∀ v ∈ vs, elOk P t n v
theorem SlV.le {t n len : Nat} {p : Option Addr} {vs : List Value} (h : SlV P σ t n p len vs) (k : Le σ σ') : SlV P σ' t n p len vs := ⟨h.1.le k, h.2⟩
theorem SlV.row {t n len : Nat} {p : Option Addr} {vs : List Value} (h : SlV P σ t n p len vs) {ds : List Value} {m : Nat} : SlV P (σ.row ds m) t n p len vs := ⟨h.1.row, h.2⟩
theorem SlV.add {t n len : Nat} {p : Option Addr} {vs : List Value} (h : SlV P σ t n p len vs) {y : Blk} : SlV P (σ.add y) t n p len vs := ⟨h.1.add, h.2⟩
theorem SlV.re {t n len : Nat} {p : Option Addr} {vs : List Value} (h : SlV P σ t n p len vs) : SlV P σ.re t n p len vs := ⟨h.1.re, h.2⟩
theorem SlV.keep {t n len : Nat} {p : Option Addr} {vs : List Value} (h : SlV P σ t n p len vs) (k : Keep σ.next σ σ') : SlV P σ' t n p len vs := ⟨h.1.keep k, h.2⟩
theorem SlV.own {t n len : Nat} {p : Option Addr} {vs : List Value} (h : SlV P σ t n p len vs) {b m : Nat} {ds : List Value} (hb : σ.next ≤ b ∨ ∀ a, p = Option.some a → a.block ≠ b) : SlV P (σ.own b ds m) t n p len vs := ⟨h.1.own hb, h.2⟩
theorem SlV.some {t n len i : Nat} {p : Option Addr} {vs : List Value} (h : SlV P σ t n p len vs) (hi : i < len) : ∃ a, p = .some a ∧ Row σ a (flat vs) := h.1.some (by omega)
theorem SlV.at {t n len i : Nat} {p : Option Addr} {vs : List Value} {a : Addr} {v : Value} (h : SlV P σ t n p len vs) (hp : p = Option.some a) (hv : vs[i]? = Option.some v) : loadA P σ t (aadd a (Int.toNat (i : Int) * n)) = Option.some v := by
  subst hp
  have hr : Row σ a (flat vs) := h.1.2
  rw [Int.toNat_natCast]
  exact hr.el h.2.2 hv
theorem elOk_int {t : Nat} (h : aggT P t = some false) (k : IntKind) (n : Int) : elOk P t 1 (.int k n) := .inl ⟨h, rfl, rfl⟩

/-! ### The first of some answers -/
def firstTrue : List Bool → Nat → Int
  | [], _ => -1
  | true :: _, i => i
  | false :: l, i => firstTrue l (i + 1)
theorem firstTrue_any : ∀ (l : List Bool) (i : Nat), leI 0 (firstTrue l i) = l.any id
  | [], _ => rfl
  | true :: l, i => by simp only [firstTrue, List.any_cons, id, Bool.true_or]; exact (leI_iff _ _).2 (Int.natCast_nonneg i)
  | false :: l, i => by simp only [firstTrue, List.any_cons, id, Bool.false_or]; exact firstTrue_any l (i + 1)
end
end Go.Lay
