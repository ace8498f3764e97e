/- The relation between an abstract state and a world: what an abstract address stands for; when a value, a block, a frame stands for another. -/
import Derived.Test.YthcdddbghldmiaaLayAbs
set_option linter.unusedVariables false
set_option linter.unusedSimpArgs false
namespace Go.Lay
open Go

/-! ### Trees -/
theorem Tr.setP_eq {α : Type} : ∀ (p : List Bool) {β : Type} (t : Tr α) (v : Option α) (k : Tr α → β), Tr.setP p t v k = k (Tr.setP p t v id)
  | [], _, .leaf, _, _ => rfl
  | [], _, .node _ _ _, _, _ => rfl
  | b :: p, _, .leaf, v, k => by
    cases b
    · have h1 := Tr.setP_eq p (.leaf : Tr α) v (fun y => k (Tr.node none y .leaf))
      have h2 := Tr.setP_eq p (.leaf : Tr α) v (fun y => (id (Tr.node none y .leaf) : Tr α))
      exact h1.trans (congrArg k h2.symm)
    · have h1 := Tr.setP_eq p (.leaf : Tr α) v (fun y => k (Tr.node none .leaf y))
      have h2 := Tr.setP_eq p (.leaf : Tr α) v (fun y => (id (Tr.node none .leaf y) : Tr α))
      exact h1.trans (congrArg k h2.symm)
  | b :: p, _, .node x l r, v, k => by
    cases b
    · have h1 := Tr.setP_eq p (l : Tr α) v (fun y => k (Tr.node x y r))
      have h2 := Tr.setP_eq p (l : Tr α) v (fun y => (id (Tr.node x y r) : Tr α))
      exact h1.trans (congrArg k h2.symm)
    · have h1 := Tr.setP_eq p (r : Tr α) v (fun y => k (Tr.node x l y))
      have h2 := Tr.setP_eq p (r : Tr α) v (fun y => (id (Tr.node x l y) : Tr α))
      exact h1.trans (congrArg k h2.symm)

theorem Tr.getP_leaf {α : Type} (p : List Bool) : Tr.getP p (.leaf : Tr α) = none := by cases p <;> rfl
theorem Tr.setP_leaf_cons {α : Type} (b : Bool) (p : List Bool) (v : Option α) :
    Tr.setP (b :: p) .leaf v id = bif b then .node none .leaf (Tr.setP p .leaf v id) else .node none (Tr.setP p .leaf v id) .leaf := by
  cases b <;> simp only [Tr.setP, cond_false, cond_true] <;> rw [Tr.setP_eq] <;> rfl
theorem Tr.setP_node_cons {α : Type} (b : Bool) (p : List Bool) (x : Option α) (l r : Tr α) (v : Option α) :
    Tr.setP (b :: p) (.node x l r) v id = bif b then .node x l (Tr.setP p r v id) else .node x (Tr.setP p l v id) r := by
  cases b <;> simp only [Tr.setP, cond_false, cond_true] <;> rw [Tr.setP_eq] <;> rfl

theorem Tr.getP_setP_same {α : Type} : ∀ (p : List Bool) (t : Tr α) (v : Option α), Tr.getP p (Tr.setP p t v id) = v
  | [], .leaf, _ => rfl
  | [], .node _ _ _, _ => rfl
  | b :: p, .leaf, v => by rw [Tr.setP_leaf_cons]; cases b <;> simp only [cond_false, cond_true, Tr.getP] <;> exact Tr.getP_setP_same p .leaf v
  | b :: p, .node x l r, v => by rw [Tr.setP_node_cons]; cases b <;> simp only [cond_false, cond_true, Tr.getP] <;> exact Tr.getP_setP_same p _ v
theorem Tr.getP_setP_ne {α : Type} : ∀ (p q : List Bool) (t : Tr α) (v : Option α), p ≠ q → Tr.getP q (Tr.setP p t v id) = Tr.getP q t
  | [], [], _, _, h => absurd rfl h
  | [], c :: q, .leaf, v, _ => by cases c <;> simp [Tr.setP, Tr.getP, Tr.getP_leaf]
  | [], c :: q, .node _ _ _, v, _ => by cases c <;> simp [Tr.setP, Tr.getP]
  | b :: p, [], .leaf, v, _ => by rw [Tr.setP_leaf_cons]; cases b <;> simp [Tr.getP]
  | b :: p, [], .node _ _ _, v, _ => by rw [Tr.setP_node_cons]; cases b <;> simp [Tr.getP]
  | b :: p, c :: q, .leaf, v, h => by
    rw [Tr.setP_leaf_cons]
    by_cases hbc : b = c
    · subst hbc
      have hpq : p ≠ q := fun e => h (by rw [e])
      have := Tr.getP_setP_ne p q (.leaf : Tr α) v hpq
      cases b <;> simp only [cond_false, cond_true, Tr.getP] <;> rw [this, Tr.getP_leaf]
    · cases b <;> cases c <;> simp_all [Tr.getP, Tr.getP_leaf]
  | b :: p, c :: q, .node x l r, v, h => by
    rw [Tr.setP_node_cons]
    by_cases hbc : b = c
    · subst hbc
      have hpq : p ≠ q := fun e => h (by rw [e])
      cases b <;> simp only [cond_false, cond_true, Tr.getP]
      · exact Tr.getP_setP_ne p q l v hpq
      · exact Tr.getP_setP_ne p q r v hpq
    · cases b <;> cases c <;> simp_all [Tr.getP]

theorem bits_inj : ∀ (f i g j : Nat), i ≤ f → j ≤ g → bits f i = bits g j → i = j := by
  intro f
  induction f with
  | zero =>
    intro i g j hi hj h
    have : i = 0 := by omega
    subst this
    cases g with
    | zero => omega
    | succ g =>
      by_cases hj0 : j = 0
      · exact hj0.symm
      · have : Nat.beq j 0 = false := by rw [Bool.eq_false_iff]; intro e; exact hj0 (Nat.eq_of_beq_eq_true e)
        simp [bits, this] at h
  | succ f ih =>
    intro i g j hi hj h
    by_cases hi0 : i = 0
    · subst hi0
      cases g with
      | zero => omega
      | succ g =>
        by_cases hj0 : j = 0
        · exact hj0.symm
        · have : Nat.beq j 0 = false := by rw [Bool.eq_false_iff]; intro e; exact hj0 (Nat.eq_of_beq_eq_true e)
          simp [bits, this] at h
    · have e1 : Nat.beq i 0 = false := by rw [Bool.eq_false_iff]; intro e; exact hi0 (Nat.eq_of_beq_eq_true e)
      cases g with
      | zero =>
        have : j = 0 := by omega
        subst this
        simp [bits, e1] at h
      | succ g =>
        by_cases hj0 : j = 0
        · subst hj0; simp [bits, e1] at h
        · have e2 : Nat.beq j 0 = false := by rw [Bool.eq_false_iff]; intro e; exact hj0 (Nat.eq_of_beq_eq_true e)
          simp only [bits, e1, e2, cond_false, List.cons.injEq] at h
          have h2 := ih (i / 2) g (j / 2) (by omega) (by omega) h.2
          have h1 : (i % 2 = 1) ↔ (j % 2 = 1) := by
            have := h.1
            constructor <;> intro hh
            · have : Nat.beq (j % 2) 1 = true := by rw [← this, hh]; rfl
              exact Nat.eq_of_beq_eq_true this
            · have : Nat.beq (i % 2) 1 = true := by rw [this, hh]; rfl
              exact Nat.eq_of_beq_eq_true this
          omega
theorem way_inj {i j : Nat} (h : way i = way j) : i = j := bits_inj i i j j (Nat.le_refl _) (Nat.le_refl _) h

theorem getB_set (h : Tr Blk) (b : Nat) (y : Option Blk) (c : Nat) : getB (Tr.setP (way b) h y id) c = if c = b then y else getB h c := by
  by_cases e : c = b
  · subst e; rw [if_pos rfl]; exact Tr.getP_setP_same _ _ _
  · rw [if_neg e]; exact Tr.getP_setP_ne _ _ _ _ (fun h => e (way_inj h).symm)

theorem ble_iff (a b : Nat) : Nat.ble a b = true ↔ a ≤ b := by rw [Nat.ble_eq]
theorem cond_ble (a b : Nat) : (bif Nat.ble a b then a else b) = min a b := by
  cases h : Nat.ble a b
  · have : ¬ a ≤ b := fun e => by rw [(ble_iff a b).2 e] at h; cases h
    simp; omega
  · have := (ble_iff a b).1 h; simp; omega

def St.put (σ : St) (b : Nat) (y : Blk) : St := ⟨Tr.setP (way b) σ.heap (some y) id, σ.next, min σ.low b⟩
def St.add (σ : St) (y : Blk) : St := ⟨Tr.setP (way σ.next) σ.heap (some y) id, σ.next + 1, σ.low⟩
def St.shut (σ : St) (b : Nat) : St := ⟨Tr.setP (way b) σ.heap none id, σ.next, min σ.low b⟩
theorem St.write_eq {β : Type} (σ : St) (b : Nat) (y : Blk) (k : St → β) : σ.write b y k = k (σ.put b y) := by
  cases σ; simp only [St.write, St.put]; rw [Tr.setP_eq, fN_eq, cond_ble]
theorem St.new_eq {β : Type} (σ : St) (y : Blk) (k : Nat → St → β) : σ.new y k = k σ.next (σ.add y) := by
  cases σ; simp only [St.new, St.add]; rw [Tr.setP_eq, fN_eq]
theorem St.drop_eq {β : Type} (σ : St) (b : Nat) (k : St → β) : σ.drop b k = k (σ.shut b) := by
  cases σ; simp only [St.drop, St.shut]; rw [Tr.setP_eq, fN_eq, cond_ble]
@[simp] theorem St.put_next (σ : St) (b : Nat) (y : Blk) : (σ.put b y).next = σ.next := rfl
@[simp] theorem St.put_low (σ : St) (b : Nat) (y : Blk) : (σ.put b y).low = min σ.low b := rfl
@[simp] theorem St.add_next (σ : St) (y : Blk) : (σ.add y).next = σ.next + 1 := rfl
@[simp] theorem St.add_low (σ : St) (y : Blk) : (σ.add y).low = σ.low := rfl
@[simp] theorem St.shut_next (σ : St) (b : Nat) : (σ.shut b).next = σ.next := rfl
@[simp] theorem St.shut_low (σ : St) (b : Nat) : (σ.shut b).low = min σ.low b := rfl
theorem St.put_get (σ : St) (b : Nat) (y : Blk) (c : Nat) : getB (σ.put b y).heap c = if c = b then some y else getB σ.heap c := getB_set _ _ _ _
theorem St.add_get (σ : St) (y : Blk) (c : Nat) : getB (σ.add y).heap c = if c = σ.next then some y else getB σ.heap c := getB_set _ _ _ _
theorem St.shut_get (σ : St) (b c : Nat) : getB (σ.shut b).heap c = if c = b then none else getB σ.heap c := getB_set _ _ _ _

def Tm.set (f : Tm) (i : Nat) (v : Value) : Tm := if i < f.n then ⟨f.n, Tr.setP (way i) f.t (some v) id⟩ else f
theorem Tm.put_eq {β : Type} (f : Tm) (i : Nat) (v : Value) (k : Tm → β) : f.put i v k = k (f.set i v) := by
  cases f with | mk n t =>
  simp only [Tm.put, Tm.set]
  by_cases h : i < n
  · have : Nat.blt i n = true := (ble_iff _ _).2 h
    rw [this, cond_true, fV_eq, Tr.setP_eq, if_pos h]
  · have : Nat.blt i n = false := by rw [Bool.eq_false_iff]; exact fun e => h ((ble_iff _ _).1 e)
    rw [this, cond_false, if_neg h]
theorem Tm.nth_set (f : Tm) (i : Nat) (v : Value) (j : Nat) : (f.set i v).nth j = if j = i ∧ i < f.n then v else f.nth j := by
  unfold Tm.set
  by_cases h : i < f.n
  · rw [if_pos h]
    by_cases e : j = i
    · subst e; simp only [Tm.nth, Tr.getP_setP_same]; simp [h]
    · rw [if_neg (fun x => e x.1)]
      simp only [Tm.nth]; rw [Tr.getP_setP_ne _ _ _ _ (fun x => e (way_inj x).symm)]
  · rw [if_neg h, if_neg (fun x => h x.2)]
@[simp] theorem Tm.set_n (f : Tm) (i : Nat) (v : Value) : (f.set i v).n = f.n := by unfold Tm.set; split <;> rfl

/-! ### What addresses stand for -/
structure Loc where
  c : Nat
  lo : Nat
  base : Nat
  z : Nat

structure Inj where
  loc : Nat → Nat → Option Loc
  own : Nat → Option Nat
  csz : Nat → Nat

def Loc.at (L : Loc) (off : Nat) : Addr := ⟨L.c, L.base + (off - L.lo), none⟩

def capR (cap cap' : Nat) : Prop := if capExact cap then cap' = cap else capLow cap ≤ cap'

inductive FnR (ι : Inj) : Fn → Fn → Prop
  | func (f : FuncId) : FnR ι (.func f) (.func f)
  | yield {l : Nat} {L : Loc} (h : ι.loc l 0 = some L) : FnR ι (.yield l) (.yield L.c)

inductive VR (ι : Inj) : Value → Value → Prop
  | any {v' : Value} (h : cellB v' = true) : VR ι POI v'
  | atom {v : Value} (h : atomB v = true) : VR ι v v
  | ptr {a : Addr} {L : Loc} (h : ι.loc a.block (stampOf a) = some L) (hlo : L.lo ≤ a.off) : VR ι (.pointer (some a)) (.pointer (some (L.at a.off)))
  | slice {a A : Addr} {L : Loc} {len cap cap' : Nat} (h : ι.loc a.block (stampOf a) = some L) (hlo : L.lo ≤ a.off) (hA : A = L.at a.off ∨ (len = 0 ∧ cap = 0 ∧ cap' = 0)) (hc : capR cap cap')
      (hsz : L.base + (a.off - L.lo) + cap' * L.z ≤ ι.csz L.c) : VR ι (.slice (some a) len cap) (.slice (some A) len cap')
  | map {b : Nat} {L : Loc} (h : ι.loc b 0 = some L) : VR ι (.map (some b)) (.map (some L.c))
  | func {fn fn' : Fn} {f f' c c' : Array Value} (hf : FnR ι fn fn') (s1 : f.size = f'.size) (h1 : ∀ (i : Nat) (v v' : Value), f[i]? = some v → f'[i]? = some v' → VR ι v v')
      (s2 : c.size = c'.size) (h2 : ∀ (i : Nat) (v v' : Value), c[i]? = some v → c'[i]? = some v' → VR ι v v') : VR ι (.func fn f c) (.func fn' f' c')
  | iface {t : TypeId} {v v' : Value} (h : VR ι v v') : VR ι (.iface t v) (.iface t v')
  | agg {c c' : Array Value} (s : c.size = c'.size) (h : ∀ (i : Nat) (v v' : Value), c[i]? = some v → c'[i]? = some v' → VR ι v v') : VR ι (.agg c) (.agg c')
  | tuple {c c' : Array Value} (s : c.size = c'.size) (h : ∀ (i : Nat) (v v' : Value), c[i]? = some v → c'[i]? = some v' → VR ι v v') : VR ι (.tuple c) (.tuple c')

/-- Lists, one by one. -/
inductive VRs (ι : Inj) : List Value → List Value → Prop
  | nil : VRs ι [] []
  | cons {v v' : Value} {l l' : List Value} (h : VR ι v v') (t : VRs ι l l') : VRs ι (v :: l) (v' :: l')

theorem VRs.length {ι : Inj} {l l' : List Value} (h : VRs ι l l') : l.length = l'.length := by
  induction h with
  | nil => rfl
  | cons _ _ ih => simp [ih]
theorem VRs.get {ι : Inj} {l l' : List Value} (h : VRs ι l l') : ∀ (i : Nat) (v v' : Value), l[i]? = some v → l'[i]? = some v' → VR ι v v' := by
  induction h with
  | nil => intro i v v' h; simp at h
  | cons h _ ih =>
    intro i v v' h1 h2
    cases i with
    | zero => simp at h1 h2; subst h1; subst h2; exact h
    | succ i => simp at h1 h2; exact ih i v v' h1 h2
theorem VRs.of_get {ι : Inj} : ∀ {l l' : List Value}, l.length = l'.length → (∀ (i : Nat) (v v' : Value), l[i]? = some v → l'[i]? = some v' → VR ι v v') → VRs ι l l'
  | [], [], _, _ => .nil
  | [], _ :: _, h, _ => by simp at h
  | _ :: _, [], h, _ => by simp at h
  | v :: l, v' :: l', h, hg => .cons (hg 0 v v' (by simp) (by simp)) (VRs.of_get (by simpa using h) (fun i x x' h1 h2 => hg (i + 1) x x' (by simpa using h1) (by simpa using h2)))
theorem VRs.append {ι : Inj} {a a' b b' : List Value} (h : VRs ι a a') (k : VRs ι b b') : VRs ι (a ++ b) (a' ++ b') := by
  induction h with
  | nil => exact k
  | cons h _ ih => exact .cons h ih
theorem VRs.get_some {ι : Inj} {l l' : List Value} (h : VRs ι l l') {i : Nat} {v : Value} (hi : l[i]? = some v) : ∃ v', l'[i]? = some v' ∧ VR ι v v' := by
  have hl : i < l'.length := by rw [← h.length]; exact (List.getElem?_eq_some_iff.1 hi).1
  exact ⟨l'[i], by simp [hl], h.get i v _ hi (by simp [hl])⟩
theorem VRs.take {ι : Inj} {l l' : List Value} (h : VRs ι l l') (n : Nat) : VRs ι (l.take n) (l'.take n) := by
  induction h generalizing n with
  | nil => simp; exact .nil
  | cons h _ ih => cases n with | zero => exact .nil | succ n => exact .cons h (ih n)
theorem VRs.drop {ι : Inj} {l l' : List Value} (h : VRs ι l l') (n : Nat) : VRs ι (l.drop n) (l'.drop n) := by
  induction h generalizing n with
  | nil => simp; exact .nil
  | cons h t ih => cases n with | zero => exact .cons h t | succ n => exact ih n
theorem VR.agg' {ι : Inj} {c c' : List Value} (h : VRs ι c c') : VR ι (.agg ⟨c⟩) (.agg ⟨c'⟩) := .agg (by simpa using h.length) (fun i v v' h1 h2 => h.get i v v' (by simpa using h1) (by simpa using h2))
theorem VR.tuple' {ι : Inj} {c c' : List Value} (h : VRs ι c c') : VR ι (.tuple ⟨c⟩) (.tuple ⟨c'⟩) := .tuple (by simpa using h.length) (fun i v v' h1 h2 => h.get i v v' (by simpa using h1) (by simpa using h2))
theorem arrR {ι : Inj} {c c' : Array Value} (s : c.size = c'.size) (h : ∀ (i : Nat) (v v' : Value), c[i]? = some v → c'[i]? = some v' → VR ι v v') : VRs ι c.toList c'.toList :=
  VRs.of_get (by simpa using s) (fun i v v' h1 h2 => h i v v' (by simpa using h1) (by simpa using h2))

/-! ### What is the same on both sides -/
theorem VR.rigid {ι : Inj} : ∀ (n : Nat) {v v' : Value}, rigidB n v = true → VR ι v v' → v = v' := by
  intro n
  induction n with
  | zero => intro v v' h; simp [rigidB] at h
  | succ n ih =>
    intro v v' hr h
    have arr : ∀ {c c' : Array Value}, c.size = c'.size → (∀ (i : Nat) (v v' : Value), c[i]? = some v → c'[i]? = some v' → VR ι v v') → c.toList.all (rigidB n) = true → c = c' := by
      intro c c' s hh hall
      apply Array.ext s
      intro i h1 h2
      have hm : c[i] ∈ c.toList := by simp
      exact ih (List.all_eq_true.1 hall _ hm) (hh i _ _ (by simp [h1]) (by simp [h2]))
    cases h with
    | any h => simp [rigidB, atomB] at hr
    | atom h => rfl
    | ptr h _ => simp [rigidB, atomB] at hr
    | slice _ _ _ _ _ => simp [rigidB, atomB] at hr
    | map h => simp [rigidB, atomB] at hr
    | func hf s1 h1 s2 h2 =>
      cases hf with
      | func f =>
        simp only [rigidB, Bool.and_eq_true] at hr
        rw [arr s1 h1 hr.1, arr s2 h2 hr.2]
      | yield h => simp [rigidB, atomB] at hr
    | iface h => simp only [rigidB] at hr; rw [ih hr h]
    | agg s h => simp only [rigidB] at hr; rw [arr s h hr]
    | tuple s h => simp only [rigidB] at hr; rw [arr s h hr]

theorem VR.refl_rigid {ι : Inj} : ∀ (n : Nat) {v : Value}, rigidB n v = true → VR ι v v := by
  intro n
  induction n with
  | zero => intro v h; simp [rigidB] at h
  | succ n ih =>
    intro v hr
    have arr : ∀ {c : Array Value}, c.toList.all (rigidB n) = true → (∀ (i : Nat) (v v' : Value), c[i]? = some v → c[i]? = some v' → VR ι v v') := by
      intro c hall i v v' h1 h2
      rw [h1] at h2; cases h2
      exact ih (List.all_eq_true.1 hall _ (by simp [Array.mem_of_getElem? h1]))
    cases v with
    | agg cs => simp only [rigidB] at hr; exact .agg rfl (arr hr)
    | tuple cs => simp only [rigidB] at hr; exact .tuple rfl (arr hr)
    | iface t x => simp only [rigidB] at hr; exact .iface (ih hr)
    | func fn f c =>
      cases fn with
      | func g => simp only [rigidB, Bool.and_eq_true] at hr; exact .func (.func _) rfl (arr hr.1) rfl (arr hr.2)
      | _ => simp [rigidB, atomB] at hr
    | _ => exact .atom (by simpa [rigidB] using hr)

theorem VR.undef {ι : Inj} : VR ι undef undef := .tuple rfl (fun i v v' h => by simp at h)
theorem VR.int {ι : Inj} (k : IntKind) (n : Int) : VR ι (.int k n) (.int k n) := .atom rfl
theorem VR.bool {ι : Inj} (b : Bool) : VR ι (.bool b) (.bool b) := .atom rfl

theorem VR.cellB {ι : Inj} {v v' : Value} (h : VR ι v v') : cellB v = cellB v' := by
  cases h with
  | any h => simpa [Lay.cellB] using h.symm
  | atom h => rfl
  | _ => rfl
/-- The cells of a value. -/
theorem VR.cells {ι : Inj} {v v' : Value} (h : VR ι v v') : VRs ι v.cells.toList v'.cells.toList := by
  have one : ∀ {v v' : Value}, VR ι v v' → Lay.cellB v = true → v.cells.toList = [v] ∧ v'.cells.toList = [v'] := by
    intro v v' h hc
    have h2 := h.cellB
    rw [hc] at h2
    constructor
    · cases v <;> first | rfl | simp [Lay.cellB] at hc
    · cases v' <;> first | rfl | simp [Lay.cellB] at h2
  by_cases hc : Lay.cellB v = true
  · obtain ⟨e1, e2⟩ := one h hc
    rw [e1, e2]; exact .cons h .nil
  · cases h with
    | any h => simp [Lay.cellB] at hc
    | agg s h => exact arrR s h
    | atom h => cases v <;> simp_all [Lay.cellB, atomB]
    | tuple s h => exact .cons (.tuple s h) .nil
    | _ => simp [Lay.cellB] at hc
theorem VRs.cellB {ι : Inj} {l l' : List Value} (h : VRs ι l l') : l.all Lay.cellB = l'.all Lay.cellB := by
  induction h with
  | nil => rfl
  | cons h _ ih => simp only [List.all_cons, ih, h.cellB]

/-! ### Growing -/
structure Ext (ι ι' : Inj) (N n' : Nat) : Prop where
  loc : ∀ b s L, ι.loc b s = some L → ι'.loc b s = some L
  sz : ∀ b s L, ι.loc b s = some L → ι'.csz L.c = ι.csz L.c
  fresh : ∀ b s, ι.loc b s = none → n' ≤ b → ι'.loc b s = none
  own : ∀ c, c < N → ι'.own c = ι.own c
  csz : ∀ c, c < N → ι'.csz c = ι.csz c
  old : ∀ b s L, ι'.loc b s = some L → L.c < N → ∃ b' s' L', ι.loc b' s' = some L' ∧ L'.c = L.c

/-- Whatever the one knows the other knows. -/
structure Sub (ι ι' : Inj) : Prop where
  loc : ∀ b s L, ι.loc b s = some L → ι'.loc b s = some L
  sz : ∀ b s L, ι.loc b s = some L → ι'.csz L.c = ι.csz L.c
theorem Sub.refl (ι : Inj) : Sub ι ι := ⟨fun _ _ _ h => h, fun _ _ _ _ => rfl⟩
theorem Sub.trans {ι ι₁ ι₂ : Inj} (h : Sub ι ι₁) (k : Sub ι₁ ι₂) : Sub ι ι₂ :=
  ⟨fun b s L e => k.loc b s L (h.loc b s L e), fun b s L e => (k.sz b s L (h.loc b s L e)).trans (h.sz b s L e)⟩
theorem Ext.sub {ι ι' : Inj} {N n' : Nat} (e : Ext ι ι' N n') : Sub ι ι' := ⟨e.loc, e.sz⟩

theorem FnR.sub {ι ι' : Inj} (e : Sub ι ι') {f f' : Fn} (h : FnR ι f f') : FnR ι' f f' := by
  cases h with
  | func f => exact .func f
  | yield h => exact .yield (e.loc _ _ _ h)
theorem VR.sub {ι ι' : Inj} (e : Sub ι ι') {v v' : Value} (h : VR ι v v') : VR ι' v v' := by
  induction h with
  | any h => exact .any h
  | atom h => exact .atom h
  | ptr h hlo => exact .ptr (e.loc _ _ _ h) hlo
  | slice h hlo hA hc hs => exact .slice (e.loc _ _ _ h) hlo hA hc (by rw [e.sz _ _ _ h]; exact hs)
  | map h => exact .map (e.loc _ _ _ h)
  | func hf s1 _ s2 _ ih1 ih2 => exact .func (hf.sub e) s1 ih1 s2 ih2
  | iface _ ih => exact .iface ih
  | agg s _ ih => exact .agg s ih
  | tuple s _ ih => exact .tuple s ih
theorem VRs.sub {ι ι' : Inj} (e : Sub ι ι') {l l' : List Value} (h : VRs ι l l') : VRs ι' l l' := by
  induction h with
  | nil => exact .nil
  | cons h _ ih => exact .cons (h.sub e) ih

theorem FnR.ext {ι ι' : Inj} {N n' : Nat} (e : Ext ι ι' N n') {f f' : Fn} (h : FnR ι f f') : FnR ι' f f' := by
  cases h with
  | func f => exact .func f
  | yield h => exact .yield (e.loc _ _ _ h)
theorem VR.ext {ι ι' : Inj} {N n' : Nat} (e : Ext ι ι' N n') {v v' : Value} (h : VR ι v v') : VR ι' v v' := h.sub e.sub
theorem VRs.ext {ι ι' : Inj} {N n' : Nat} (e : Ext ι ι' N n') {l l' : List Value} (h : VRs ι l l') : VRs ι' l l' := by
  induction h with
  | nil => exact .nil
  | cons h _ ih => exact .cons (h.ext e) ih

/-! ### Constants that hold no address -/
def constOk : Operand → Bool
  | .const v => rigidB RD v
  | _ => true
def operOk (o : Oper) : Bool := o.op.operands.toList.all constOk
def codeOk : Code → Bool
  | .seq a b => codeOk a && codeOk b
  | .cond c x y => constOk c && codeOk x && codeOk y
  | .block _ c => codeOk c
  | .scope c => codeOk c
  | .loop c => codeOk c
  | .region _ ops _ => ops.toList.all operOk
  | .rangeFunc g _ as bo => constOk g && codeOk as && codeOk bo
  | _ => true

def TmR (ι : Inj) (f : Tm) (tm : Array Value) : Prop := f.n = tm.size ∧ ∀ i, VR ι (f.nth i) (tm.getD i undef)
theorem TmR.ext {ι ι' : Inj} {N n' : Nat} (e : Ext ι ι' N n') {f : Tm} {tm : Array Value} (h : TmR ι f tm) : TmR ι' f tm := ⟨h.1, fun i => (h.2 i).ext e⟩
theorem TmR.sub {ι ι' : Inj} (e : Sub ι ι') {f : Tm} {tm : Array Value} (h : TmR ι f tm) : TmR ι' f tm := ⟨h.1, fun i => (h.2 i).sub e⟩
theorem TmR.set {ι : Inj} {f : Tm} {tm : Array Value} (h : TmR ι f tm) (i : Nat) {v v' : Value} (hv : VR ι v v') : TmR ι (f.set i v) (tm.setIfInBounds i v') := by
  refine ⟨by simpa using h.1, fun j => ?_⟩
  rw [Tm.nth_set, h.1]
  by_cases e : j = i ∧ i < tm.size
  · obtain ⟨rfl, hlt⟩ := e
    rw [if_pos ⟨rfl, hlt⟩]
    simpa [Array.getD, hlt] using hv
  · rw [if_neg e]
    have := h.2 j
    by_cases hj : j < tm.size
    · have hne : i ≠ j := fun x => e ⟨x.symm, x ▸ hj⟩
      simpa [Array.getD, hj, Array.getElem_setIfInBounds, hne] using this
    · simpa [Array.getD, hj] using this

/-! ### The heap -/
/-- A block of cells, by the stamp s, which reaches to e. -/
structure RowR (ι : Inj) (w : World) (b : Nat) (cs : List Value) (esz : Nat) (ro : Bool) (s e : Nat) (L : Loc) : Prop where
  loc : ι.loc b s = some L
  row : ∃ arr elem fr, w.heap[L.c]? = some (.cells arr elem fr) ∧ arr.size = ι.csz L.c ∧ (ro = false → fr = (0, 0)) ∧ L.base + (e - L.lo) ≤ arr.size ∧
    ∀ j, L.lo ≤ j → j < e → ∃ v v', cs[j]? = some v ∧ arr[L.base + (j - L.lo)]? = some v' ∧ VR ι v v'
  cz : L.z = esz
  lo : L.lo ≤ e
  own : ι.own L.c = if ro then none else some b

inductive BlkR (ι : Inj) (w : World) (b : Nat) : Blk → Prop
  | cells {cs : List Value} {esz : Nat} {log : List (Nat × Nat)} {next : Nat} {ro : Bool}
      (rows : ∀ s e, (s, e) ∈ log → s < next ∧ e ≤ cs.length ∧ ∃ L, RowR ι w b cs esz ro s e L)
      (sorted : log.Pairwise (fun x y => y.1 < x.1 ∧ y.2 ≤ x.2))
      (same : ∀ s₁ e₁ s₂ e₂ L₁ L₂, (s₁, e₁) ∈ log → (s₂, e₂) ∈ log → ι.loc b s₁ = some L₁ → ι.loc b s₂ = some L₂ → L₁.c = L₂.c → L₁.base + L₂.lo = L₂.base + L₁.lo)
      (fresh : ∀ s, next ≤ s → ι.loc b s = none) : BlkR ι w b (.cells cs esz log next ro)
  | map {es : List (Value × Value)} {L : Loc} {arr : Array MapEntry} {clock : Nat} (loc : ι.loc b 0 = some L) (own : ι.own L.c = some b)
      (row : w.heap[L.c]? = some (.map arr clock)) (size : arr.size = es.length)
      (ents : ∀ (i : Nat) e, es[i]? = some e → ∃ e', arr[i]? = some e' ∧ e'.key = e.1 ∧ VR ι e.2 e'.val) : BlkR ι w b (.map es)
  | loop {f : Tm} {tm : Array Value} {ps : List Tmp} {as bo : Code} {st : LoopState} {pend : Option Code} {db : Nat} {fn : FuncId} {L Ld : Loc} (loc : ι.loc b 0 = some L) (own : ι.own L.c = some b)
      (locd : ι.loc db 0 = some Ld)
      (row : w.heap[L.c]? = some (.loop { state := st, pending := pend, fn := fn, tmps := tm, params := ps.toArray, assign := as, body := bo, defers := Ld.c })) (tms : TmR ι f tm)
      (oka : codeOk as = true) (okb : codeOk bo = true) :
      BlkR ι w b (.loop f ps as bo st pend db)
  | defd {L : Loc} (loc : ι.loc b 0 = some L) (own : ι.own L.c = some b) (row : w.heap[L.c]? = some (.deferred (some []))) : BlkR ι w b .defd

structure Rep (ι : Inj) (σ : St) (w : World) : Prop where
  blk : ∀ b y, getB σ.heap b = some y → b < σ.next ∧ BlkR ι w b y
  lt : ∀ b s L, ι.loc b s = some L → L.c < w.heap.size
  ownlt : ∀ c b, ι.own c = some b → c < w.heap.size ∧ b < σ.next
  fresh : ∀ b s, σ.next ≤ b → ι.loc b s = none

/-- What is frozen has been frozen before. -/
def FrKeep (w w' : World) : Prop := ∀ (c : Nat) arr elem f, w'.heap[c]? = some (.cells arr elem f) → (∃ arr' elem', w.heap[c]? = some (.cells arr' elem' f)) ∨ f = (0, 0)
theorem FrKeep.refl (w : World) : FrKeep w w := fun _ arr elem _ h => .inl ⟨arr, elem, h⟩
theorem FrKeep.trans {w w₁ w₂ : World} (h : FrKeep w w₁) (k : FrKeep w₁ w₂) : FrKeep w w₂ := fun c arr elem f hc => by
  rcases k c arr elem f hc with ⟨arr', elem', hc'⟩ | hf
  · exact h c arr' elem' f hc'
  · exact .inr hf
/-- One block turns. -/
theorem FrKeep.one {w w' : World} (r : Nat) (h : ∀ c, c ≠ r → w'.heap[c]? = w.heap[c]?) (hr : ∀ arr elem f, w'.heap[r]? = some (.cells arr elem f) → f = (0, 0)) : FrKeep w w' := fun c arr elem f hc => by
  by_cases e : c = r
  · subst e; exact .inr (hr arr elem f hc)
  · rw [h c e] at hc; exact .inl ⟨arr, elem, hc⟩

/-- What has been kept: whatever lies under a number below low, or is nobody's. -/
structure Pres (ι : Inj) (w : World) (low : Nat) (w' : World) : Prop where
  size : w.heap.size ≤ w'.heap.size
  same : ∀ c, c < w.heap.size → (∀ b, ι.own c = some b → b < low) → w'.heap[c]? = w.heap[c]?
  tape : w'.tape = w.tape
  os : w'.os = w.os
  output : w'.output = w.output
  fr : FrKeep w w'

structure Good (ι : Inj) (σ : St) (w : World) (ι' : Inj) (σ' : St) (w' : World) : Prop where
  ext : Ext ι ι' w.heap.size σ'.next
  rep : Rep ι' σ' w'
  pres : Pres ι w σ'.low w'
  low : σ'.low ≤ σ.low
  next : σ.next ≤ σ'.next

def Fresh (ι : Inj) (n m : Nat) : Prop := ∀ b s, n ≤ b → b < m → ι.loc b s = none

theorem Ext.refl (ι : Inj) (N n : Nat) : Ext ι ι N n := ⟨fun _ _ _ h => h, fun _ _ _ _ => rfl, fun _ _ h _ => h, fun _ _ => rfl, fun _ _ => rfl, fun b s L h _ => ⟨b, s, L, h, rfl⟩⟩
theorem Ext.trans {ι ι₁ ι₂ : Inj} {N N₁ n₁ n₂ : Nat} (h : Ext ι ι₁ N n₁) (k : Ext ι₁ ι₂ N₁ n₂) (hN : N ≤ N₁) (hn : n₁ ≤ n₂) : Ext ι ι₂ N n₂ :=
  ⟨fun b s L e => k.loc b s L (h.loc b s L e),
   fun b s L e => (k.sz b s L (h.loc b s L e)).trans (h.sz b s L e),
   fun b s e hb => k.fresh b s (h.fresh b s e (Nat.le_trans hn hb)) hb,
   fun c hc => (k.own c (Nat.lt_of_lt_of_le hc hN)).trans (h.own c hc),
   fun c hc => (k.csz c (Nat.lt_of_lt_of_le hc hN)).trans (h.csz c hc),
   fun b s L e hc => by
    obtain ⟨b₁, s₁, L₁, e₁, h₁⟩ := k.old b s L e (Nat.lt_of_lt_of_le hc hN)
    obtain ⟨b₂, s₂, L₂, e₂, h₂⟩ := h.old b₁ s₁ L₁ e₁ (by rw [h₁]; exact hc)
    exact ⟨b₂, s₂, L₂, e₂, h₂.trans h₁⟩⟩
theorem Pres.refl (ι : Inj) (w : World) (low : Nat) : Pres ι w low w := ⟨Nat.le_refl _, fun _ _ _ => rfl, rfl, rfl, rfl, .refl _⟩
theorem Pres.trans {ι ι₁ : Inj} {w w₁ w₂ : World} {l₁ l₂ m : Nat} (h : Pres ι w l₁ w₁) (k : Pres ι₁ w₁ l₂ w₂) (e : Ext ι ι₁ w.heap.size m) (hl : l₂ ≤ l₁) : Pres ι w l₂ w₂ :=
  ⟨Nat.le_trans h.size k.size,
   fun c hc ho => by
    rw [k.same c (Nat.lt_of_lt_of_le hc h.size) (fun b hb => ho b (by rwa [e.own c hc] at hb))]
    exact h.same c hc (fun b hb => Nat.lt_of_lt_of_le (ho b hb) hl),
   k.tape.trans h.tape, k.os.trans h.os, k.output.trans h.output, h.fr.trans k.fr⟩
theorem Good.refl {ι : Inj} {σ : St} {w : World} (h : Rep ι σ w) : Good ι σ w ι σ w := ⟨Ext.refl _ _ _, h, Pres.refl _ _ _, Nat.le_refl _, Nat.le_refl _⟩
theorem Good.trans {ι ι₁ ι₂ : Inj} {σ σ₁ σ₂ : St} {w w₁ w₂ : World} (h : Good ι σ w ι₁ σ₁ w₁) (k : Good ι₁ σ₁ w₁ ι₂ σ₂ w₂) : Good ι σ w ι₂ σ₂ w₂ :=
  ⟨h.ext.trans k.ext h.pres.size k.next, k.rep, h.pres.trans k.pres h.ext k.low, Nat.le_trans k.low h.low, Nat.le_trans h.next k.next⟩
theorem Fresh.left {ι : Inj} {n m p : Nat} (h : Fresh ι n p) (hm : m ≤ p) : Fresh ι n m := fun b s h1 h2 => h b s h1 (by omega)
theorem Fresh.right {ι ι₁ : Inj} {N n m p : Nat} (h : Fresh ι n p) (e : Ext ι ι₁ N m) (hn : n ≤ m) : Fresh ι₁ m p := fun b s h1 h2 => e.fresh b s (h b s (by omega) h2) h1

/-! ### A block abides where its memory does -/
theorem BlkR.keepS {ι ι' : Inj} {w w' : World} {b : Nat} {y : Blk} (h : BlkR ι w b y) (e : Sub ι ι') (ho : ∀ s L, ι.loc b s = some L → ι'.own L.c = ι.own L.c)
    (hs : ∀ s L, ι.loc b s = some L → ι.own L.c = some b ∨ ι.own L.c = none → w'.heap[L.c]? = w.heap[L.c]?)
    (hf : ∀ cs esz log next ro, y = .cells cs esz log next ro → ∀ s, next ≤ s → ι'.loc b s = none) : BlkR ι' w' b y := by
  cases h with
  | cells rows sorted same fresh =>
    refine .cells (fun s ex hm => ?_) sorted (fun s₁ e₁ s₂ e₂ L₁ L₂ h₁ h₂ l₁ l₂ hc => ?_) (hf _ _ _ _ _ rfl)
    · obtain ⟨h1, h2, L, hr⟩ := rows s ex hm
      refine ⟨h1, h2, L, ?_⟩
      obtain ⟨hl, ⟨arr, elem, fr, r1, r2, r3, r4, r5⟩, hcz, hlo, hown⟩ := hr
      refine ⟨e.loc _ _ _ hl, ⟨arr, elem, fr, ?_, by rw [e.sz _ _ _ hl]; exact r2, r3, r4, fun j h1 h2 => ?_⟩, hcz, hlo, by rw [ho _ _ hl]; exact hown⟩
      · rw [hs s L hl ?_]; exact r1
        rw [hown]; split
        · exact .inr rfl
        · exact .inl rfl
      · obtain ⟨v, v', a1, a2, a3⟩ := r5 j h1 h2
        exact ⟨v, v', a1, a2, a3.sub e⟩
    · obtain ⟨_, _, M₁, hr₁⟩ := rows s₁ e₁ h₁
      obtain ⟨_, _, M₂, hr₂⟩ := rows s₂ e₂ h₂
      have q₁ := e.loc _ _ _ hr₁.loc
      have q₂ := e.loc _ _ _ hr₂.loc
      rw [l₁] at q₁; rw [l₂] at q₂; cases q₁; cases q₂
      exact same s₁ e₁ s₂ e₂ _ _ h₁ h₂ hr₁.loc hr₂.loc hc
  | map loc own row size ents =>
    refine .map (e.loc _ _ _ loc) (by rw [ho _ _ loc]; exact own) (by rw [hs _ _ loc (.inl own)]; exact row) size (fun i x hx => ?_)
    obtain ⟨e', a1, a2, a3⟩ := ents i x hx
    exact ⟨e', a1, a2, a3.sub e⟩
  | loop loc own locd row tms oka okb =>
    exact .loop (e.loc _ _ _ loc) (by rw [ho _ _ loc]; exact own) (e.loc _ _ _ locd) (by rw [hs _ _ loc (.inl own)]; exact row) (tms.sub e) oka okb
  | defd loc own row => exact .defd (e.loc _ _ _ loc) (by rw [ho _ _ loc]; exact own) (by rw [hs _ _ loc (.inl own)]; exact row)
theorem BlkR.keep {ι ι' : Inj} {w w' : World} {b N n' : Nat} {y : Blk} (h : BlkR ι w b y) (e : Ext ι ι' N n')
    (hlt : ∀ b s L, ι.loc b s = some L → L.c < N)
    (hs : ∀ c, c < N → ι.own c = some b ∨ ι.own c = none → w'.heap[c]? = w.heap[c]?)
    (hf : ∀ cs esz log next ro, y = .cells cs esz log next ro → ∀ s, next ≤ s → ι'.loc b s = none) : BlkR ι' w' b y :=
  h.keepS e.sub (fun s L hl => e.own _ (hlt b s L hl)) (fun s L hl => hs _ (hlt b s L hl)) hf

/-- Memory grows; nothing that was there turns. -/
theorem Rep.grown {ι : Inj} {σ : St} {w w' : World} (h : Rep ι σ w) (hs : w.heap.size ≤ w'.heap.size) (hc : ∀ c, c < w.heap.size → w'.heap[c]? = w.heap[c]?) : Rep ι σ w' :=
  ⟨fun b y hb => ⟨(h.blk b y hb).1, (h.blk b y hb).2.keep (Ext.refl ι w.heap.size 0) h.lt (fun c hc' _ => hc c hc') (fun cs esz log next ro hy s hs' => by
    have := (h.blk b y hb).2; subst hy; cases this with | cells _ _ _ fresh => exact fresh s hs')⟩,
   fun b s L hl => Nat.lt_of_lt_of_le (h.lt b s L hl) hs, fun c b hb => ⟨Nat.lt_of_lt_of_le (h.ownlt c b hb).1 hs, (h.ownlt c b hb).2⟩, h.fresh⟩
theorem Rep.free {ι : Inj} {σ : St} {w : World} (h : Rep ι σ w) (m : Nat) : Fresh ι σ.next m := fun b s h1 _ => h.fresh b s h1

end Go.Lay
