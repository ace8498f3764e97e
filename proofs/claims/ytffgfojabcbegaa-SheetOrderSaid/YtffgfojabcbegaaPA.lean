
namespace Go.Proofs.Ytffgfojabcbegaa
set_option linter.unusedVariables false
structure Rec where
 m : Int
 s : Int
 t : Int
 k : Int
 a : Int
 b : Int
 deriving DecidableEq, Inhabited
def wE (x y : Rec) : Prop := x.m < y.m ∨ (x.m = y.m ∧ x.s < y.s)
instance (x y : Rec) : Decidable (wE x y) := by unfold wE; infer_instance
theorem wE.irr (x : Rec) : ¬ wE x x := by unfold wE; omega
theorem wE.trans {x y z : Rec} (h : wE x y) (k : wE y z) : wE x z := by unfold wE at *; omega
theorem wE.asymm {x y : Rec} (h : wE x y) : ¬ wE y x := by unfold wE at *; omega
def zJT (x y : Rec) : Prop := x.m = y.m ∧ x.s = y.s
theorem yQI (x y : Rec) : wE x y ∨ zJT x y ∨ wE y x := by unfold wE zJT; omega
abbrev Srt (l : List Rec) : Prop := l.Pairwise wE
theorem zNT : ∀ {l l' : List Rec}, Srt l → Srt l' → (∀ x, x ∈ l ↔ x ∈ l') → l = l'
 | [], [], _, _, _ => rfl
 | [], y :: ys, _, _, h => absurd ((h y).2 List.mem_cons_self) (by simp)
 | x :: xs, [], _, _, h => absurd ((h x).1 List.mem_cons_self) (by simp)
 | x :: xs, y :: ys, h1, h2, h => by
  have p1 := List.pairwise_cons.1 h1
  have p2 := List.pairwise_cons.1 h2
  have e : x = y := by
   rcases List.mem_cons.1 ((h x).1 List.mem_cons_self) with e | e
   ·exact e
   rcases List.mem_cons.1 ((h y).2 List.mem_cons_self) with f | f
   ·exact f.symm
   exact absurd (p1.1 y f) (p2.1 x e).asymm
  subst e
  have := zNT p1.2 p2.2 fun z => by
   constructor
   ·intro hz
    rcases List.mem_cons.1 ((h z).1 (List.mem_cons_of_mem _ hz)) with e | e
    ·exact absurd (p1.1 z hz) (by rw [e]; exact wE.irr x)
    ·exact e
   ·intro hz
    rcases List.mem_cons.1 ((h z).2 (List.mem_cons_of_mem _ hz)) with e | e
    ·exact absurd (p2.1 z hz) (by rw [e]; exact wE.irr x)
    ·exact e
  rw [this]
def wC (x y : Rec) : Bool := !decide (x = y) && decide (x.m = y.m) && (decide (x.s = y.s) || decide (y.s < x.s) && decide (x.t < y.t) || decide (x.s < y.s) && decide (y.t < x.t))
theorem wB {x y : Rec} : wC x y = true ↔ x ≠ y ∧ x.m = y.m ∧ (x.s = y.s ∨ (y.s < x.s ∧ x.t < y.t) ∨ (x.s < y.s ∧ y.t < x.t)) := by
 unfold wC
 simp only [Bool.and_eq_true, Bool.or_eq_true, Bool.not_eq_true', decide_eq_true_eq, decide_eq_false_iff_not]
 constructor
 ·rintro ⟨⟨a, b⟩, (c | c) | c⟩
  ·exact ⟨a, b, .inl c⟩
  ·exact ⟨a, b, .inr (.inl c)⟩
  ·exact ⟨a, b, .inr (.inr c)⟩
 ·rintro ⟨a, b, c | c | c⟩
  ·exact ⟨⟨a, b⟩, .inl (.inl c)⟩
  ·exact ⟨⟨a, b⟩, .inl (.inr c)⟩
  ·exact ⟨⟨a, b⟩, .inr c⟩
theorem yDI {x y : Rec} : wC x y = wC y x := by
 rw [Bool.eq_iff_iff, wB, wB]
 constructor <;> rintro ⟨a, b, c⟩ <;> exact ⟨fun e => a e.symm, b.symm, by omega⟩
theorem zOZ {x : Rec} : wC x x = false := by simp [wC]
def zAQ (l : List Rec) : Prop := ∀ x ∈ l, ∀ y ∈ l, wC x y = false
theorem zAQ.key {l : List Rec} (h : zAQ l) {x y : Rec} (hx : x ∈ l) (hy : y ∈ l) (e : zJT x y) : x = y := by
 have := h x hx y hy
 by_cases hxy : x = y
 ·exact hxy
 ·have : wC x y = true := wB.2 ⟨hxy, e.1, .inl e.2⟩
  simp_all
theorem zAQ.mem {l l' : List Rec} (h : zAQ l) (k : ∀ x, x ∈ l' → x ∈ l) : zAQ l' := fun x hx y hy => h x (k x hx) y (k y hy)
def zXE (x : Rec) : List Rec → List Rec
 | [] => [x]
 | y :: ys => if wE x y then x :: y :: ys else y :: zXE x ys
theorem yCM {x z : Rec} : ∀ {l : List Rec}, z ∈ zXE x l ↔ z = x ∨ z ∈ l
 | [] => by simp [zXE]
 | y :: ys => by
  unfold zXE
  split
  ·simp
  ·rw [List.mem_cons, yCM, List.mem_cons]
   constructor
   ·rintro (h | h | h)
    ·exact .inr (.inl h)
    ·exact .inl h
    ·exact .inr (.inr h)
   ·rintro (h | h | h)
    ·exact .inr (.inl h)
    ·exact .inl h
    ·exact .inr (.inr h)
theorem yPB {x : Rec} : ∀ {l : List Rec}, Srt l → (∀ y ∈ l, ¬ zJT x y) → Srt (zXE x l)
 | [], _, _ => by simp [zXE, Srt]
 | y :: ys, h, k => by
  have p := List.pairwise_cons.1 h
  unfold zXE
  split
  ·rename_i c
   refine List.pairwise_cons.2 ⟨fun z hz => ?_, h⟩
   rcases List.mem_cons.1 hz with e | e
   ·rw [e]; exact c
   ·exact c.trans (p.1 z e)
  ·rename_i c
   refine List.pairwise_cons.2 ⟨fun z hz => ?_, yPB p.2 fun z hz => k z (List.mem_cons_of_mem _ hz)⟩
   rcases yCM.1 hz with e | e
   ·rw [e]
    have := k y List.mem_cons_self
    rcases yQI x y with h1 | h1 | h1
    ·exact absurd h1 c
    ·exact absurd h1 this
    ·exact h1
   ·exact p.1 z e
def step (o : List Rec) (x : Rec) : List Rec := if x ∈ o then o else zXE x o
def xU (l : List Rec) : List Rec := l.foldl step []
theorem yGG {o : List Rec} {x z : Rec} : z ∈ step o x ↔ z = x ∨ z ∈ o := by
 unfold step
 split
 ·rename_i h
  exact ⟨.inr, fun k => k.elim (fun e => by rw [e]; exact h) id⟩
 ·exact yCM
theorem yGH : ∀ {l o : List Rec} {z : Rec}, z ∈ l.foldl step o ↔ z ∈ l ∨ z ∈ o
 | [], o, z => by simp
 | x :: xs, o, z => by
  rw [List.foldl_cons, yGH, yGG, List.mem_cons]
  constructor
  ·rintro (h | h | h)
   ·exact .inl (.inr h)
   ·exact .inl (.inl h)
   ·exact .inr h
  ·rintro ((h | h) | h)
   ·exact .inr (.inl h)
   ·exact .inl h
   ·exact .inr (.inr h)
theorem zHS {l : List Rec} {z : Rec} : z ∈ xU l ↔ z ∈ l := by unfold xU; rw [yGH]; simp
theorem yEI : ∀ {l o : List Rec}, Srt o → zAQ (o ++ l) → Srt (l.foldl step o)
 | [], o, h, _ => h
 | x :: xs, o, h, c => by
  rw [List.foldl_cons]
  refine yEI ?_ (c.mem fun z hz => ?_)
  ·unfold step
   split
   ·exact h
   ·rename_i hx
    refine yPB h fun y hy e => hx ?_
    rw [c.key (by simp) (by simp [hy]) e]; exact hy
  ·rcases List.mem_append.1 hz with e | e
   ·rcases yGG.1 e with e | e
    ·rw [e]; simp
    ·simp [e]
   ·simp [e]
theorem zHD {l : List Rec} (h : zAQ l) : Srt (xU l) := yEI .nil (by simpa using h)
theorem logL_eq {l o : List Rec} (h : zAQ l) (s : Srt o) (k : ∀ x, x ∈ o ↔ x ∈ l) : o = xU l := zNT s (zHD h) fun x => by rw [k, zHS]
theorem zKF {l : List Rec} (h : Srt l) {i j : Nat} {x y : Rec} (hi : l[i]? = some x) (hj : l[j]? = some y) (hij : i < j) : wE x y := by
 obtain ⟨h1, rfl⟩ := List.getElem?_eq_some_iff.1 hi
 obtain ⟨h2, rfl⟩ := List.getElem?_eq_some_iff.1 hj
 exact List.pairwise_iff_getElem.1 h i j h1 h2 hij
theorem srt_of {l : List Rec} (h : ∀ (i : Nat) (x y : Rec), l[i]? = some x → l[i + 1]? = some y → wE x y) : Srt l := by
 induction l with
 | nil => exact .nil
 | cons a as ih =>
  refine List.pairwise_cons.2 ⟨?_, ih fun i x y h1 h2 => h (i + 1) x y (by simpa using h1) (by simpa using h2)⟩
  have hs : Srt as := ih fun i x y h1 h2 => h (i + 1) x y (by simpa using h1) (by simpa using h2)
  intro z hz
  cases as with
  | nil => cases hz
  | cons b bs =>
   have hb : wE a b := h 0 a b rfl rfl
   rcases List.mem_cons.1 hz with e | e
   ·rw [e]; exact hb
   ·exact hb.trans ((List.pairwise_cons.1 hs).1 z e)
theorem yHR {l : List Rec} (h : Srt l) (k : ∀ (i : Nat) (x y : Rec), l[i]? = some x → l[i + 1]? = some y → x.m = y.m → x.t ≤ y.t) : zAQ l := by
 have key : ∀ (d i : Nat) (x y : Rec), l[i]? = some x → l[i + d]? = some y → x.m = y.m → x.t ≤ y.t := by
  intro d
  induction d with
  | zero => intro i x y h1 h2 _; rw [Nat.add_zero, h1] at h2; cases h2; exact Int.le_refl _
  | succ d ih =>
   intro i x y h1 h2 hm
   have hlt : i + (d + 1) < l.length := (List.getElem?_eq_some_iff.1 h2).1
   obtain ⟨z, hz⟩ : ∃ z, l[i + d]? = some z := ⟨l[i + d]'(by omega), by simp⟩
   have hzy : wE z y := zKF h hz h2 (by omega)
   have hxz : x.m ≤ z.m := by
    by_cases e : d = 0
    ·subst e; rw [Nat.add_zero, h1] at hz; cases hz; exact Int.le_refl _
    ·have : wE x z := zKF h h1 hz (by omega)
     unfold wE at this; omega
   have e1 : x.m = z.m := by unfold wE at hzy; omega
   have := ih i x z h1 hz e1
   have := k (i + d) z y hz (by rw [← h2]; rfl) (by omega)
   omega
 intro x hx y hy
 cases hc : wC x y with
 | false => rfl
 | true =>
  obtain ⟨hne, hm, hc⟩ := wB.1 hc
  obtain ⟨i, hi, rfl⟩ := List.mem_iff_getElem.1 hx
  obtain ⟨j, hj, rfl⟩ := List.mem_iff_getElem.1 hy
  rcases Nat.lt_trichotomy i j with e | e | e
  ·have k1 := key (j - i) i _ _ (by simp [hi]) (by simp [show i + (j - i) = j by omega, hj]) hm
   have k2 := zKF h (i := i) (j := j) (by simp [hi]; rfl) (by simp [hj]; rfl) e
   unfold wE at k2; omega
  ·subst e; exact absurd rfl hne
  ·have k1 := key (i - j) j _ _ (by simp [hj]) (by simp [show j + (i - j) = i by omega, hi]) hm.symm
   have k2 := zKF h (i := j) (j := i) (by simp [hj]; rfl) (by simp [hi]; rfl) e
   unfold wE at k2; omega
theorem cons_adj {l : List Rec} (h : Srt l) (c : zAQ l) {i j : Nat} {x y : Rec} (hi : l[i]? = some x) (hj : l[j]? = some y) (hij : i < j) (hm : x.m = y.m) : x.s < y.s ∧ x.t ≤ y.t := by
 have k := zKF h hi hj hij
 have hs : x.s < y.s := by unfold wE at k; omega
 have c1 := c x (List.mem_of_getElem? hi) y (List.mem_of_getElem? hj)
 refine ⟨hs, ?_⟩
 by_cases ht : x.t ≤ y.t
 ·exact ht
 ·have : wC x y = true := wB.2 ⟨fun e => by subst e; omega, hm, .inr (.inr ⟨hs, by omega⟩)⟩
  simp_all
end Go.Proofs.Ytffgfojabcbegaa
