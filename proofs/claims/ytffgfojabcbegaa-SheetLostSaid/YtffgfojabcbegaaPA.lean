
namespace Go.Proofs.Ytffgfojabcbegaa
set_option linter.unusedVariables false
structure Rec where
 m : Int
 s : Int
 t : Int
 k : Int
 a : Int
 b : Int
 deriving DecidableEq, Inhabited
def xJ (x y : Rec) : Prop := x.m < y.m ∨ (x.m = y.m ∧ x.s < y.s)
instance (x y : Rec) : Decidable (xJ x y) := by unfold xJ; infer_instance
theorem xJ.irr (x : Rec) : ¬ xJ x x := by unfold xJ; omega
theorem xJ.trans {x y z : Rec} (h : xJ x y) (k : xJ y z) : xJ x z := by unfold xJ at *; omega
theorem xJ.asymm {x y : Rec} (h : xJ x y) : ¬ xJ y x := by unfold xJ at *; omega
def zGT (x y : Rec) : Prop := x.m = y.m ∧ x.s = y.s
theorem yDG (x y : Rec) : xJ x y ∨ zGT x y ∨ xJ y x := by unfold xJ zGT; omega
abbrev Srt (l : List Rec) : Prop := l.Pairwise xJ
theorem zTF : ∀ {l l' : List Rec}, Srt l → Srt l' → (∀ x, x ∈ l ↔ x ∈ l') → l = l'
 | [], [], _, _, _ => rfl
 | [], y :: ys, _, _, h => absurd ((h y).2 List.mem_cons_self) (by simp)
 | x :: xs, [], _, _, h => absurd ((h x).1 List.mem_cons_self) (by simp)
 | x :: xs, y :: ys, h1, h2, h => by
  have p1 := List.pairwise_cons.1 h1
  have p2 := List.pairwise_cons.1 h2
  have e : x = y := by
   rcases List.mem_cons.1 ((h x).1 List.mem_cons_self) with e | e
   ·exact e
   rcases List.mem_cons.1 ((h y).2 List.mem_cons_self) with f | f
   ·exact f.symm
   exact absurd (p1.1 y f) (p2.1 x e).asymm
  subst e
  have := zTF p1.2 p2.2 fun z => by
   constructor
   ·intro hz
    rcases List.mem_cons.1 ((h z).1 (List.mem_cons_of_mem _ hz)) with e | e
    ·exact absurd (p1.1 z hz) (by rw [e]; exact xJ.irr x)
    ·exact e
   ·intro hz
    rcases List.mem_cons.1 ((h z).2 (List.mem_cons_of_mem _ hz)) with e | e
    ·exact absurd (p2.1 z hz) (by rw [e]; exact xJ.irr x)
    ·exact e
  rw [this]
def wS (x y : Rec) : Bool := !decide (x = y) && decide (x.m = y.m) && (decide (x.s = y.s) || decide (y.s < x.s) && decide (x.t < y.t) || decide (x.s < y.s) && decide (y.t < x.t))
theorem vE {x y : Rec} : wS x y = true ↔ x ≠ y ∧ x.m = y.m ∧ (x.s = y.s ∨ (y.s < x.s ∧ x.t < y.t) ∨ (x.s < y.s ∧ y.t < x.t)) := by
 unfold wS
 simp only [Bool.and_eq_true, Bool.or_eq_true, Bool.not_eq_true', decide_eq_true_eq, decide_eq_false_iff_not]
 constructor
 ·rintro ⟨⟨a, b⟩, (c | c) | c⟩
  ·exact ⟨a, b, .inl c⟩
  ·exact ⟨a, b, .inr (.inl c)⟩
  ·exact ⟨a, b, .inr (.inr c)⟩
 ·rintro ⟨a, b, c | c | c⟩
  ·exact ⟨⟨a, b⟩, .inl (.inl c)⟩
  ·exact ⟨⟨a, b⟩, .inl (.inr c)⟩
  ·exact ⟨⟨a, b⟩, .inr c⟩
theorem yDR {x y : Rec} : wS x y = wS y x := by
 rw [Bool.eq_iff_iff, vE, vE]
 constructor <;> rintro ⟨a, b, c⟩ <;> exact ⟨fun e => a e.symm, b.symm, by omega⟩
theorem zPE {x : Rec} : wS x x = false := by simp [wS]
def zBO (l : List Rec) : Prop := ∀ x ∈ l, ∀ y ∈ l, wS x y = false
theorem zBO.key {l : List Rec} (h : zBO l) {x y : Rec} (hx : x ∈ l) (hy : y ∈ l) (e : zGT x y) : x = y := by
 have := h x hx y hy
 by_cases hxy : x = y
 ·exact hxy
 ·have : wS x y = true := vE.2 ⟨hxy, e.1, .inl e.2⟩
  simp_all
theorem zBO.mem {l l' : List Rec} (h : zBO l) (k : ∀ x, x ∈ l' → x ∈ l) : zBO l' := fun x hx y hy => h x (k x hx) y (k y hy)
def zXH (x : Rec) : List Rec → List Rec
 | [] => [x]
 | y :: ys => if xJ x y then x :: y :: ys else y :: zXH x ys
theorem yCZ {x z : Rec} : ∀ {l : List Rec}, z ∈ zXH x l ↔ z = x ∨ z ∈ l
 | [] => by simp [zXH]
 | y :: ys => by
  unfold zXH
  split
  ·simp
  ·rw [List.mem_cons, yCZ, List.mem_cons]
   constructor
   ·rintro (h | h | h)
    ·exact .inr (.inl h)
    ·exact .inl h
    ·exact .inr (.inr h)
   ·rintro (h | h | h)
    ·exact .inr (.inl h)
    ·exact .inl h
    ·exact .inr (.inr h)
theorem yPR {x : Rec} : ∀ {l : List Rec}, Srt l → (∀ y ∈ l, ¬ zGT x y) → Srt (zXH x l)
 | [], _, _ => by simp [zXH, Srt]
 | y :: ys, h, k => by
  have p := List.pairwise_cons.1 h
  unfold zXH
  split
  ·rename_i c
   refine List.pairwise_cons.2 ⟨fun z hz => ?_, h⟩
   rcases List.mem_cons.1 hz with e | e
   ·rw [e]; exact c
   ·exact c.trans (p.1 z e)
  ·rename_i c
   refine List.pairwise_cons.2 ⟨fun z hz => ?_, yPR p.2 fun z hz => k z (List.mem_cons_of_mem _ hz)⟩
   rcases yCZ.1 hz with e | e
   ·rw [e]
    have := k y List.mem_cons_self
    rcases yDG x y with h1 | h1 | h1
    ·exact absurd h1 c
    ·exact absurd h1 this
    ·exact h1
   ·exact p.1 z e
def step (o : List Rec) (x : Rec) : List Rec := if x ∈ o then o else zXH x o
def vZ (l : List Rec) : List Rec := l.foldl step []
theorem yGQ {o : List Rec} {x z : Rec} : z ∈ step o x ↔ z = x ∨ z ∈ o := by
 unfold step
 split
 ·rename_i h
  exact ⟨.inr, fun k => k.elim (fun e => by rw [e]; exact h) id⟩
 ·exact yCZ
theorem yGR : ∀ {l o : List Rec} {z : Rec}, z ∈ l.foldl step o ↔ z ∈ l ∨ z ∈ o
 | [], o, z => by simp
 | x :: xs, o, z => by
  rw [List.foldl_cons, yGR, yGQ, List.mem_cons]
  constructor
  ·rintro (h | h | h)
   ·exact .inl (.inr h)
   ·exact .inl (.inl h)
   ·exact .inr h
  ·rintro ((h | h) | h)
   ·exact .inr (.inl h)
   ·exact .inl h
   ·exact .inr (.inr h)
theorem zLD {l : List Rec} {z : Rec} : z ∈ vZ l ↔ z ∈ l := by unfold vZ; rw [yGR]; simp
theorem yET : ∀ {l o : List Rec}, Srt o → zBO (o ++ l) → Srt (l.foldl step o)
 | [], o, h, _ => h
 | x :: xs, o, h, c => by
  rw [List.foldl_cons]
  refine yET ?_ (c.mem fun z hz => ?_)
  ·unfold step
   split
   ·exact h
   ·rename_i hx
    refine yPR h fun y hy e => hx ?_
    rw [c.key (by simp) (by simp [hy]) e]; exact hy
  ·rcases List.mem_append.1 hz with e | e
   ·rcases yGQ.1 e with e | e
    ·rw [e]; simp
    ·simp [e]
   ·simp [e]
theorem zOR {l : List Rec} (h : zBO l) : Srt (vZ l) := yET .nil (by simpa using h)
theorem yDE {l o : List Rec} (h : zBO l) (s : Srt o) (k : ∀ x, x ∈ o ↔ x ∈ l) : o = vZ l := zTF s (zOR h) fun x => by rw [k, zLD]
theorem zES {l : List Rec} (h : Srt l) {i j : Nat} {x y : Rec} (hi : l[i]? = some x) (hj : l[j]? = some y) (hij : i < j) : xJ x y := by
 obtain ⟨h1, rfl⟩ := List.getElem?_eq_some_iff.1 hi
 obtain ⟨h2, rfl⟩ := List.getElem?_eq_some_iff.1 hj
 exact List.pairwise_iff_getElem.1 h i j h1 h2 hij
theorem yXJ {l : List Rec} (h : ∀ (i : Nat) (x y : Rec), l[i]? = some x → l[i + 1]? = some y → xJ x y) : Srt l := by
 induction l with
 | nil => exact .nil
 | cons a as ih =>
  refine List.pairwise_cons.2 ⟨?_, ih fun i x y h1 h2 => h (i + 1) x y (by simpa using h1) (by simpa using h2)⟩
  have hs : Srt as := ih fun i x y h1 h2 => h (i + 1) x y (by simpa using h1) (by simpa using h2)
  intro z hz
  cases as with
  | nil => cases hz
  | cons b bs =>
   have hb : xJ a b := h 0 a b rfl rfl
   rcases List.mem_cons.1 hz with e | e
   ·rw [e]; exact hb
   ·exact hb.trans ((List.pairwise_cons.1 hs).1 z e)
theorem zSA {l : List Rec} (h : Srt l) (k : ∀ (i : Nat) (x y : Rec), l[i]? = some x → l[i + 1]? = some y → x.m = y.m → x.t ≤ y.t) : zBO l := by
 have key : ∀ (d i : Nat) (x y : Rec), l[i]? = some x → l[i + d]? = some y → x.m = y.m → x.t ≤ y.t := by
  intro d
  induction d with
  | zero => intro i x y h1 h2 _; rw [Nat.add_zero, h1] at h2; cases h2; exact Int.le_refl _
  | succ d ih =>
   intro i x y h1 h2 hm
   have hlt : i + (d + 1) < l.length := (List.getElem?_eq_some_iff.1 h2).1
   obtain ⟨z, hz⟩ : ∃ z, l[i + d]? = some z := ⟨l[i + d]'(by omega), by simp⟩
   have hzy : xJ z y := zES h hz h2 (by omega)
   have hxz : x.m ≤ z.m := by
    by_cases e : d = 0
    ·subst e; rw [Nat.add_zero, h1] at hz; cases hz; exact Int.le_refl _
    ·have : xJ x z := zES h h1 hz (by omega)
     unfold xJ at this; omega
   have e1 : x.m = z.m := by unfold xJ at hzy; omega
   have := ih i x z h1 hz e1
   have := k (i + d) z y hz (by rw [← h2]; rfl) (by omega)
   omega
 intro x hx y hy
 cases hc : wS x y with
 | false => rfl
 | true =>
  obtain ⟨hne, hm, hc⟩ := vE.1 hc
  obtain ⟨i, hi, rfl⟩ := List.mem_iff_getElem.1 hx
  obtain ⟨j, hj, rfl⟩ := List.mem_iff_getElem.1 hy
  rcases Nat.lt_trichotomy i j with e | e | e
  ·have k1 := key (j - i) i _ _ (by simp [hi]) (by simp [show i + (j - i) = j by omega, hj]) hm
   have k2 := zES h (i := i) (j := j) (by simp [hi]; rfl) (by simp [hj]; rfl) e
   unfold xJ at k2; omega
  ·subst e; exact absurd rfl hne
  ·have k1 := key (i - j) j _ _ (by simp [hj]) (by simp [show j + (i - j) = i by omega, hi]) hm.symm
   have k2 := zES h (i := j) (j := i) (by simp [hj]; rfl) (by simp [hi]; rfl) e
   unfold xJ at k2; omega
theorem yIF {l : List Rec} (h : Srt l) (c : zBO l) {i j : Nat} {x y : Rec} (hi : l[i]? = some x) (hj : l[j]? = some y) (hij : i < j) (hm : x.m = y.m) : x.s < y.s ∧ x.t ≤ y.t := by
 have k := zES h hi hj hij
 have hs : x.s < y.s := by unfold xJ at k; omega
 have c1 := c x (List.mem_of_getElem? hi) y (List.mem_of_getElem? hj)
 refine ⟨hs, ?_⟩
 by_cases ht : x.t ≤ y.t
 ·exact ht
 ·have : wS x y = true := vE.2 ⟨fun e => by subst e; omega, hm, .inr (.inr ⟨hs, by omega⟩)⟩
  simp_all
end Go.Proofs.Ytffgfojabcbegaa
