
namespace Go.Proofs.Ytffgfojabcbegaa
set_option linter.unusedVariables false
structure Rec where
 m : Int
 s : Int
 t : Int
 k : Int
 a : Int
 b : Int
 deriving DecidableEq, Inhabited
def xE (x y : Rec) : Prop := x.m < y.m ∨ (x.m = y.m ∧ x.s < y.s)
instance (x y : Rec) : Decidable (xE x y) := by unfold xE; infer_instance
theorem xE.irr (x : Rec) : ¬ xE x x := by unfold xE; omega
theorem xE.trans {x y z : Rec} (h : xE x y) (k : xE y z) : xE x z := by unfold xE at *; omega
theorem xE.asymm {x y : Rec} (h : xE x y) : ¬ xE y x := by unfold xE at *; omega
def zHY (x y : Rec) : Prop := x.m = y.m ∧ x.s = y.s
theorem yFI (x y : Rec) : xE x y ∨ zHY x y ∨ xE y x := by unfold xE zHY; omega
abbrev Srt (l : List Rec) : Prop := l.Pairwise xE
theorem zUW : ∀ {l l' : List Rec}, Srt l → Srt l' → (∀ x, x ∈ l ↔ x ∈ l') → l = l'
 | [], [], _, _, _ => rfl
 | [], y :: ys, _, _, h => absurd ((h y).2 List.mem_cons_self) (by simp)
 | x :: xs, [], _, _, h => absurd ((h x).1 List.mem_cons_self) (by simp)
 | x :: xs, y :: ys, h1, h2, h => by
  have p1 := List.pairwise_cons.1 h1
  have p2 := List.pairwise_cons.1 h2
  have e : x = y := by
   rcases List.mem_cons.1 ((h x).1 List.mem_cons_self) with e | e
   ·exact e
   rcases List.mem_cons.1 ((h y).2 List.mem_cons_self) with f | f
   ·exact f.symm
   exact absurd (p1.1 y f) (p2.1 x e).asymm
  subst e
  have := zUW p1.2 p2.2 fun z => by
   constructor
   ·intro hz
    rcases List.mem_cons.1 ((h z).1 (List.mem_cons_of_mem _ hz)) with e | e
    ·exact absurd (p1.1 z hz) (by rw [e]; exact xE.irr x)
    ·exact e
   ·intro hz
    rcases List.mem_cons.1 ((h z).2 (List.mem_cons_of_mem _ hz)) with e | e
    ·exact absurd (p2.1 z hz) (by rw [e]; exact xE.irr x)
    ·exact e
  rw [this]
def wQ (x y : Rec) : Bool := !decide (x = y) && decide (x.m = y.m) && (decide (x.s = y.s) || decide (y.s < x.s) && decide (x.t < y.t) || decide (x.s < y.s) && decide (y.t < x.t))
theorem vE {x y : Rec} : wQ x y = true ↔ x ≠ y ∧ x.m = y.m ∧ (x.s = y.s ∨ (y.s < x.s ∧ x.t < y.t) ∨ (x.s < y.s ∧ y.t < x.t)) := by
 unfold wQ
 simp only [Bool.and_eq_true, Bool.or_eq_true, Bool.not_eq_true', decide_eq_true_eq, decide_eq_false_iff_not]
 constructor
 ·rintro ⟨⟨a, b⟩, (c | c) | c⟩
  ·exact ⟨a, b, .inl c⟩
  ·exact ⟨a, b, .inr (.inl c)⟩
  ·exact ⟨a, b, .inr (.inr c)⟩
 ·rintro ⟨a, b, c | c | c⟩
  ·exact ⟨⟨a, b⟩, .inl (.inl c)⟩
  ·exact ⟨⟨a, b⟩, .inl (.inr c)⟩
  ·exact ⟨⟨a, b⟩, .inr c⟩
theorem yFU {x y : Rec} : wQ x y = wQ y x := by
 rw [Bool.eq_iff_iff, vE, vE]
 constructor <;> rintro ⟨a, b, c⟩ <;> exact ⟨fun e => a e.symm, b.symm, by omega⟩
theorem zQG {x : Rec} : wQ x x = false := by simp [wQ]
def zAZ (l : List Rec) : Prop := ∀ x ∈ l, ∀ y ∈ l, wQ x y = false
theorem zAZ.key {l : List Rec} (h : zAZ l) {x y : Rec} (hx : x ∈ l) (hy : y ∈ l) (e : zHY x y) : x = y := by
 have := h x hx y hy
 by_cases hxy : x = y
 ·exact hxy
 ·have : wQ x y = true := vE.2 ⟨hxy, e.1, .inl e.2⟩
  simp_all
theorem zAZ.mem {l l' : List Rec} (h : zAZ l) (k : ∀ x, x ∈ l' → x ∈ l) : zAZ l' := fun x hx y hy => h x (k x hx) y (k y hy)
def zYP (x : Rec) : List Rec → List Rec
 | [] => [x]
 | y :: ys => if xE x y then x :: y :: ys else y :: zYP x ys
theorem yEQ {x z : Rec} : ∀ {l : List Rec}, z ∈ zYP x l ↔ z = x ∨ z ∈ l
 | [] => by simp [zYP]
 | y :: ys => by
  unfold zYP
  split
  ·simp
  ·rw [List.mem_cons, yEQ, List.mem_cons]
   constructor
   ·rintro (h | h | h)
    ·exact .inr (.inl h)
    ·exact .inl h
    ·exact .inr (.inr h)
   ·rintro (h | h | h)
    ·exact .inr (.inl h)
    ·exact .inl h
    ·exact .inr (.inr h)
theorem ySQ {x : Rec} : ∀ {l : List Rec}, Srt l → (∀ y ∈ l, ¬ zHY x y) → Srt (zYP x l)
 | [], _, _ => by simp [zYP, Srt]
 | y :: ys, h, k => by
  have p := List.pairwise_cons.1 h
  unfold zYP
  split
  ·rename_i c
   refine List.pairwise_cons.2 ⟨fun z hz => ?_, h⟩
   rcases List.mem_cons.1 hz with e | e
   ·rw [e]; exact c
   ·exact c.trans (p.1 z e)
  ·rename_i c
   refine List.pairwise_cons.2 ⟨fun z hz => ?_, ySQ p.2 fun z hz => k z (List.mem_cons_of_mem _ hz)⟩
   rcases yEQ.1 hz with e | e
   ·rw [e]
    have := k y List.mem_cons_self
    rcases yFI x y with h1 | h1 | h1
    ·exact absurd h1 c
    ·exact absurd h1 this
    ·exact h1
   ·exact p.1 z e
def step (o : List Rec) (x : Rec) : List Rec := if x ∈ o then o else zYP x o
def uT (l : List Rec) : List Rec := l.foldl step []
theorem yIV {o : List Rec} {x z : Rec} : z ∈ step o x ↔ z = x ∨ z ∈ o := by
 unfold step
 split
 ·rename_i h
  exact ⟨.inr, fun k => k.elim (fun e => by rw [e]; exact h) id⟩
 ·exact yEQ
theorem yIW : ∀ {l o : List Rec} {z : Rec}, z ∈ l.foldl step o ↔ z ∈ l ∨ z ∈ o
 | [], o, z => by simp
 | x :: xs, o, z => by
  rw [List.foldl_cons, yIW, yIV, List.mem_cons]
  constructor
  ·rintro (h | h | h)
   ·exact .inl (.inr h)
   ·exact .inl (.inl h)
   ·exact .inr h
  ·rintro ((h | h) | h)
   ·exact .inr (.inl h)
   ·exact .inl h
   ·exact .inr (.inr h)
theorem zMA {l : List Rec} {z : Rec} : z ∈ uT l ↔ z ∈ l := by unfold uT; rw [yIW]; simp
theorem yGY : ∀ {l o : List Rec}, Srt o → zAZ (o ++ l) → Srt (l.foldl step o)
 | [], o, h, _ => h
 | x :: xs, o, h, c => by
  rw [List.foldl_cons]
  refine yGY ?_ (c.mem fun z hz => ?_)
  ·unfold step
   split
   ·exact h
   ·rename_i hx
    refine ySQ h fun y hy e => hx ?_
    rw [c.key (by simp) (by simp [hy]) e]; exact hy
  ·rcases List.mem_append.1 hz with e | e
   ·rcases yIV.1 e with e | e
    ·rw [e]; simp
    ·simp [e]
   ·simp [e]
theorem zPS {l : List Rec} (h : zAZ l) : Srt (uT l) := yGY .nil (by simpa using h)
theorem yEU {l o : List Rec} (h : zAZ l) (s : Srt o) (k : ∀ x, x ∈ o ↔ x ∈ l) : o = uT l := zUW s (zPS h) fun x => by rw [k, zMA]
theorem zID {l : List Rec} (h : Srt l) {i j : Nat} {x y : Rec} (hi : l[i]? = some x) (hj : l[j]? = some y) (hij : i < j) : xE x y := by
 obtain ⟨h1, rfl⟩ := List.getElem?_eq_some_iff.1 hi
 obtain ⟨h2, rfl⟩ := List.getElem?_eq_some_iff.1 hj
 exact List.pairwise_iff_getElem.1 h i j h1 h2 hij
theorem yZT {l : List Rec} (h : ∀ (i : Nat) (x y : Rec), l[i]? = some x → l[i + 1]? = some y → xE x y) : Srt l := by
 induction l with
 | nil => exact .nil
 | cons a as ih =>
  refine List.pairwise_cons.2 ⟨?_, ih fun i x y h1 h2 => h (i + 1) x y (by simpa using h1) (by simpa using h2)⟩
  have hs : Srt as := ih fun i x y h1 h2 => h (i + 1) x y (by simpa using h1) (by simpa using h2)
  intro z hz
  cases as with
  | nil => cases hz
  | cons b bs =>
   have hb : xE a b := h 0 a b rfl rfl
   rcases List.mem_cons.1 hz with e | e
   ·rw [e]; exact hb
   ·exact hb.trans ((List.pairwise_cons.1 hs).1 z e)
theorem zTR {l : List Rec} (h : Srt l) (k : ∀ (i : Nat) (x y : Rec), l[i]? = some x → l[i + 1]? = some y → x.m = y.m → x.t ≤ y.t) : zAZ l := by
 have key : ∀ (d i : Nat) (x y : Rec), l[i]? = some x → l[i + d]? = some y → x.m = y.m → x.t ≤ y.t := by
  intro d
  induction d with
  | zero => intro i x y h1 h2 _; rw [Nat.add_zero, h1] at h2; cases h2; exact Int.le_refl _
  | succ d ih =>
   intro i x y h1 h2 hm
   have hlt : i + (d + 1) < l.length := (List.getElem?_eq_some_iff.1 h2).1
   obtain ⟨z, hz⟩ : ∃ z, l[i + d]? = some z := ⟨l[i + d]'(by omega), by simp⟩
   have hzy : xE z y := zID h hz h2 (by omega)
   have hxz : x.m ≤ z.m := by
    by_cases e : d = 0
    ·subst e; rw [Nat.add_zero, h1] at hz; cases hz; exact Int.le_refl _
    ·have : xE x z := zID h h1 hz (by omega)
     unfold xE at this; omega
   have e1 : x.m = z.m := by unfold xE at hzy; omega
   have := ih i x z h1 hz e1
   have := k (i + d) z y hz (by rw [← h2]; rfl) (by omega)
   omega
 intro x hx y hy
 cases hc : wQ x y with
 | false => rfl
 | true =>
  obtain ⟨hne, hm, hc⟩ := vE.1 hc
  obtain ⟨i, hi, rfl⟩ := List.mem_iff_getElem.1 hx
  obtain ⟨j, hj, rfl⟩ := List.mem_iff_getElem.1 hy
  rcases Nat.lt_trichotomy i j with e | e | e
  ·have k1 := key (j - i) i _ _ (by simp [hi]) (by simp [show i + (j - i) = j by omega, hj]) hm
   have k2 := zID h (i := i) (j := j) (by simp [hi]; rfl) (by simp [hj]; rfl) e
   unfold xE at k2; omega
  ·subst e; exact absurd rfl hne
  ·have k1 := key (i - j) j _ _ (by simp [hj]) (by simp [show j + (i - j) = i by omega, hi]) hm.symm
   have k2 := zID h (i := j) (j := i) (by simp [hj]; rfl) (by simp [hi]; rfl) e
   unfold xE at k2; omega
theorem yKH {l : List Rec} (h : Srt l) (c : zAZ l) {i j : Nat} {x y : Rec} (hi : l[i]? = some x) (hj : l[j]? = some y) (hij : i < j) (hm : x.m = y.m) : x.s < y.s ∧ x.t ≤ y.t := by
 have k := zID h hi hj hij
 have hs : x.s < y.s := by unfold xE at k; omega
 have c1 := c x (List.mem_of_getElem? hi) y (List.mem_of_getElem? hj)
 refine ⟨hs, ?_⟩
 by_cases ht : x.t ≤ y.t
 ·exact ht
 ·have : wQ x y = true := vE.2 ⟨fun e => by subst e; omega, hm, .inr (.inr ⟨hs, by omega⟩)⟩
  simp_all
end Go.Proofs.Ytffgfojabcbegaa

namespace Go.Proofs.Ytffgfojabcbegaa
set_option linter.unusedVariables false
structure Cnt where
 s : Int
 a : Int
 b : Int
 sales : Int
 coins : Int
 len : Int
 deriving DecidableEq
def c0 : Cnt := ⟨0, 0, 0, 0, 0, 0⟩
def zCR (m : Int) (c : Cnt) (r : Rec) : Cnt :=
 if r.m = m then (if r.k = 2 then ⟨r.s, r.a, r.b, 0, 0, 0⟩ else if r.k = 0 then { c with sales := c.sales + 1, coins := c.coins + r.b, len := c.len + 1 } else { c with len := c.len + 1 }) else c
def xG (L : List Rec) (m : Int) (i : Nat) : Cnt := (L.take i).foldl (zCR m) c0
structure Lk where
 m : Int
 f : Int
 t : Int
 sales : Int
 coins : Int
 deriving DecidableEq
def zCI (c : Cnt) (r : Rec) : Lk := ⟨r.m, c.s, r.s, r.a - c.a - c.sales, r.b - c.b - c.coins⟩
def zKJ (c : Cnt) (r : Rec) : Bool := decide (0 ≤ (zCI c r).sales) && decide ((zCI c r).sales ≤ r.s - c.s - 1 - c.len) && decide (0 ≤ (zCI c r).coins) && decide ((zCI c r).coins ≤ 10000 * (zCI c r).sales)
def xW (L : List Rec) : Nat → Option (List Lk)
 | 0 => some []
 | i + 1 => match xW L i, L[i]? with
  | some o, some r => if r.k = 2 then (if zKJ (xG L r.m i) r then some (if 0 < (zCI (xG L r.m i) r).sales then o ++ [zCI (xG L r.m i) r] else o) else none) else some o
  | _, _ => none
def vP (L : List Rec) : Option (List Lk) := xW L L.length
theorem zHJ {L : List Rec} {m : Int} {i : Nat} {r : Rec} (h : L[i]? = some r) : xG L m (i + 1) = zCR m (xG L m i) r := by
 unfold xG
 rw [List.take_add_one, h]
 simp
end Go.Proofs.Ytffgfojabcbegaa

namespace Go.Proofs.Ytffgfojabcbegaa
set_option linter.unusedVariables false
def zBF (m : Int) : Rec := ⟨m, 0, 0, 0, 0, 0⟩
def bS (c : Cnt) (r : Rec) : Cnt := if r.k = 0 then { c with sales := c.sales + 1, coins := c.coins + r.b, len := c.len + 1 } else { c with len := c.len + 1 }
def zBD (F : Rec) (B : List Rec) : Cnt := B.foldl bS ⟨F.s, F.a, F.b, 0, 0, 0⟩
theorem yBX {F r : Rec} {B : List Rec} : zBD F (B ++ [r]) = bS (zBD F B) r := by simp [zBD]
theorem yBY {L : List Rec} {m : Int} : ∀ {i : Nat}, (∀ (j : Nat) (x : Rec), j < i → L[j]? = some x → x.m ≠ m) → xG L m i = c0
 | 0, _ => rfl
 | i + 1, h => by
  have ih := yBY (L := L) (m := m) (i := i) fun j x hj hx => h j x (by omega) hx
  cases e : L[i]? with
  | some r => rw [zHJ e, ih]; exact if_neg (h i r (by omega) e)
  | none =>
   have : L.length ≤ i := List.getElem?_eq_none_iff.1 e
   unfold xG at *
   rw [List.take_of_length_le (by omega)] at ih ⊢
   exact ih
theorem srt_new {L : List Rec} (hs : Srt L) {i : Nat} {x r : Rec} (hx : L[i]? = some x) (hr : L[i + 1]? = some r) (hm : x.m ≠ r.m) : ∀ (j : Nat) (y : Rec), j < i + 1 → L[j]? = some y → y.m ≠ r.m := fun j y hj hy => by
 have k1 := zID hs hx hr (by omega)
 by_cases e : j = i
 ·subst e; rw [hx] at hy; cases hy; exact hm
 ·have k2 := zID hs hy hx (by omega)
  unfold xE at *
  omega
theorem zKL {L : List Rec} {i : Nat} {r : Rec} {o : List Lk} (h : xW L i = some o) (hr : L[i]? = some r) : xW L (i + 1) = if r.k = 2 then (if zKJ (xG L r.m i) r then some (if 0 < (zCI (xG L r.m i) r).sales then o ++ [zCI (xG L r.m i) r] else o) else none) else some o := by
 show (match xW L i, L[i]? with
  | some o, some r => if r.k = 2 then (if zKJ (xG L r.m i) r then some (if 0 < (zCI (xG L r.m i) r).sales then o ++ [zCI (xG L r.m i) r] else o) else none) else some o
  | _, _ => none) = _
 rw [h, hr]
theorem zQB {L : List Rec} : ∀ {i j : Nat}, xW L i = none → i ≤ j → xW L j = none
 | i, j, h, hij => by
  obtain ⟨d, rfl⟩ : ∃ d, j = i + d := ⟨j - i, by omega⟩
  induction d with
  | zero => exact h
  | succ d ih =>
   have := ih (by omega)
   show (match xW L (i + d), L[i + d]? with
    | some o, some r => if r.k = 2 then (if zKJ (xG L r.m (i + d)) r then some (if 0 < (zCI (xG L r.m (i + d)) r).sales then o ++ [zCI (xG L r.m (i + d)) r] else o) else none) else some o
    | _, _ => none) = none
   rw [this]
end Go.Proofs.Ytffgfojabcbegaa

namespace Go.Proofs.Ytffgfojabcbegaa
set_option linter.unusedVariables false
section
variable {L : List Rec} {rate : Int} {W : Nat → Int}
theorem yGX {L L' : List Rec} (hs : Srt L) (h : ∀ (i : Nat) x', L'[i]? = some x' → ∃ x, L[i]? = some x ∧ x'.m = x.m ∧ x'.s = x.s) : Srt L' := yZT fun i x y hx hy => by
 obtain ⟨a, ha, e1, e2⟩ := h i x hx
 obtain ⟨b, hb, e3, e4⟩ := h (i + 1) y hy
 have := zID hs ha hb (by omega)
 unfold xE at this ⊢
 omega
theorem yXW {L L' : List Rec} (hs : Srt L) (hc : zAZ L) (h : ∀ (i : Nat) x', L'[i]? = some x' → ∃ x, L[i]? = some x ∧ x'.m = x.m ∧ x'.s = x.s ∧ x'.t = x.t) : zAZ L' := zTR (yGX hs fun i x' hx => by
  obtain ⟨x, h1, h2, h3, _⟩ := h i x' hx; exact ⟨x, h1, h2, h3⟩) fun i x y hx hy hm => by
 obtain ⟨a, ha, e1, e2, e5⟩ := h i x hx
 obtain ⟨b, hb, e3, e4, e6⟩ := h (i + 1) y hy
 have := (yKH hs hc ha hb (by omega) (by omega)).2
 omega
theorem yQ {i : Nat} {r : Rec} (h : L[i]? = some r) : L.getD i default = r := by rw [List.getD_eq_getElem?_getD, h]; rfl
end
end Go.Proofs.Ytffgfojabcbegaa
