import Derived.Test.YtffgfojabcbegaaPA

namespace Go.Proofs.Ytffgfojabcbegaa
set_option linter.unusedVariables false
structure Cnt where
 s : Int
 a : Int
 b : Int
 sales : Int
 coins : Int
 len : Int
 deriving DecidableEq
def c0 : Cnt := ⟨0, 0, 0, 0, 0, 0⟩
def zOJ (m : Int) (c : Cnt) (r : Rec) : Cnt :=
 if r.m = m then (if r.k = 2 then ⟨r.s, r.a, r.b, 0, 0, 0⟩ else if r.k = 0 then { c with sales := c.sales + 1, coins := c.coins + r.b, len := c.len + 1 } else { c with len := c.len + 1 }) else c
def xX (L : List Rec) (m : Int) (i : Nat) : Cnt := (L.take i).foldl (zOJ m) c0
structure Lk where
 m : Int
 f : Int
 t : Int
 sales : Int
 coins : Int
 deriving DecidableEq
def zIA (c : Cnt) (r : Rec) : Lk := ⟨r.m, c.s, r.s, r.a - c.a - c.sales, r.b - c.b - c.coins⟩
def zUW (c : Cnt) (r : Rec) : Bool := decide (0 ≤ (zIA c r).sales) && decide ((zIA c r).sales ≤ r.s - c.s - 1 - c.len) && decide (0 ≤ (zIA c r).coins) && decide ((zIA c r).coins ≤ 10000 * (zIA c r).sales)
def wJ (L : List Rec) : Nat → Option (List Lk)
 | 0 => some []
 | i + 1 => match wJ L i, L[i]? with
  | some o, some r => if r.k = 2 then (if zUW (xX L r.m i) r then some (if 0 < (zIA (xX L r.m i) r).sales then o ++ [zIA (xX L r.m i) r] else o) else none) else some o
  | _, _ => none
def zAM (L : List Rec) : Option (List Lk) := wJ L L.length
theorem zGG {L : List Rec} {m : Int} {i : Nat} {r : Rec} (h : L[i]? = some r) : xX L m (i + 1) = zOJ m (xX L m i) r := by
 unfold xX
 rw [List.take_add_one, h]
 simp
end Go.Proofs.Ytffgfojabcbegaa

namespace Go.Proofs.Ytffgfojabcbegaa
set_option linter.unusedVariables false
def zAX (m : Int) : Rec := ⟨m, 0, 0, 0, 0, 0⟩
def bS (c : Cnt) (r : Rec) : Cnt := if r.k = 0 then { c with sales := c.sales + 1, coins := c.coins + r.b, len := c.len + 1 } else { c with len := c.len + 1 }
def zAW (F : Rec) (B : List Rec) : Cnt := B.foldl bS ⟨F.s, F.a, F.b, 0, 0, 0⟩
theorem yAJ {F r : Rec} {B : List Rec} : zAW F (B ++ [r]) = bS (zAW F B) r := by simp [zAW]
theorem yAK {L : List Rec} {m : Int} : ∀ {i : Nat}, (∀ (j : Nat) (x : Rec), j < i → L[j]? = some x → x.m ≠ m) → xX L m i = c0
 | 0, _ => rfl
 | i + 1, h => by
  have ih := yAK (L := L) (m := m) (i := i) fun j x hj hx => h j x (by omega) hx
  cases e : L[i]? with
  | some r => rw [zGG e, ih]; exact if_neg (h i r (by omega) e)
  | none =>
   have : L.length ≤ i := List.getElem?_eq_none_iff.1 e
   unfold xX at *
   rw [List.take_of_length_le (by omega)] at ih ⊢
   exact ih
theorem srt_new {L : List Rec} (hs : Srt L) {i : Nat} {x r : Rec} (hx : L[i]? = some x) (hr : L[i + 1]? = some r) (hm : x.m ≠ r.m) : ∀ (j : Nat) (y : Rec), j < i + 1 → L[j]? = some y → y.m ≠ r.m := fun j y hj hy => by
 have k1 := zES hs hx hr (by omega)
 by_cases e : j = i
 ·subst e; rw [hx] at hy; cases hy; exact hm
 ·have k2 := zES hs hy hx (by omega)
  unfold xJ at *
  omega
theorem zJM {L : List Rec} {i : Nat} {r : Rec} {o : List Lk} (h : wJ L i = some o) (hr : L[i]? = some r) : wJ L (i + 1) = if r.k = 2 then (if zUW (xX L r.m i) r then some (if 0 < (zIA (xX L r.m i) r).sales then o ++ [zIA (xX L r.m i) r] else o) else none) else some o := by
 show (match wJ L i, L[i]? with
  | some o, some r => if r.k = 2 then (if zUW (xX L r.m i) r then some (if 0 < (zIA (xX L r.m i) r).sales then o ++ [zIA (xX L r.m i) r] else o) else none) else some o
  | _, _ => none) = _
 rw [h, hr]
theorem zOZ {L : List Rec} : ∀ {i j : Nat}, wJ L i = none → i ≤ j → wJ L j = none
 | i, j, h, hij => by
  obtain ⟨d, rfl⟩ : ∃ d, j = i + d := ⟨j - i, by omega⟩
  induction d with
  | zero => exact h
  | succ d ih =>
   have := ih (by omega)
   show (match wJ L (i + d), L[i + d]? with
    | some o, some r => if r.k = 2 then (if zUW (xX L r.m (i + d)) r then some (if 0 < (zIA (xX L r.m (i + d)) r).sales then o ++ [zIA (xX L r.m (i + d)) r] else o) else none) else some o
    | _, _ => none) = none
   rw [this]
end Go.Proofs.Ytffgfojabcbegaa

namespace Go.Proofs.Ytffgfojabcbegaa
set_option linter.unusedVariables false
section
variable {L : List Rec} {rate : Int} {W : Nat → Int}
theorem yES {L L' : List Rec} (hs : Srt L) (h : ∀ (i : Nat) x', L'[i]? = some x' → ∃ x, L[i]? = some x ∧ x'.m = x.m ∧ x'.s = x.s) : Srt L' := yXJ fun i x y hx hy => by
 obtain ⟨a, ha, e1, e2⟩ := h i x hx
 obtain ⟨b, hb, e3, e4⟩ := h (i + 1) y hy
 have := zES hs ha hb (by omega)
 unfold xJ at this ⊢
 omega
theorem yVL {L L' : List Rec} (hs : Srt L) (hc : zBO L) (h : ∀ (i : Nat) x', L'[i]? = some x' → ∃ x, L[i]? = some x ∧ x'.m = x.m ∧ x'.s = x.s ∧ x'.t = x.t) : zBO L' := zSA (yES hs fun i x' hx => by
  obtain ⟨x, h1, h2, h3, _⟩ := h i x' hx; exact ⟨x, h1, h2, h3⟩) fun i x y hx hy hm => by
 obtain ⟨a, ha, e1, e2, e5⟩ := h i x hx
 obtain ⟨b, hb, e3, e4, e6⟩ := h (i + 1) y hy
 have := (yIF hs hc ha hb (by omega) (by omega)).2
 omega
theorem yN {i : Nat} {r : Rec} (h : L[i]? = some r) : L.getD i default = r := by rw [List.getD_eq_getElem?_getD, h]; rfl
end
end Go.Proofs.Ytffgfojabcbegaa
