import Derived.Test.YtffgfojabcbegaaPA

namespace Go.Proofs.Ytffgfojabcbegaa
set_option linter.unusedVariables false
def pLo (d rate : Int) : Int := (d * (1000 - rate)).tdiv 1000
def pHi (d rate : Int) : Int := (d * (1000 + rate) + 999).tdiv 1000
def zBW (rate : Int) (r s : Rec) : Int × Int :=
 if s = r then (s.a, s.a) else if s.s < r.s then (s.a + pLo (r.t - s.t) rate, s.a + pHi (r.t - s.t) rate) else (s.a - pHi (s.t - r.t) rate, s.a - pLo (s.t - r.t) rate)
def zXF (w x : Int × Int) : Int × Int := (max w.1 x.1, min w.2 x.2)
def zJY (rate : Int) (r : Rec) (w : Int × Int) (s : Rec) : Int × Int := if s.m = r.m ∧ s.k = 1 then zXF w (zBW rate r s) else w
def uM (L : List Rec) (rate : Int) (r : Rec) : Int × Int := L.foldl (zJY rate r) (0, 1000000)
def okW (w : Int × Int) : Bool := decide (w.1 ≤ w.2)
def wW (L : List Rec) (rate : Int) : Option (List (Int × Int)) := if L.all (fun r => okW (uM L rate r)) then some (L.map (uM L rate)) else none
structure Cnt where
 s : Int
 a : Int
 b : Int
 sales : Int
 coins : Int
 len : Int
 deriving DecidableEq
def c0 : Cnt := ⟨0, 0, 0, 0, 0, 0⟩
def cntS (m : Int) (c : Cnt) (r : Rec) : Cnt :=
 if r.m = m then (if r.k = 2 then ⟨r.s, r.a, r.b, 0, 0, 0⟩ else if r.k = 0 then { c with sales := c.sales + 1, coins := c.coins + r.b, len := c.len + 1 } else { c with len := c.len + 1 }) else c
def zAC (L : List Rec) (m : Int) (i : Nat) : Cnt := (L.take i).foldl (cntS m) c0
structure Lk where
 m : Int
 f : Int
 t : Int
 sales : Int
 coins : Int
 deriving DecidableEq
def zMU (c : Cnt) (r : Rec) : Lk := ⟨r.m, c.s, r.s, r.a - c.a - c.sales, r.b - c.b - c.coins⟩
def yGJ (c : Cnt) (r : Rec) : Bool := decide (0 ≤ (zMU c r).sales) && decide ((zMU c r).sales ≤ r.s - c.s - 1 - c.len) && decide (0 ≤ (zMU c r).coins) && decide ((zMU c r).coins ≤ 10000 * (zMU c r).sales)
def uG (L : List Rec) : Nat → Option (List Lk)
 | 0 => some []
 | i + 1 => match uG L i, L[i]? with
  | some o, some r => if r.k = 2 then (if yGJ (zAC L r.m i) r then some (if 0 < (zMU (zAC L r.m i) r).sales then o ++ [zMU (zAC L r.m i) r] else o) else none) else some o
  | _, _ => none
def vA (L : List Rec) : Option (List Lk) := uG L L.length
theorem zOE {L : List Rec} {m : Int} {i : Nat} {r : Rec} (h : L[i]? = some r) : zAC L m (i + 1) = cntS m (zAC L m i) r := by
 unfold zAC
 rw [List.take_add_one, h]
 simp
end Go.Proofs.Ytffgfojabcbegaa

namespace Go.Proofs.Ytffgfojabcbegaa
set_option linter.unusedVariables false
def zAU (m : Int) : Rec := ⟨m, 0, 0, 0, 0, 0⟩
def bS (c : Cnt) (r : Rec) : Cnt := if r.k = 0 then { c with sales := c.sales + 1, coins := c.coins + r.b, len := c.len + 1 } else { c with len := c.len + 1 }
def zAS (F : Rec) (B : List Rec) : Cnt := B.foldl bS ⟨F.s, F.a, F.b, 0, 0, 0⟩
theorem yAD {F r : Rec} {B : List Rec} : zAS F (B ++ [r]) = bS (zAS F B) r := by simp [zAS]
theorem yAE {L : List Rec} {m : Int} : ∀ {i : Nat}, (∀ (j : Nat) (x : Rec), j < i → L[j]? = some x → x.m ≠ m) → zAC L m i = c0
 | 0, _ => rfl
 | i + 1, h => by
  have ih := yAE (L := L) (m := m) (i := i) fun j x hj hx => h j x (by omega) hx
  cases e : L[i]? with
  | some r => rw [zOE e, ih]; exact if_neg (h i r (by omega) e)
  | none =>
   have : L.length ≤ i := List.getElem?_eq_none_iff.1 e
   unfold zAC at *
   rw [List.take_of_length_le (by omega)] at ih ⊢
   exact ih
theorem srt_new {L : List Rec} (hs : Srt L) {i : Nat} {x r : Rec} (hx : L[i]? = some x) (hr : L[i + 1]? = some r) (hm : x.m ≠ r.m) : ∀ (j : Nat) (y : Rec), j < i + 1 → L[j]? = some y → y.m ≠ r.m := fun j y hj hy => by
 have k1 := zKF hs hx hr (by omega)
 by_cases e : j = i
 ·subst e; rw [hx] at hy; cases hy; exact hm
 ·have k2 := zKF hs hy hx (by omega)
  unfold wE at *
  omega
theorem zES {L : List Rec} {i : Nat} {r : Rec} {o : List Lk} (h : uG L i = some o) (hr : L[i]? = some r) : uG L (i + 1) = if r.k = 2 then (if yGJ (zAC L r.m i) r then some (if 0 < (zMU (zAC L r.m i) r).sales then o ++ [zMU (zAC L r.m i) r] else o) else none) else some o := by
 show (match uG L i, L[i]? with
  | some o, some r => if r.k = 2 then (if yGJ (zAC L r.m i) r then some (if 0 < (zMU (zAC L r.m i) r).sales then o ++ [zMU (zAC L r.m i) r] else o) else none) else some o
  | _, _ => none) = _
 rw [h, hr]
theorem zJF {L : List Rec} : ∀ {i j : Nat}, uG L i = none → i ≤ j → uG L j = none
 | i, j, h, hij => by
  obtain ⟨d, rfl⟩ : ∃ d, j = i + d := ⟨j - i, by omega⟩
  induction d with
  | zero => exact h
  | succ d ih =>
   have := ih (by omega)
   show (match uG L (i + d), L[i + d]? with
    | some o, some r => if r.k = 2 then (if yGJ (zAC L r.m (i + d)) r then some (if 0 < (zMU (zAC L r.m (i + d)) r).sales then o ++ [zMU (zAC L r.m (i + d)) r] else o) else none) else some o
    | _, _ => none) = none
   rw [this]
end Go.Proofs.Ytffgfojabcbegaa

namespace Go.Proofs.Ytffgfojabcbegaa
set_option linter.unusedVariables false
theorem yCE {L : List Rec} (hs : Srt L) (hc : zAQ L) {x y : Rec} (hx : x ∈ L) (hy : y ∈ L) (hm : x.m = y.m) (h : x.s < y.s) : x.t ≤ y.t := by
 have c1 := hc x hx y hy
 by_cases ht : x.t ≤ y.t
 ·exact ht
 ·have : wC x y = true := wB.2 ⟨fun e => by subst e; omega, hm, .inr (.inr ⟨h, by omega⟩)⟩
  simp_all
theorem yWG {L : List Rec} (hc : zAQ L) {x y : Rec} (hx : x ∈ L) (hy : y ∈ L) (hm : x.m = y.m) (h : x.s = y.s) : x = y := hc.key hx hy ⟨hm, h⟩
section
variable {L : List Rec} {rate : Int} {W : Nat → Int}
theorem yV {i : Nat} {r : Rec} (h : L[i]? = some r) : L.getD i default = r := by rw [List.getD_eq_getElem?_getD, h]; rfl
end
end Go.Proofs.Ytffgfojabcbegaa
