
import Derived.Test.YtffgfojabcbegaaPB
namespace Go.Proofs.Ytffgfojabcbegaa
set_option linter.unusedVariables false
def uW (m : Int) : Rec := ⟨m, 0, 0, 0, 0, 0⟩
def wG (L : List Rec) (m : Int) : Nat → Rec
 | 0 => uW m
 | i + 1 => match L[i]? with
  | some r => if r.m = m ∧ r.k = 2 then r else wG L m i
  | none => wG L m i
theorem zHW {L : List Rec} {m : Int} {i : Nat} {r : Rec} (h : L[i]? = some r) : wG L m (i + 1) = if r.m = m ∧ r.k = 2 then r else wG L m i := by
 show (match L[i]? with | some r => if r.m = m ∧ r.k = 2 then r else wG L m i | none => wG L m i) = _
 rw [h]
theorem lastTo_m {L : List Rec} {m : Int} : ∀ {i : Nat}, i ≤ L.length → (wG L m i).m = m
 | 0, _ => rfl
 | i + 1, hi => by
  rw [zHW (r := L[i]'(by omega)) (by simp)]
  split
  ·rename_i h; exact h.1
  ·exact lastTo_m (by omega)
theorem cnt_last {L : List Rec} {m : Int} : ∀ {i : Nat}, i ≤ L.length → (xK L m i).s = (wG L m i).s ∧ (xK L m i).a = (wG L m i).a ∧ (xK L m i).b = (wG L m i).b
 | 0, _ => ⟨rfl, rfl, rfl⟩
 | i + 1, hi => by
  have h : L[i]? = some (L[i]'(by omega)) := by simp
  have ih := cnt_last (L := L) (m := m) (i := i) (by omega)
  rw [zFY h, zHW h]
  generalize L[i]'(by omega) = r at *
  unfold cntS
  by_cases hm : r.m = m
  ·by_cases h2 : r.k = 2
   ·rw [if_pos hm, if_pos h2, if_pos ⟨hm, h2⟩]; exact ⟨rfl, rfl, rfl⟩
   ·have e3 : (if r.m = m ∧ r.k = 2 then r else wG L m i) = wG L m i := if_neg (fun h => h2 h.2)
    rw [if_pos hm, if_neg h2, e3]
    by_cases h0 : r.k = 0
    ·rw [if_pos h0]; exact ih
    ·rw [if_neg h0]; exact ih
  ·rw [if_neg hm, if_neg (fun h => hm h.1)]; exact ih
theorem last_lt {L : List Rec} {m : Int} (hs : Srt L) (h1 : ∀ r ∈ L, 1 ≤ r.s) : ∀ {i : Nat}, i ≤ L.length → ∀ (j : Nat) (x : Rec), i ≤ j → L[j]? = some x → x.m = m → (wG L m i).s < x.s
 | 0, _, j, x, _, hx, _ => by
  have := h1 x (List.mem_of_getElem? hx)
  show 0 < x.s; omega
 | i + 1, hi, j, x, hij, hx, hm => by
  have h : L[i]? = some (L[i]'(by omega)) := by simp
  rw [zHW h]
  split
  ·rename_i hh
   have := zIV hs h hx (by omega)
   unfold xI at this
   have := hh.1
   omega
  ·exact last_lt hs h1 (by omega) j x (by omega) hx hm
def zBT (m fs : Int) (c : Int × Int × Int) (r : Rec) : Int × Int × Int := if r.m = m ∧ fs < r.s then (if r.k = 0 then (c.1 + 1, c.2.1 + r.b, c.2.2 + 1) else (c.1, c.2.1, c.2.2 + 1)) else c
theorem refS_none {m fs : Int} : ∀ {l : List Rec} {c : Int × Int × Int}, (∀ r ∈ l, ¬ (r.m = m ∧ fs < r.s)) → l.foldl (zBT m fs) c = c
 | [], c, _ => rfl
 | r :: l, c, h => by
  rw [List.foldl_cons, show zBT m fs c r = c from if_neg (h r List.mem_cons_self)]
  exact refS_none fun x hx => h x (List.mem_cons_of_mem _ hx)
theorem cnt_ref {L : List Rec} {m : Int} (hs : Srt L) (h1 : ∀ r ∈ L, 1 ≤ r.s) : ∀ {i : Nat}, i ≤ L.length → (L.take i).foldl (zBT m (wG L m i).s) (0, 0, 0) = ((xK L m i).sales, (xK L m i).coins, (xK L m i).len)
 | 0, _ => rfl
 | i + 1, hi => by
  obtain ⟨r, h⟩ : ∃ r, L[i]? = some r := ⟨L[i]'(by omega), by simp⟩
  have ih := cnt_ref (m := m) hs h1 (i := i) (by omega)
  have hlt := last_lt (m := m) hs h1 (i := i) (by omega) i r (Nat.le_refl _) h
  rw [zFY h, zHW h]
  have e : L.take (i + 1) = L.take i ++ [r] := by rw [List.take_add_one, h]; rfl
  unfold cntS
  by_cases hm : r.m = m
  ·by_cases h2 : r.k = 2
   ·rw [if_pos hm, if_pos h2, if_pos ⟨hm, h2⟩]
    refine refS_none fun x hx => ?_
    rw [e] at hx
    rcases List.mem_append.1 hx with hx | hx
    ·obtain ⟨j, hj, rfl⟩ := List.mem_iff_getElem.1 hx
     have hj' : j < i := by simp at hj; omega
     have hg : L[j]? = some ((L.take i)[j]) := by rw [List.getElem_take]; simp
     have := zIV hs hg h hj'
     unfold xI at this
     omega
    ·rw [List.mem_singleton.1 hx]; omega
   ·have hlt := hlt hm
    have e3 : (if r.m = m ∧ r.k = 2 then r else wG L m i) = wG L m i := if_neg (fun h => h2 h.2)
    rw [if_pos hm, if_neg h2, e3, e, List.foldl_append, ih]
    show zBT m _ _ r = _
    unfold zBT
    rw [if_pos ⟨hm, hlt⟩]
    by_cases h0 : r.k = 0
    ·rw [if_pos h0, if_pos h0]
    ·rw [if_neg h0, if_neg h0]
  ·have e3 : (if r.m = m ∧ r.k = 2 then r else wG L m i) = wG L m i := if_neg (fun h => hm h.1)
   rw [if_neg hm, e3, e, List.foldl_append, ih]
   show zBT m _ _ r = _
   unfold zBT
   rw [if_neg (fun h => hm h.1)]
def bS (c : Cnt) (r : Rec) : Cnt := if r.k = 0 then { c with sales := c.sales + 1, coins := c.coins + r.b, len := c.len + 1 } else { c with len := c.len + 1 }
def zAJ (F : Rec) (B : List Rec) : Cnt := B.foldl bS ⟨F.s, F.a, F.b, 0, 0, 0⟩
theorem cntB_snoc {F r : Rec} {B : List Rec} : zAJ F (B ++ [r]) = bS (zAJ F B) r := by simp [zAJ]
theorem cntAt_new {L : List Rec} {m : Int} : ∀ {i : Nat}, (∀ (j : Nat) (x : Rec), j < i → L[j]? = some x → x.m ≠ m) → xK L m i = c0
 | 0, _ => rfl
 | i + 1, h => by
  have ih := cntAt_new (L := L) (m := m) (i := i) fun j x hj hx => h j x (by omega) hx
  cases e : L[i]? with
  | some r => rw [zFY e, ih]; exact if_neg (h i r (by omega) e)
  | none =>
   have : L.length ≤ i := List.getElem?_eq_none_iff.1 e
   unfold xK at *
   rw [List.take_of_length_le (by omega)] at ih ⊢
   exact ih
theorem srt_new {L : List Rec} (hs : Srt L) {i : Nat} {x r : Rec} (hx : L[i]? = some x) (hr : L[i + 1]? = some r) (hm : x.m ≠ r.m) : ∀ (j : Nat) (y : Rec), j < i + 1 → L[j]? = some y → y.m ≠ r.m := fun j y hj hy => by
 have k1 := zIV hs hx hr (by omega)
 by_cases e : j = i
 ·subst e; rw [hx] at hy; cases hy; exact hm
 ·have k2 := zIV hs hy hx (by omega)
  unfold xI at *
  omega
theorem zCP {L : List Rec} {i : Nat} {r : Rec} {o : List Lk} (h : vP L i = some o) (hr : L[i]? = some r) : vP L (i + 1) = if r.k = 2 then (if lkOk (xK L r.m i) r then some (if 0 < (zHT (xK L r.m i) r).sales then o ++ [zHT (xK L r.m i) r] else o) else none) else some o := by
 show (match vP L i, L[i]? with
  | some o, some r => if r.k = 2 then (if lkOk (xK L r.m i) r then some (if 0 < (zHT (xK L r.m i) r).sales then o ++ [zHT (xK L r.m i) r] else o) else none) else some o
  | _, _ => none) = _
 rw [h, hr]
theorem zCQ {L : List Rec} : ∀ {i j : Nat}, vP L i = none → i ≤ j → vP L j = none
 | i, j, h, hij => by
  obtain ⟨d, rfl⟩ : ∃ d, j = i + d := ⟨j - i, by omega⟩
  induction d with
  | zero => exact h
  | succ d ih =>
   have := ih (by omega)
   show (match vP L (i + d), L[i + d]? with
    | some o, some r => if r.k = 2 then (if lkOk (xK L r.m (i + d)) r then some (if 0 < (zHT (xK L r.m (i + d)) r).sales then o ++ [zHT (xK L r.m (i + d)) r] else o) else none) else some o
    | _, _ => none) = none
   rw [this]
end Go.Proofs.Ytffgfojabcbegaa
