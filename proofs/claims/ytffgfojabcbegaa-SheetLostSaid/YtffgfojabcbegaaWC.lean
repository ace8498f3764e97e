
import Derived.Test.YtffgfojabcbegaaWB
namespace Go.Proofs.Ytffgfojabcbegaa
set_option linter.unusedVariables false
def yAZ (m : Int) (c : Int × Int) (r : Rec) : Int × Int := if r.m = m ∧ r.k = 0 then (c.1 + 1, c.2 + r.b) else c
def zAD (L : List Rec) (m : Int) (i : Nat) : Int × Int := (L.take i).foldl (yAZ m) (0, 0)
def vF (L : List Rec) (i : Nat) (r : Rec) : Rec := if r.k = 2 then { r with a := (zAD L r.m i).1, b := (zAD L r.m i).2 } else r
def xD (L : List Rec) : List Rec := L.mapIdx (vF L)
theorem zAH {L : List Rec} {i : Nat} {r : Rec} : (vF L i r).m = r.m ∧ (vF L i r).s = r.s ∧ (vF L i r).t = r.t ∧ (vF L i r).k = r.k := by
 unfold vF; split <;> exact ⟨rfl, rfl, rfl, rfl⟩
theorem zTO {L : List Rec} {i : Nat} {r : Rec} (h : r.k ≠ 2) : vF L i r = r := if_neg h
theorem zJC {α : Type} {xs : List α} {i : Nat} {x : α} (h : xs[i]? = some x) : xs.take (i + 1) = xs.take i ++ [x] := by
 rw [List.take_add_one, h]; rfl
section
variable {L : List Rec}
theorem zJA {m : Int} {i : Nat} {r : Rec} (h : L[i]? = some r) : zAD L m (i + 1) = yAZ m (zAD L m i) r := by
 unfold zAD
 rw [zJC h, List.foldl_append]; rfl
theorem zNY {m : Int} : ∀ {i : Nat}, (∀ j x, j < i → L[j]? = some x → x.m ≠ m) → zAD L m i = (0, 0)
 | 0, _ => rfl
 | i + 1, h => by
  cases e : L[i]? with
  | none =>
   have : L.take (i + 1) = L.take i := by rw [List.take_add_one, e]; simp
   unfold zAD
   rw [this]
   exact zNY (i := i) fun j x hj hx => h j x (by omega) hx
  | some r =>
   rw [zJA e, zNY fun j x hj hx => h j x (by omega) hx]
   unfold yAZ
   rw [if_neg (fun hh => h i r (by omega) e hh.1)]
theorem zGV : (xD L).length = L.length := by simp [xD]
theorem zLM {i : Nat} : (xD L)[i]? = (L[i]?).map (vF L i) := by simp [xD, List.getElem?_mapIdx]
theorem zGH {i : Nat} {x : Rec} (h : (xD L)[i]? = some x) : ∃ r, L[i]? = some r ∧ x = vF L i r := by
 rw [zLM] at h
 cases e : L[i]? with
 | none => rw [e] at h; cases h
 | some r => rw [e] at h; exact ⟨r, rfl, by simpa using h.symm⟩
theorem zSB (hs : Srt L) : Srt (xD L) := yES hs fun i x' hx => by
 obtain ⟨r, h1, rfl⟩ := zGH hx
 exact ⟨r, h1, zAH.1, zAH.2.1⟩
theorem yDT (hs : Srt L) (hc : zBO L) : zBO (xD L) := yVL hs hc fun i x' hx => by
 obtain ⟨r, h1, rfl⟩ := zGH hx
 exact ⟨r, h1, zAH.1, zAH.2.1, zAH.2.2.1⟩
theorem zTE {m : Int} {B : Int} (hB : 0 ≤ B) (hb : ∀ x ∈ L, x.k = 0 → 0 ≤ x.b ∧ x.b ≤ B) : ∀ (i : Nat), 0 ≤ (zAD L m i).1 ∧ (zAD L m i).1 ≤ i ∧ 0 ≤ (zAD L m i).2 ∧ (zAD L m i).2 ≤ B * i
 | 0 => by simp [zAD]
 | i + 1 => by
  obtain ⟨h1, h2, h3, h4⟩ := zTE (m := m) hB hb i
  have e : B * ((i + 1 : Nat) : Int) = B * (i : Int) + B := by rw [show ((i + 1 : Nat) : Int) = (i : Int) + 1 by omega, Int.mul_add, Int.mul_one]
  rw [e]
  cases e : L[i]? with
  | none =>
   have : zAD L m (i + 1) = zAD L m i := by unfold zAD; rw [List.take_add_one, e]; simp
   rw [this]; omega
  | some r =>
   rw [zJA e]
   unfold yAZ
   split
   ·rename_i hh
    have := hb r (List.mem_of_getElem? e) hh.2
    exact ⟨by simp only; omega, by simp only; omega, by simp only; omega, by simp only; omega⟩
   ·omega
end
def zCK (l : List Rec) (m : Int) : Cnt := l.foldl (zOJ m) c0
theorem zEA {l : List Rec} {m : Int} {r : Rec} : zCK (l ++ [r]) m = zOJ m (zCK l m) r := by unfold zCK; rw [List.foldl_append]; rfl
theorem cntAt_eq {L : List Rec} {m : Int} {i : Nat} : xX L m i = zCK (L.take i) m := rfl
theorem cnt_room {l : List Rec} {r : Rec} (hs : Srt (l ++ [r])) (h1 : ∀ x ∈ l ++ [r], 1 ≤ x.s) : (zCK l r.m).s + (zCK l r.m).len < r.s ∧ 0 ≤ (zCK l r.m).len := by
 have key : ∀ (n : Nat) (l : List Rec) (r : Rec), l.length = n → Srt (l ++ [r]) → (∀ x ∈ l ++ [r], 1 ≤ x.s) → (zCK l r.m).s + (zCK l r.m).len < r.s ∧ 0 ≤ (zCK l r.m).len := by
  intro n
  induction n with
  | zero =>
   intro l r hl hs h1
   have : l = [] := List.eq_nil_of_length_eq_zero hl
   subst this
   have := h1 r (by simp)
   show (0 : Int) + 0 < r.s ∧ (0 : Int) ≤ 0
   omega
  | succ n ih =>
   intro l r hl hs h1
   rcases List.eq_nil_or_concat l with rfl | ⟨l, y, rfl⟩
   ·simp at hl
   simp only [List.concat_eq_append] at *
   have hlen : l.length = n := by simpa using hl
   have p := List.pairwise_append.1 hs
   have pl := List.pairwise_append.1 p.1
   rw [zEA]
   unfold zOJ
   have hsub : Srt (l ++ [r]) := List.pairwise_append.2 ⟨pl.1, by simp, fun a ha b hb => p.2.2 a (by simp [ha]) b hb⟩
   by_cases hm : y.m = r.m
   ·have hyr : y.s < r.s := by have := p.2.2 y (by simp) r (by simp); unfold xJ at this; omega
    have hy := ih l y hlen p.1 (fun x hx => h1 x (by simp at hx ⊢; rcases hx with h | h <;> simp [h]))
    rw [if_pos hm]
    rw [hm] at hy
    split
    ·exact ⟨by simp only; omega, by simp only; omega⟩
    ·split
     ·exact ⟨by simp only; omega, by simp only; omega⟩
     ·exact ⟨by simp only; omega, by simp only; omega⟩
   ·rw [if_neg hm]
    exact ih l r hlen hsub (fun x hx => h1 x (by simp at hx ⊢; rcases hx with h | h <;> simp [h]))
 exact key l.length l r rfl hs h1
def zLE (m : Int) (c : Int × Int) (r : Rec) (gone : Bool) : Int × Int := if r.m = m then (if r.k = 2 then (0, 0) else if gone then (c.1 + 1, c.2 + r.b) else c) else c
section
variable {F : List Rec} (G : Nat → Bool)
def zAR (i : Nat) (r : Rec) : Bool := decide (r.k = 0) && G i
def yC (F : List Rec) : Nat → List Rec
 | 0 => []
 | i + 1 => match F[i]? with
  | some r => if zAR G i r then yC F i else yC F i ++ [r]
  | none => yC F i
def yI (F : List Rec) (m : Int) : Nat → Int × Int
 | 0 => (0, 0)
 | i + 1 => match F[i]? with
  | some r => zLE m (yI F m i) r (zAR G i r)
  | none => yI F m i
def yX (F : List Rec) : Nat → List Lk
 | 0 => []
 | i + 1 => match F[i]? with
  | some r => if r.k = 2 ∧ 0 < (yI G F r.m i).1 then yX F i ++ [Lk.mk r.m (zCK (yC G F i) r.m).s r.s (yI G F r.m i).1 (yI G F r.m i).2] else yX F i
  | none => yX F i
theorem zCY {i : Nat} {r : Rec} (h : F[i]? = some r) : yC G F (i + 1) = if zAR G i r then yC G F i else yC G F i ++ [r] := by
 show (match F[i]? with | some r => if zAR G i r then yC G F i else yC G F i ++ [r] | none => yC G F i) = _
 rw [h]
theorem zGA {m : Int} {i : Nat} {r : Rec} (h : F[i]? = some r) : yI G F m (i + 1) = zLE m (yI G F m i) r (zAR G i r) := by
 show (match F[i]? with | some r => zLE m (yI G F m i) r (zAR G i r) | none => yI G F m i) = _
 rw [h]
theorem zOP {i : Nat} {r : Rec} (h : F[i]? = some r) : yX G F (i + 1) = if r.k = 2 ∧ 0 < (yI G F r.m i).1 then yX G F i ++ [Lk.mk r.m (zCK (yC G F i) r.m).s r.s (yI G F r.m i).1 (yI G F r.m i).2] else yX G F i := by
 show (match F[i]? with | some r => if r.k = 2 ∧ 0 < (yI G F r.m i).1 then yX G F i ++ [Lk.mk r.m (zCK (yC G F i) r.m).s r.s (yI G F r.m i).1 (yI G F r.m i).2] else yX G F i | none => yX G F i) = _
 rw [h]
theorem zGE : ∀ {i : Nat}, (yC G F i).Sublist (F.take i)
 | 0 => by simp [yC]
 | i + 1 => by
  cases e : F[i]? with
  | none =>
   have : F.take (i + 1) = F.take i := by rw [List.take_add_one, e]; simp
   have h2 : yC G F (i + 1) = yC G F i := by
    show (match F[i]? with | some r => if zAR G i r then yC G F i else yC G F i ++ [r] | none => yC G F i) = _
    rw [e]
   rw [this, h2]; exact zGE
  | some r =>
   rw [zJC e, zCY G e]
   split
   ·exact zGE.trans (List.sublist_append_left _ _)
   ·exact zGE.append (List.Sublist.refl _)
theorem yGS {m : Int} : ∀ {i : Nat}, i ≤ F.length → (xX F m i).s = (zCK (yC G F i) m).s ∧ (xX F m i).a = (zCK (yC G F i) m).a ∧ (xX F m i).b = (zCK (yC G F i) m).b ∧
  (xX F m i).sales = (zCK (yC G F i) m).sales + (yI G F m i).1 ∧ (xX F m i).coins = (zCK (yC G F i) m).coins + (yI G F m i).2 ∧ (xX F m i).len = (zCK (yC G F i) m).len + (yI G F m i).1
 | 0, _ => ⟨rfl, rfl, rfl, rfl, rfl, rfl⟩
 | i + 1, hi => by
  have h : F[i]? = some (F[i]'(by omega)) := by simp
  obtain ⟨i1, i2, i3, i4, i5, i6⟩ := yGS (m := m) (i := i) (by omega)
  rw [zGG h, zCY G h, zGA G h]
  generalize F[i]'(by omega) = r at *
  unfold zOJ zLE
  by_cases hm : r.m = m
  ·by_cases h2 : r.k = 2
   ·have g : zAR G i r = false := by unfold zAR; simp [h2]
    rw [g, if_pos hm, if_pos h2, if_neg Bool.false_ne_true, zEA]
    unfold zOJ
    rw [if_pos hm, if_pos h2, if_pos hm, if_pos h2]
    exact ⟨rfl, rfl, rfl, rfl, rfl, rfl⟩
   ·cases g : zAR G i r with
    | true =>
     have h0 : r.k = 0 := by unfold zAR at g; simp at g; exact g.1
     rw [if_pos hm, if_neg h2, if_pos h0, if_pos rfl, if_pos hm, if_neg h2, if_pos rfl]
     exact ⟨i1, i2, i3, by simp only; omega, by simp only; omega, by simp only; omega⟩
    | false =>
     rw [if_neg Bool.false_ne_true, zEA]
     unfold zOJ
     rw [if_pos hm, if_neg h2, if_pos hm, if_neg h2]
     rw [if_pos hm, if_neg h2]
     simp only [Bool.false_eq_true, if_false]
     split
     ·exact ⟨i1, i2, i3, by simp only; omega, by simp only; omega, by simp only; omega⟩
     ·exact ⟨i1, i2, i3, i4, i5, by simp only; omega⟩
  ·rw [if_neg hm, if_neg hm]
   split
   ·exact ⟨i1, i2, i3, i4, i5, i6⟩
   ·rw [zEA]; unfold zOJ; rw [if_neg hm]; exact ⟨i1, i2, i3, i4, i5, i6⟩
theorem yDC {m : Int} (hb : ∀ x ∈ F, x.k = 0 → 0 ≤ x.b ∧ x.b ≤ 10000) : ∀ {i : Nat}, i ≤ F.length → 0 ≤ (yI G F m i).1 ∧ (yI G F m i).1 ≤ i ∧ 0 ≤ (yI G F m i).2 ∧ (yI G F m i).2 ≤ 10000 * (yI G F m i).1
 | 0, _ => by simp [yI]
 | i + 1, hi => by
  have h : F[i]? = some (F[i]'(by omega)) := by simp
  obtain ⟨i1, i2, i3, i4⟩ := yDC (m := m) hb (i := i) (by omega)
  rw [zGA G h]
  have hbi := hb (F[i]'(by omega)) (by simp)
  generalize F[i]'(by omega) = r at *
  unfold zLE
  split
  ·split
   ·simp; omega
   ·split
    ·rename_i g
     have h0 : r.k = 0 := by unfold zAR at g; simp at g; exact g.1
     have := hbi h0
     exact ⟨by simp only; omega, by simp only; omega, by simp only; omega, by simp only; omega⟩
    ·exact ⟨i1, by omega, i3, i4⟩
  ·exact ⟨i1, by omega, i3, i4⟩
theorem zZL {m : Int} : ∀ {i : Nat}, (∀ j x, j < i → F[j]? = some x → x.m ≠ m) → yI G F m i = (0, 0) ∧ zCK (yC G F i) m = c0
 | 0, _ => ⟨rfl, rfl⟩
 | i + 1, h => by
  obtain ⟨h1, h2⟩ := zZL (m := m) (i := i) fun j x hj hx => h j x (by omega) hx
  cases e : F[i]? with
  | none =>
   have e1 : yI G F m (i + 1) = yI G F m i := by
    show (match F[i]? with | some r => zLE m (yI G F m i) r (zAR G i r) | none => yI G F m i) = _
    rw [e]
   have e2 : yC G F (i + 1) = yC G F i := by
    show (match F[i]? with | some r => if zAR G i r then yC G F i else yC G F i ++ [r] | none => yC G F i) = _
    rw [e]
   rw [e1, e2]; exact ⟨h1, h2⟩
  | some r =>
   have hne := h i r (by omega) e
   rw [zGA G e, zCY G e]
   constructor
   ·unfold zLE; rw [if_neg hne]; exact h1
   ·split
    ·exact h2
    ·rw [zEA]; unfold zOJ; rw [if_neg hne]; exact h2
end
theorem zWI {L : List Rec} {m : Int} : ∀ {i : Nat}, i ≤ L.length → (xX (xD L) m i).a + (xX (xD L) m i).sales = (zAD L m i).1 ∧ (xX (xD L) m i).b + (xX (xD L) m i).coins = (zAD L m i).2
 | 0, _ => by simp [xX, zAD, c0]
 | i + 1, hi => by
  have h : L[i]? = some (L[i]'(by omega)) := by simp
  have hF : (xD L)[i]? = some (vF L i (L[i]'(by omega))) := by rw [zLM, h]; rfl
  obtain ⟨i1, i2⟩ := zWI (L := L) (m := m) (i := i) (by omega)
  rw [zGG hF, zJA h]
  generalize L[i]'(by omega) = r at *
  unfold zOJ yAZ
  rw [zAH.1, zAH.2.2.2]
  by_cases hm : r.m = m
  ·rw [if_pos hm]
   by_cases h2 : r.k = 2
   ·rw [if_pos h2, if_neg (fun h => by omega)]
    unfold vF
    rw [if_pos h2, hm]
    exact ⟨by simp, by simp⟩
   ·rw [if_neg h2, zTO h2]
    by_cases h0 : r.k = 0
    ·rw [if_pos h0, if_pos ⟨hm, h0⟩]; exact ⟨by simp only; omega, by simp only; omega⟩
    ·rw [if_neg h0, if_neg (fun h => h0 h.2)]; exact ⟨i1, i2⟩
  ·rw [if_neg hm, if_neg (fun h => hm h.1)]; exact ⟨i1, i2⟩
theorem zUU {L : List Rec} (G : Nat → Bool) (hs : Srt L) (h1 : ∀ x ∈ L, 1 ≤ x.s) (hb : ∀ x ∈ L, x.k = 0 → 0 ≤ x.b ∧ x.b ≤ 10000) : ∀ {i : Nat}, i ≤ L.length → wJ (yC G (xD L) i) (yC G (xD L) i).length = some (yX G (xD L) i)
 | 0, _ => rfl
 | i + 1, hi => by
  have h : L[i]? = some (L[i]'(by omega)) := by simp
  have hF : (xD L)[i]? = some (vF L i (L[i]'(by omega))) := by rw [zLM, h]; rfl
  have ih := zUU G hs h1 hb (i := i) (by omega)
  have hsF := zSB hs
  have hbF : ∀ x ∈ xD L, x.k = 0 → 0 ≤ x.b ∧ x.b ≤ 10000 := by
   intro x hx hk
   obtain ⟨j, hj, rfl⟩ := List.mem_iff_getElem.1 hx
   obtain ⟨r, e1, e2⟩ := zGH (List.getElem?_eq_getElem hj)
   rw [e2] at hk ⊢
   rw [zAH.2.2.2] at hk
   rw [zTO (by omega)]
   exact hb r (List.mem_of_getElem? e1) hk
  obtain ⟨q1, q2⟩ := zWI (L := L) (m := (L[i]'(by omega)).m) (i := i) (by omega)
  obtain ⟨p1, p2, p3, p4, p5, p6⟩ := yGS (F := xD L) G (m := (L[i]'(by omega)).m) (i := i) (by rw [zGV]; omega)
  obtain ⟨b1, b2, b3, b4⟩ := yDC (F := xD L) G (m := (L[i]'(by omega)).m) hbF (i := i) (by rw [zGV]; omega)
  have hroom := cnt_room (l := (xD L).take i) (r := vF L i (L[i]'(by omega))) (by rw [← zJC hF]; exact hsF.sublist (List.take_sublist _ _)) (fun x hx => by
   rw [← zJC hF] at hx
   obtain ⟨j, hj, rfl⟩ := List.mem_iff_getElem.1 (List.mem_of_mem_take hx)
   obtain ⟨r, e1, e2⟩ := zGH (List.getElem?_eq_getElem hj)
   rw [e2, zAH.2.1]
   exact h1 r (List.mem_of_getElem? e1))
  rw [← cntAt_eq] at hroom
  rw [zAH.1, zAH.2.1] at hroom
  rw [zCY G hF, zOP G hF]
  generalize hr : L[i]'(by omega) = r at *
  have ek : (vF L i r).k = r.k := zAH.2.2.2
  have em : (vF L i r).m = r.m := zAH.1
  have es : (vF L i r).s = r.s := zAH.2.1
  rw [em, es]
  cases g : zAR G i (vF L i r) with
  | true =>
   have h0 : (vF L i r).k = 0 := by unfold zAR at g; simp at g; exact g.1
   rw [if_pos rfl, if_neg (fun hh => by omega)]
   exact ih
  | false =>
   rw [if_neg Bool.false_ne_true]
   obtain ⟨l, hl⟩ : ∃ l, l = yC G (xD L) i := ⟨_, rfl⟩
   rw [← hl] at ih p1 p2 p3 p4 p5 p6 ⊢
   have e1 : wJ (l ++ [vF L i r]) l.length = wJ l l.length := by
    have key : ∀ j, j ≤ l.length → wJ (l ++ [vF L i r]) j = wJ l j := by
     intro j
     induction j with
     | zero => intro _; rfl
     | succ j ihj =>
      intro hj
      have e : (l ++ [vF L i r])[j]? = l[j]? := List.getElem?_append_left (by omega)
      have e3 : ∀ m, xX (l ++ [vF L i r]) m j = xX l m j := fun m => by unfold xX; rw [List.take_append_of_le_length (by omega)]
      show (match wJ (l ++ [vF L i r]) j, (l ++ [vF L i r])[j]? with | some o, some r' => _ | _, _ => none) = (match wJ l j, l[j]? with | some o, some r' => _ | _, _ => none)
      rw [ihj (by omega), e]
      cases wJ l j with
      | none => rfl
      | some o =>
       cases l[j]? with
       | none => rfl
       | some x => simp only [e3]
    exact key _ (Nat.le_refl _)
   have hx : (l ++ [vF L i r])[l.length]? = some (vF L i r) := by simp
   have hlen : (l ++ [vF L i r]).length = l.length + 1 := by simp
   have e2 : xX (l ++ [vF L i r]) r.m l.length = zCK l r.m := by unfold xX; rw [List.take_left]; rfl
   rw [hlen]
   have e4 : wJ (l ++ [vF L i r]) (l.length + 1) = if (vF L i r).k = 2 then (if zUW (zCK l r.m) (vF L i r) then some (if 0 < (zIA (zCK l r.m) (vF L i r)).sales then yX G (xD L) i ++ [zIA (zCK l r.m) (vF L i r)] else yX G (xD L) i) else none) else some (yX G (xD L) i) := by
    show (match wJ (l ++ [vF L i r]) l.length, (l ++ [vF L i r])[l.length]? with | some o, some r' => _ | _, _ => none) = _
    rw [e1, ih, hx]
    simp only [em, e2]
   rw [e4]
   by_cases h2 : r.k = 2
   ·rw [if_pos (by omega)]
    have sa : (vF L i r).a = (zAD L r.m i).1 ∧ (vF L i r).b = (zAD L r.m i).2 := by unfold vF; rw [if_pos h2]; exact ⟨rfl, rfl⟩
    have elk : zIA (zCK l r.m) (vF L i r) = ⟨r.m, (zCK l r.m).s, r.s, (yI G (xD L) r.m i).1, (yI G (xD L) r.m i).2⟩ := by
     unfold zIA
     rw [em, es, sa.1, sa.2]
     congr 1 <;> omega
    have ok : zUW (zCK l r.m) (vF L i r) = true := by
     unfold zUW
     rw [elk, es]
     simp only [Bool.and_eq_true, decide_eq_true_eq]
     omega
    rw [ok, if_pos rfl, elk]
    by_cases hp : 0 < (yI G (xD L) r.m i).1
    ·rw [if_pos hp, if_pos ⟨by omega, hp⟩]
    ·rw [if_neg hp, if_neg (fun hh => hp hh.2)]
   ·rw [if_neg (by omega), if_neg (fun hh => h2 (by omega))]
end Go.Proofs.Ytffgfojabcbegaa
