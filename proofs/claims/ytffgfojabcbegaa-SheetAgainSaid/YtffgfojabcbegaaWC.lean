
import Derived.Test.YtffgfojabcbegaaWB
namespace Go.Proofs.Ytffgfojabcbegaa
set_option linter.unusedVariables false
def yCP (m : Int) (c : Int × Int) (r : Rec) : Int × Int := if r.m = m ∧ r.k = 0 then (c.1 + 1, c.2 + r.b) else c
def zAJ (L : List Rec) (m : Int) (i : Nat) : Int × Int := (L.take i).foldl (yCP m) (0, 0)
def vF (L : List Rec) (i : Nat) (r : Rec) : Rec := if r.k = 2 then { r with a := (zAJ L r.m i).1, b := (zAJ L r.m i).2 } else r
def yY (L : List Rec) : List Rec := L.mapIdx (vF L)
theorem zAP {L : List Rec} {i : Nat} {r : Rec} : (vF L i r).m = r.m ∧ (vF L i r).s = r.s ∧ (vF L i r).t = r.t ∧ (vF L i r).k = r.k := by
 unfold vF; split <;> exact ⟨rfl, rfl, rfl, rfl⟩
theorem zVE {L : List Rec} {i : Nat} {r : Rec} (h : r.k ≠ 2) : vF L i r = r := if_neg h
theorem zGQ {α : Type} {xs : List α} {i : Nat} {x : α} (h : xs[i]? = some x) : xs.take (i + 1) = xs.take i ++ [x] := by
 rw [List.take_add_one, h]; rfl
section
variable {L : List Rec}
theorem zJZ {m : Int} {i : Nat} {r : Rec} (h : L[i]? = some r) : zAJ L m (i + 1) = yCP m (zAJ L m i) r := by
 unfold zAJ
 rw [zGQ h, List.foldl_append]; rfl
theorem zOZ {m : Int} : ∀ {i : Nat}, (∀ j x, j < i → L[j]? = some x → x.m ≠ m) → zAJ L m i = (0, 0)
 | 0, _ => rfl
 | i + 1, h => by
  cases e : L[i]? with
  | none =>
   have : L.take (i + 1) = L.take i := by rw [List.take_add_one, e]; simp
   unfold zAJ
   rw [this]
   exact zOZ (i := i) fun j x hj hx => h j x (by omega) hx
  | some r =>
   rw [zJZ e, zOZ fun j x hj hx => h j x (by omega) hx]
   unfold yCP
   rw [if_neg (fun hh => h i r (by omega) e hh.1)]
theorem zHZ : (yY L).length = L.length := by simp [yY]
theorem zMK {i : Nat} : (yY L)[i]? = (L[i]?).map (vF L i) := by simp [yY, List.getElem?_mapIdx]
theorem zHK {i : Nat} {x : Rec} (h : (yY L)[i]? = some x) : ∃ r, L[i]? = some r ∧ x = vF L i r := by
 rw [zMK] at h
 cases e : L[i]? with
 | none => rw [e] at h; cases h
 | some r => rw [e] at h; exact ⟨r, rfl, by simpa using h.symm⟩
theorem zTS (hs : Srt L) : Srt (yY L) := yGX hs fun i x' hx => by
 obtain ⟨r, h1, rfl⟩ := zHK hx
 exact ⟨r, h1, zAP.1, zAP.2.1⟩
theorem yFW (hs : Srt L) (hc : zAZ L) : zAZ (yY L) := yXW hs hc fun i x' hx => by
 obtain ⟨r, h1, rfl⟩ := zHK hx
 exact ⟨r, h1, zAP.1, zAP.2.1, zAP.2.2.1⟩
theorem zUU {m : Int} {B : Int} (hB : 0 ≤ B) (hb : ∀ x ∈ L, x.k = 0 → 0 ≤ x.b ∧ x.b ≤ B) : ∀ (i : Nat), 0 ≤ (zAJ L m i).1 ∧ (zAJ L m i).1 ≤ i ∧ 0 ≤ (zAJ L m i).2 ∧ (zAJ L m i).2 ≤ B * i
 | 0 => by simp [zAJ]
 | i + 1 => by
  obtain ⟨h1, h2, h3, h4⟩ := zUU (m := m) hB hb i
  have e : B * ((i + 1 : Nat) : Int) = B * (i : Int) + B := by rw [show ((i + 1 : Nat) : Int) = (i : Int) + 1 by omega, Int.mul_add, Int.mul_one]
  rw [e]
  cases e : L[i]? with
  | none =>
   have : zAJ L m (i + 1) = zAJ L m i := by unfold zAJ; rw [List.take_add_one, e]; simp
   rw [this]; omega
  | some r =>
   rw [zJZ e]
   unfold yCP
   split
   ·rename_i hh
    have := hb r (List.mem_of_getElem? e) hh.2
    exact ⟨by simp only; omega, by simp only; omega, by simp only; omega, by simp only; omega⟩
   ·omega
end
def zCX (l : List Rec) (m : Int) : Cnt := l.foldl (zCR m) c0
theorem zJS {l : List Rec} {m : Int} {r : Rec} : zCX (l ++ [r]) m = zCR m (zCX l m) r := by unfold zCX; rw [List.foldl_append]; rfl
theorem cntAt_eq {L : List Rec} {m : Int} {i : Nat} : xG L m i = zCX (L.take i) m := rfl
theorem cnt_room {l : List Rec} {r : Rec} (hs : Srt (l ++ [r])) (h1 : ∀ x ∈ l ++ [r], 1 ≤ x.s) : (zCX l r.m).s + (zCX l r.m).len < r.s ∧ 0 ≤ (zCX l r.m).len := by
 have key : ∀ (n : Nat) (l : List Rec) (r : Rec), l.length = n → Srt (l ++ [r]) → (∀ x ∈ l ++ [r], 1 ≤ x.s) → (zCX l r.m).s + (zCX l r.m).len < r.s ∧ 0 ≤ (zCX l r.m).len := by
  intro n
  induction n with
  | zero =>
   intro l r hl hs h1
   have : l = [] := List.eq_nil_of_length_eq_zero hl
   subst this
   have := h1 r (by simp)
   show (0 : Int) + 0 < r.s ∧ (0 : Int) ≤ 0
   omega
  | succ n ih =>
   intro l r hl hs h1
   rcases List.eq_nil_or_concat l with rfl | ⟨l, y, rfl⟩
   ·simp at hl
   simp only [List.concat_eq_append] at *
   have hlen : l.length = n := by simpa using hl
   have p := List.pairwise_append.1 hs
   have pl := List.pairwise_append.1 p.1
   rw [zJS]
   unfold zCR
   have hsub : Srt (l ++ [r]) := List.pairwise_append.2 ⟨pl.1, by simp, fun a ha b hb => p.2.2 a (by simp [ha]) b hb⟩
   by_cases hm : y.m = r.m
   ·have hyr : y.s < r.s := by have := p.2.2 y (by simp) r (by simp); unfold xE at this; omega
    have hy := ih l y hlen p.1 (fun x hx => h1 x (by simp at hx ⊢; rcases hx with h | h <;> simp [h]))
    rw [if_pos hm]
    rw [hm] at hy
    split
    ·exact ⟨by simp only; omega, by simp only; omega⟩
    ·split
     ·exact ⟨by simp only; omega, by simp only; omega⟩
     ·exact ⟨by simp only; omega, by simp only; omega⟩
   ·rw [if_neg hm]
    exact ih l r hlen hsub (fun x hx => h1 x (by simp at hx ⊢; rcases hx with h | h <;> simp [h]))
 exact key l.length l r rfl hs h1
def yJA (m : Int) (c : Int × Int) (r : Rec) (gone : Bool) : Int × Int := if r.m = m then (if r.k = 2 then (0, 0) else if gone then (c.1 + 1, c.2 + r.b) else c) else c
section
variable {F : List Rec} (G : Nat → Bool)
def zDQ (i : Nat) (r : Rec) : Bool := decide (r.k = 0) && G i
def yH (F : List Rec) : Nat → List Rec
 | 0 => []
 | i + 1 => match F[i]? with
  | some r => if zDQ G i r then yH F i else yH F i ++ [r]
  | none => yH F i
def wK (F : List Rec) (m : Int) : Nat → Int × Int
 | 0 => (0, 0)
 | i + 1 => match F[i]? with
  | some r => yJA m (wK F m i) r (zDQ G i r)
  | none => wK F m i
def zAN (F : List Rec) : Nat → List Lk
 | 0 => []
 | i + 1 => match F[i]? with
  | some r => if r.k = 2 ∧ 0 < (wK G F r.m i).1 then zAN F i ++ [Lk.mk r.m (zCX (yH G F i) r.m).s r.s (wK G F r.m i).1 (wK G F r.m i).2] else zAN F i
  | none => zAN F i
theorem zQA {i : Nat} {r : Rec} (h : F[i]? = some r) : yH G F (i + 1) = if zDQ G i r then yH G F i else yH G F i ++ [r] := by
 show (match F[i]? with | some r => if zDQ G i r then yH G F i else yH G F i ++ [r] | none => yH G F i) = _
 rw [h]
theorem yIZ {m : Int} {i : Nat} {r : Rec} (h : F[i]? = some r) : wK G F m (i + 1) = yJA m (wK G F m i) r (zDQ G i r) := by
 show (match F[i]? with | some r => yJA m (wK G F m i) r (zDQ G i r) | none => wK G F m i) = _
 rw [h]
theorem yGP {i : Nat} {r : Rec} (h : F[i]? = some r) : zAN G F (i + 1) = if r.k = 2 ∧ 0 < (wK G F r.m i).1 then zAN G F i ++ [Lk.mk r.m (zCX (yH G F i) r.m).s r.s (wK G F r.m i).1 (wK G F r.m i).2] else zAN G F i := by
 show (match F[i]? with | some r => if r.k = 2 ∧ 0 < (wK G F r.m i).1 then zAN G F i ++ [Lk.mk r.m (zCX (yH G F i) r.m).s r.s (wK G F r.m i).1 (wK G F r.m i).2] else zAN G F i | none => zAN G F i) = _
 rw [h]
theorem zHF : ∀ {i : Nat}, (yH G F i).Sublist (F.take i)
 | 0 => by simp [yH]
 | i + 1 => by
  cases e : F[i]? with
  | none =>
   have : F.take (i + 1) = F.take i := by rw [List.take_add_one, e]; simp
   have h2 : yH G F (i + 1) = yH G F i := by
    show (match F[i]? with | some r => if zDQ G i r then yH G F i else yH G F i ++ [r] | none => yH G F i) = _
    rw [e]
   rw [this, h2]; exact zHF
  | some r =>
   rw [zGQ e, zQA G e]
   split
   ·exact zHF.trans (List.sublist_append_left _ _)
   ·exact zHF.append (List.Sublist.refl _)
theorem yIY {m : Int} : ∀ {i : Nat}, i ≤ F.length → (xG F m i).s = (zCX (yH G F i) m).s ∧ (xG F m i).a = (zCX (yH G F i) m).a ∧ (xG F m i).b = (zCX (yH G F i) m).b ∧
  (xG F m i).sales = (zCX (yH G F i) m).sales + (wK G F m i).1 ∧ (xG F m i).coins = (zCX (yH G F i) m).coins + (wK G F m i).2 ∧ (xG F m i).len = (zCX (yH G F i) m).len + (wK G F m i).1
 | 0, _ => ⟨rfl, rfl, rfl, rfl, rfl, rfl⟩
 | i + 1, hi => by
  have h : F[i]? = some (F[i]'(by omega)) := by simp
  obtain ⟨i1, i2, i3, i4, i5, i6⟩ := yIY (m := m) (i := i) (by omega)
  rw [zHJ h, zQA G h, yIZ G h]
  generalize F[i]'(by omega) = r at *
  unfold zCR yJA
  by_cases hm : r.m = m
  ·by_cases h2 : r.k = 2
   ·have g : zDQ G i r = false := by unfold zDQ; simp [h2]
    rw [g, if_pos hm, if_pos h2, if_neg Bool.false_ne_true, zJS]
    unfold zCR
    rw [if_pos hm, if_pos h2, if_pos hm, if_pos h2]
    exact ⟨rfl, rfl, rfl, rfl, rfl, rfl⟩
   ·cases g : zDQ G i r with
    | true =>
     have h0 : r.k = 0 := by unfold zDQ at g; simp at g; exact g.1
     rw [if_pos hm, if_neg h2, if_pos h0, if_pos rfl, if_pos hm, if_neg h2, if_pos rfl]
     exact ⟨i1, i2, i3, by simp only; omega, by simp only; omega, by simp only; omega⟩
    | false =>
     rw [if_neg Bool.false_ne_true, zJS]
     unfold zCR
     rw [if_pos hm, if_neg h2, if_pos hm, if_neg h2]
     rw [if_pos hm, if_neg h2]
     simp only [Bool.false_eq_true, if_false]
     split
     ·exact ⟨i1, i2, i3, by simp only; omega, by simp only; omega, by simp only; omega⟩
     ·exact ⟨i1, i2, i3, i4, i5, by simp only; omega⟩
  ·rw [if_neg hm, if_neg hm]
   split
   ·exact ⟨i1, i2, i3, i4, i5, i6⟩
   ·rw [zJS]; unfold zCR; rw [if_neg hm]; exact ⟨i1, i2, i3, i4, i5, i6⟩
theorem yTU {m : Int} (hb : ∀ x ∈ F, x.k = 0 → 0 ≤ x.b ∧ x.b ≤ 10000) : ∀ {i : Nat}, i ≤ F.length → 0 ≤ (wK G F m i).1 ∧ (wK G F m i).1 ≤ i ∧ 0 ≤ (wK G F m i).2 ∧ (wK G F m i).2 ≤ 10000 * (wK G F m i).1
 | 0, _ => by simp [wK]
 | i + 1, hi => by
  have h : F[i]? = some (F[i]'(by omega)) := by simp
  obtain ⟨i1, i2, i3, i4⟩ := yTU (m := m) hb (i := i) (by omega)
  rw [yIZ G h]
  have hbi := hb (F[i]'(by omega)) (by simp)
  generalize F[i]'(by omega) = r at *
  unfold yJA
  split
  ·split
   ·simp; omega
   ·split
    ·rename_i g
     have h0 : r.k = 0 := by unfold zDQ at g; simp at g; exact g.1
     have := hbi h0
     exact ⟨by simp only; omega, by simp only; omega, by simp only; omega, by simp only; omega⟩
    ·exact ⟨i1, by omega, i3, i4⟩
  ·exact ⟨i1, by omega, i3, i4⟩
end
theorem zXR {L : List Rec} {m : Int} : ∀ {i : Nat}, i ≤ L.length → (xG (yY L) m i).a + (xG (yY L) m i).sales = (zAJ L m i).1 ∧ (xG (yY L) m i).b + (xG (yY L) m i).coins = (zAJ L m i).2
 | 0, _ => by simp [xG, zAJ, c0]
 | i + 1, hi => by
  have h : L[i]? = some (L[i]'(by omega)) := by simp
  have hF : (yY L)[i]? = some (vF L i (L[i]'(by omega))) := by rw [zMK, h]; rfl
  obtain ⟨i1, i2⟩ := zXR (L := L) (m := m) (i := i) (by omega)
  rw [zHJ hF, zJZ h]
  generalize L[i]'(by omega) = r at *
  unfold zCR yCP
  rw [zAP.1, zAP.2.2.2]
  by_cases hm : r.m = m
  ·rw [if_pos hm]
   by_cases h2 : r.k = 2
   ·rw [if_pos h2, if_neg (fun h => by omega)]
    unfold vF
    rw [if_pos h2, hm]
    exact ⟨by simp, by simp⟩
   ·rw [if_neg h2, zVE h2]
    by_cases h0 : r.k = 0
    ·rw [if_pos h0, if_pos ⟨hm, h0⟩]; exact ⟨by simp only; omega, by simp only; omega⟩
    ·rw [if_neg h0, if_neg (fun h => h0 h.2)]; exact ⟨i1, i2⟩
  ·rw [if_neg hm, if_neg (fun h => hm h.1)]; exact ⟨i1, i2⟩
theorem yIX {L : List Rec} (G : Nat → Bool) (hs : Srt L) (h1 : ∀ x ∈ L, 1 ≤ x.s) (hb : ∀ x ∈ L, x.k = 0 → 0 ≤ x.b ∧ x.b ≤ 10000) : ∀ {i : Nat}, i ≤ L.length → xW (yH G (yY L) i) (yH G (yY L) i).length = some (zAN G (yY L) i)
 | 0, _ => rfl
 | i + 1, hi => by
  have h : L[i]? = some (L[i]'(by omega)) := by simp
  have hF : (yY L)[i]? = some (vF L i (L[i]'(by omega))) := by rw [zMK, h]; rfl
  have ih := yIX G hs h1 hb (i := i) (by omega)
  have hsF := zTS hs
  have hbF : ∀ x ∈ yY L, x.k = 0 → 0 ≤ x.b ∧ x.b ≤ 10000 := by
   intro x hx hk
   obtain ⟨j, hj, rfl⟩ := List.mem_iff_getElem.1 hx
   obtain ⟨r, e1, e2⟩ := zHK (List.getElem?_eq_getElem hj)
   rw [e2] at hk ⊢
   rw [zAP.2.2.2] at hk
   rw [zVE (by omega)]
   exact hb r (List.mem_of_getElem? e1) hk
  obtain ⟨q1, q2⟩ := zXR (L := L) (m := (L[i]'(by omega)).m) (i := i) (by omega)
  obtain ⟨p1, p2, p3, p4, p5, p6⟩ := yIY (F := yY L) G (m := (L[i]'(by omega)).m) (i := i) (by rw [zHZ]; omega)
  obtain ⟨b1, b2, b3, b4⟩ := yTU (F := yY L) G (m := (L[i]'(by omega)).m) hbF (i := i) (by rw [zHZ]; omega)
  have hroom := cnt_room (l := (yY L).take i) (r := vF L i (L[i]'(by omega))) (by rw [← zGQ hF]; exact hsF.sublist (List.take_sublist _ _)) (fun x hx => by
   rw [← zGQ hF] at hx
   obtain ⟨j, hj, rfl⟩ := List.mem_iff_getElem.1 (List.mem_of_mem_take hx)
   obtain ⟨r, e1, e2⟩ := zHK (List.getElem?_eq_getElem hj)
   rw [e2, zAP.2.1]
   exact h1 r (List.mem_of_getElem? e1))
  rw [← cntAt_eq] at hroom
  rw [zAP.1, zAP.2.1] at hroom
  rw [zQA G hF, yGP G hF]
  generalize hr : L[i]'(by omega) = r at *
  have ek : (vF L i r).k = r.k := zAP.2.2.2
  have em : (vF L i r).m = r.m := zAP.1
  have es : (vF L i r).s = r.s := zAP.2.1
  rw [em, es]
  cases g : zDQ G i (vF L i r) with
  | true =>
   have h0 : (vF L i r).k = 0 := by unfold zDQ at g; simp at g; exact g.1
   rw [if_pos rfl, if_neg (fun hh => by omega)]
   exact ih
  | false =>
   rw [if_neg Bool.false_ne_true]
   obtain ⟨l, hl⟩ : ∃ l, l = yH G (yY L) i := ⟨_, rfl⟩
   rw [← hl] at ih p1 p2 p3 p4 p5 p6 ⊢
   have e1 : xW (l ++ [vF L i r]) l.length = xW l l.length := by
    have key : ∀ j, j ≤ l.length → xW (l ++ [vF L i r]) j = xW l j := by
     intro j
     induction j with
     | zero => intro _; rfl
     | succ j ihj =>
      intro hj
      have e : (l ++ [vF L i r])[j]? = l[j]? := List.getElem?_append_left (by omega)
      have e3 : ∀ m, xG (l ++ [vF L i r]) m j = xG l m j := fun m => by unfold xG; rw [List.take_append_of_le_length (by omega)]
      show (match xW (l ++ [vF L i r]) j, (l ++ [vF L i r])[j]? with | some o, some r' => _ | _, _ => none) = (match xW l j, l[j]? with | some o, some r' => _ | _, _ => none)
      rw [ihj (by omega), e]
      cases xW l j with
      | none => rfl
      | some o =>
       cases l[j]? with
       | none => rfl
       | some x => simp only [e3]
    exact key _ (Nat.le_refl _)
   have hx : (l ++ [vF L i r])[l.length]? = some (vF L i r) := by simp
   have hlen : (l ++ [vF L i r]).length = l.length + 1 := by simp
   have e2 : xG (l ++ [vF L i r]) r.m l.length = zCX l r.m := by unfold xG; rw [List.take_left]; rfl
   rw [hlen]
   have e4 : xW (l ++ [vF L i r]) (l.length + 1) = if (vF L i r).k = 2 then (if zKJ (zCX l r.m) (vF L i r) then some (if 0 < (zCI (zCX l r.m) (vF L i r)).sales then zAN G (yY L) i ++ [zCI (zCX l r.m) (vF L i r)] else zAN G (yY L) i) else none) else some (zAN G (yY L) i) := by
    show (match xW (l ++ [vF L i r]) l.length, (l ++ [vF L i r])[l.length]? with | some o, some r' => _ | _, _ => none) = _
    rw [e1, ih, hx]
    simp only [em, e2]
   rw [e4]
   by_cases h2 : r.k = 2
   ·rw [if_pos (by omega)]
    have sa : (vF L i r).a = (zAJ L r.m i).1 ∧ (vF L i r).b = (zAJ L r.m i).2 := by unfold vF; rw [if_pos h2]; exact ⟨rfl, rfl⟩
    have elk : zCI (zCX l r.m) (vF L i r) = ⟨r.m, (zCX l r.m).s, r.s, (wK G (yY L) r.m i).1, (wK G (yY L) r.m i).2⟩ := by
     unfold zCI
     rw [em, es, sa.1, sa.2]
     congr 1 <;> omega
    have ok : zKJ (zCX l r.m) (vF L i r) = true := by
     unfold zKJ
     rw [elk, es]
     simp only [Bool.and_eq_true, decide_eq_true_eq]
     omega
    rw [ok, if_pos rfl, elk]
    by_cases hp : 0 < (wK G (yY L) r.m i).1
    ·rw [if_pos hp, if_pos ⟨by omega, hp⟩]
    ·rw [if_neg hp, if_neg (fun hh => hp hh.2)]
   ·rw [if_neg (by omega), if_neg (fun hh => h2 (by omega))]
end Go.Proofs.Ytffgfojabcbegaa
