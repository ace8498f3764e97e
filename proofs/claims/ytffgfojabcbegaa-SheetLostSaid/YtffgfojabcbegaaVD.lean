
import Derived.Test.YtffgfojabcbegaaVC
namespace Go.Proofs.Ytffgfojabcbegaa
open Go Go.Lay
open Try renaming prog → Pg
set_option linter.unusedVariables false
set_option linter.unusedSimpArgs false
set_option maxRecDepth 20000
def Bd (x : Rec) : Prop := (0 ≤ x.s ∧ x.s ≤ 10000000) ∧ (0 ≤ x.a ∧ x.a ≤ 10000000) ∧ (0 ≤ x.b ∧ x.b ≤ 10000000)
theorem bd_right {x : Rec} (h : yL x = true) : Bd x := by
 have := zFV h
 unfold Bd; omega
theorem bd_z {m : Int} : Bd (zAX m) := by unfold Bd zAX; simp
abbrev lkL (x : Lk) : List Value := zI x.m x.f x.t x.sales x.coins
abbrev lkV (x : Lk) : Value := .agg ⟨lkL x⟩
theorem bS_bd : ∀ (B : List Rec) (c : Cnt), (∀ x ∈ B, Bd x) → (B.foldl bS c).s = c.s ∧ (B.foldl bS c).a = c.a ∧ (B.foldl bS c).b = c.b ∧ c.sales ≤ (B.foldl bS c).sales ∧ (B.foldl bS c).sales ≤ c.sales + B.length ∧ c.coins ≤ (B.foldl bS c).coins ∧ (B.foldl bS c).coins ≤ c.coins + 10000000 * (B.length : Int) ∧ (B.foldl bS c).len = c.len + B.length
 | [], c, _ => by simp
 | r :: B, c, h => by
  have hr := h r (by simp)
  unfold Bd at hr
  obtain ⟨i1, i2, i3, i4, i5, i6, i7, i8⟩ := bS_bd B (bS c r) fun x hx => h x (by simp [hx])
  rw [List.foldl_cons]
  have hl : ((r :: B).length : Int) = (B.length : Int) + 1 := by simp
  rw [hl]
  by_cases h0 : r.k = 0
  ·have e : bS c r = { c with sales := c.sales + 1, coins := c.coins + r.b, len := c.len + 1 } := if_pos h0
   rw [e] at i1 i2 i3 i4 i5 i6 i7 i8 ⊢
   simp only at i1 i2 i3 i4 i5 i6 i7 i8
   exact ⟨i1, i2, i3, by omega, by omega, by omega, by omega, by omega⟩
  ·have e : bS c r = { c with len := c.len + 1 } := if_neg h0
   rw [e] at i1 i2 i3 i4 i5 i6 i7 i8 ⊢
   simp only at i1 i2 i3 i4 i5 i6 i7 i8
   exact ⟨i1, i2, i3, by omega, by omega, by omega, by omega, by omega⟩
theorem yRO {F : Rec} (B : List Rec) (h : ∀ x ∈ B, Bd x) : (zAW F B).s = F.s ∧ (zAW F B).a = F.a ∧ (zAW F B).b = F.b ∧ 0 ≤ (zAW F B).sales ∧ (zAW F B).sales ≤ B.length ∧ 0 ≤ (zAW F B).coins ∧ (zAW F B).coins ≤ 10000000 * (B.length : Int) ∧ (zAW F B).len = B.length := by
 obtain ⟨i1, i2, i3, i4, i5, i6, i7, i8⟩ := bS_bd B ⟨F.s, F.a, F.b, 0, 0, 0⟩ h
 simp only at i1 i2 i3 i4 i5 i6 i7 i8
 unfold zAW
 exact ⟨i1, i2, i3, by omega, by omega, by omega, by omega, by omega⟩
section
variable {σ : St}
theorem lack_c {F r : Rec} {B : List Rec} {p : Option Addr} {l d : Nat} (h : xB σ 79 p l B) (hl : l = B.length) (hlen : B.length ≤ 100000) (hF : Bd F) (hr : Bd r) (hB : ∀ x ∈ B, Bd x) :
  zG Pg 44 [.agg ⟨vY F r p l d⟩] σ (.tuple ⟨[lkV (zIA (zAW F B) r), .bool (zUW (zAW F B) r)]⟩) σ := by
 subst hl
 have h0 : xB σ.re 79 p B.length B := SlV.le h (le0 σ)
 obtain ⟨b1, b2, b3, b4, b5, b6, b7, b8⟩ := yRO (F := F) B hB
 unfold Bd at hF hr
 let C : Nat → Cnt := fun s => zAW F (B.take s)
 let I : Nat → St → Prop := fun s τ => New σ.re τ ∧ Own τ σ.next (vY F r p B.length d) 13 ∧ Own τ (σ.next + 1) (zI 0 0 0 0 0) 5 ∧ Own τ (σ.next + 2) (zI r.m F.s r.s (r.a - F.a - (C s).sales) (r.b - F.b - (C s).coins)) 5
 have I0 : I 0 ((((σ.re.row (vY F r p B.length d) 13).row (zI 0 0 0 0 0) 5).row (zI 0 0 0 0 0) 5).own (σ.next + 2) (zI r.m F.s r.s (r.a - F.a) (r.b - F.b)) 5) := by
  refine ⟨((New.row _ _ _).row'.row').own (by show σ.next ≤ σ.next + 2; omega), ?_, ?_, ?_⟩
  ·exact (((zE σ.re (vY F r p B.length d) 13).row).row).own (by show σ.next ≠ σ.next + 2; omega)
  ·exact ((zE (σ.re.row (vY F r p B.length d) 13) (zI 0 0 0 0 0) 5).row).own (by show σ.next + 1 ≠ σ.next + 2; omega)
  ·have := (zE ((σ.re.row (vY F r p B.length d) 13).row (zI 0 0 0 0 0) 5) (zI 0 0 0 0 0) 5).put (ds := zI r.m F.s r.s (r.a - F.a) (r.b - F.b))
   have e : zI r.m F.s r.s (r.a - F.a - (C 0).sales) (r.b - F.b - (C 0).coins) = zI r.m F.s r.s (r.a - F.a) (r.b - F.b) := by
    show zI _ _ _ (r.a - F.a - 0) (r.b - F.b - 0) = _
    rw [Int.sub_zero, Int.sub_zero]
   rw [e]; exact this
 refine zO.pure (lack_ra (P0 := fun τ => I B.length τ) (yMV (Inv := fun k i τ => ∃ s : Nat, i = s ∧ s + k = B.length ∧ I s τ) ?_ B.length 0 _ ⟨0, rfl, by omega, I0⟩) ?_)
 ·rintro k i τ ⟨s, rfl, hk, hN, o1, o2, o3⟩
  by_cases hs : s < B.length
  rotate_left
  ·have : s = B.length := by omega
   subst this
   exact lack_s1c ⟨hN, o1, o2, o3⟩ (by omega)
  obtain ⟨a, rfl, x, hx, ld⟩ := zCG (SlV.le h0 hN.le) hs
  have hxB := hB x (List.mem_of_getElem? hx)
  unfold Bd at hxB
  obtain ⟨c1, c2, c3, c4, c5, c6, c7, c8⟩ := yRO (F := F) (B.take s) (fun x hx => hB x (List.mem_of_mem_take hx))
  have hls : (B.take s).length = s := by simp; omega
  rw [hls] at c5 c7 c8
  have c4 : 0 ≤ (C s).sales := c4
  have c5 : (C s).sales ≤ s := c5
  have c6 : 0 ≤ (C s).coins := c6
  have c7 : (C s).coins ≤ 10000000 * (s : Int) := c7
  have eS : C (s + 1) = bS (C s) x := by
   show zAW F (B.take (s + 1)) = _
   rw [wD hx, yAJ]
  obtain ⟨τ1, hτ1⟩ : ∃ τ1, τ1 = (τ.row (yH ⟨0, 0, 0, 0, 0, 0⟩) 6).own τ.next (yH x) 6 := ⟨_, rfl⟩
  have N1 : New τ τ1 := by rw [hτ1]; exact (New.row _ _ _).own (Nat.le_refl _)
  have ox : Own τ1 τ.next (yH x) 6 := by rw [hτ1]; exact (zE _ _ _).put
  have hnx : σ.next + 2 < τ.next := o3.lt
  have N2 := hN.trans N1
  have p1 := o1.le N1.le
  have p2 := o2.le N1.le
  have p3 := o3.le N1.le
  by_cases hk0 : x.k = 0
  ·have e1 : (C (s + 1)).sales = (C s).sales + 1 := by rw [eS]; unfold bS; rw [if_pos hk0]
   have e2 : (C (s + 1)).coins = (C s).coins + x.b := by rw [eS]; unfold bS; rw [if_pos hk0]
   have st1 := p3.store (P := Pg) (k := 3) (t := 3) (v := iV (r.a - F.a - (C s).sales - 1)) (vs := [iV (r.a - F.a - (C s).sales - 1)]) (ds := zI r.m F.s r.s (r.a - F.a - (C s).sales - 1) (r.b - F.b - (C s).coins)) rfl zQQ rfl (by simp) rfl
   have w3 : Own (τ1.own (σ.next + 2) (zI r.m F.s r.s (r.a - F.a - (C s).sales - 1) (r.b - F.b - (C s).coins)) 5) (σ.next + 2) (zI r.m F.s r.s (r.a - F.a - (C s).sales - 1) (r.b - F.b - (C s).coins)) 5 := p3.put
   have st2 := w3.store (P := Pg) (k := 4) (t := 3) (v := iV (r.b - F.b - (C s).coins - x.b)) (vs := [iV (r.b - F.b - (C s).coins - x.b)]) (ds := zI r.m F.s r.s (r.a - F.a - (C s).sales - 1) (r.b - F.b - (C s).coins - x.b)) rfl zQQ rfl (by simp) rfl
   have q1 := p3.rw.load1 (P := Pg) (t := 3) zP (k := 3) rfl
   have q2 := w3.rw.load1 (P := Pg) (t := 3) zP (k := 4) rfl
   have q3 := (ox.own (ds := zI r.m F.s r.s (r.a - F.a - (C s).sales - 1) (r.b - F.b - (C s).coins)) (m := 5) (c := σ.next + 2) (by omega)).rw.load1 (P := Pg) (t := 3) zP (k := 5) rfl
   subst hτ1
   refine lack_s1a ld (by simpa [zJ] using q1) st1 (by simpa [zJ] using q2) (by simpa [zJ] using q3) st2 ⟨k - 1, by omega, s + 1, by omega, by omega, ?_, ?_, ?_, ?_⟩ (by omega) (by omega) hk0 (by omega) (by omega) (by omega)
   ·exact (N2.own (by show σ.next ≤ σ.next + 2; omega)).own (by show σ.next ≤ σ.next + 2; omega)
   ·exact (p1.own (by omega)).own (by omega)
   ·exact (p2.own (by omega)).own (by omega)
   ·rw [e1, e2, ← Int.sub_sub, ← Int.sub_sub]; exact w3.put
  ·have e1 : (C (s + 1)).sales = (C s).sales := by rw [eS]; unfold bS; rw [if_neg hk0]
   have e2 : (C (s + 1)).coins = (C s).coins := by rw [eS]; unfold bS; rw [if_neg hk0]
   subst hτ1
   refine lack_s1b ld ⟨k - 1, by omega, s + 1, by omega, by omega, N2, p1, p2, ?_⟩ (by omega) (by omega) hk0 (by omega)
   rw [e1, e2]; exact p3
 ·rintro τ ⟨hN, o1, o2, o3⟩
  have eC : C B.length = zAW F B := by show zAW F (B.take B.length) = _; rw [List.take_length]
  rw [eC] at o3
  obtain ⟨k, hk⟩ : ∃ k, k = zIA (zAW F B) r := ⟨_, rfl⟩
  have e1 : k.sales = r.a - F.a - (zAW F B).sales := by rw [hk]; show r.a - (zAW F B).a - _ = _; rw [b2]
  have e2 : k.coins = r.b - F.b - (zAW F B).coins := by rw [hk]; show r.b - (zAW F B).b - _ = _; rw [b3]
  have e3 : lkL k = zI r.m F.s r.s k.sales k.coins := by rw [hk]; show zI r.m (zAW F B).s r.s _ _ = _; rw [b1]
  rw [← e1, ← e2, ← e3] at o3
  have w1 := o1.rw.load1 (P := Pg) (t := 3) zP (k := 7) rfl
  have w2 := o1.rw.load1 (P := Pg) (t := 3) zP (k := 1) rfl
  have w3 := o1.rw.load1 (P := Pg) (t := 28) yAQ (k := 12) rfl
  have w4 := o3.rw.loadN (P := Pg) (t := 70) yRR zHB (k := 0) (ds := lkL k) rfl rfl (by simp)
  have w5 := o3.rw.load1 (P := Pg) (t := 3) zP (k := 3) rfl
  have w6 := o3.rw.load1 (P := Pg) (t := 3) zP (k := 4) rfl
  have st := o2.store (P := Pg) (k := 0) (t := 70) (v := .agg ⟨lkL k⟩) (vs := lkL k) (ds := lkL k) rfl zHB rfl (by simp) rfl
  have w7 := (o2.put (ds := lkL k)).rw.loadN (P := Pg) (t := 70) yRR zHB (k := 0) (ds := lkL k) rfl rfl (by simp)
  have hok : zUW (zAW F B) r = (inB k.sales 0 (r.s - F.s - 1 - (B.length : Int)) && inB k.coins 0 (10000 * k.sales)) := by
   unfold zUW inB
   rw [← hk, b1, b8, Bool.and_assoc]
  rw [← hk, hok]
  have hlt := o3.lt
  have hlt2 := o2.lt
  have c1 := xR (σ := τ) (n := k.sales) (lo := 0) (hi := r.s - F.s - 1 - (B.length : Int))
  have c2 := xR (σ := τ) (n := k.coins) (lo := 0) (hi := 10000 * k.sales)
  have hfin : σ.next ≤ (τ.own (σ.next + 1) (lkL k) 5).low := (hN.own (by show σ.next ≤ σ.next + 1; omega)).lw
  cases hs : inB k.sales 0 (r.s - F.s - 1 - (B.length : Int)) with
  | true =>
   rw [hs] at c1
   exact yMU (by simpa [zJ] using w1) (by simpa [zJ] using w2) (by simpa [zJ] using w3) (by simpa [zJ] using w4) (by simpa [zJ] using w5) c1 (by simpa [zJ] using w6) c2 st (by simpa [zJ] using w7) ⟨by rw [Bool.true_and], hfin⟩ (by omega) (by omega) (by omega) (by omega) hlt hlt2
  | false =>
   rw [hs] at c1
   exact yMT (by simpa [zJ] using w1) (by simpa [zJ] using w2) (by simpa [zJ] using w3) (by simpa [zJ] using w4) (by simpa [zJ] using w5) c1 st (by simpa [zJ] using w7) ⟨by rw [Bool.false_and], hfin⟩ (by omega) (by omega) (by omega) hlt hlt2
end
end Go.Proofs.Ytffgfojabcbegaa
