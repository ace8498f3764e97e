
import Derived.Test.YtgfiniccfpfplaaGreatUA
import Derived.Test.YtgfiniccfpfplaaGreatXE
namespace Go.Proofs.YtgfiniccfpfplaaGreat
open Go Go.Lay
open Tryz renaming prog → Pg
set_option linter.unusedVariables false
set_option linter.unusedSimpArgs false
set_option maxRecDepth 20000
open Go.Sort (swp)
def Cmp (g : FuncId) (gc : List Value) (lt : Rec → Rec → Bool) (V : Rec → Prop) : Prop := ∀ (τ : St) (x y : Rec), V x → V y → ∃ n : Int, zE Pg g (zHC x :: zHC y :: gc) τ (iV n) τ ∧ (n < 0 ↔ lt x y = true)
def xJ (V : Rec → Prop) (d : Array Rec) : Prop := ∀ i, i < d.size → V d[i]!
theorem yS (d : Array Rec) (i j : Nat) : (swp d i j).size = d.size := by simp [swp]
theorem yWH (d : Array Rec) (i k : Nat) (x : Rec) (hk : k < d.size) : (d.setIfInBounds i x)[k]! = if i = k then x else d[k]! := by
 rw [getElem!_pos _ k (by simpa using hk), getElem!_pos d k hk, Array.getElem_setIfInBounds]
theorem xJ.swp {V : Rec → Prop} {d : Array Rec} (h : xJ V d) {i j : Nat} (hi : i < d.size) (hj : j < d.size) : xJ V (swp d i j) := by
 intro k hk
 rw [yS] at hk
 unfold Go.Sort.swp
 rw [yWH _ _ _ _ (by simpa using hk), yWH _ _ _ _ hk]
 split
 ·exact h i hi
 ·split
  ·exact h j hj
  ·exact h k hk
theorem zYO {σ σ' : St} {f : FuncId} {args : List Value} {v : Value} (h : zE Pg f args σ v σ') : σ'.low ≤ σ.low := by
 obtain ⟨N0, hN0⟩ := h
 have hc := hN0 N0 (Nat.le_refl _)
 unfold zBC at hc
 split at hc
 ·cases hc
 ·rename_i v1 s1 h1
  unfold zCD at hc
  rcases Bool.eq_false_or_eq_true (Nat.ble σ.next s1.low && zX RD v1) with e | e
  ·rw [e, cond_true] at hc; simp at hc; rw [← hc.2]; exact Nat.le_refl _
  ·rw [e, cond_false] at hc
   rcases Bool.eq_false_or_eq_true (Nat.ble σ.next s1.next) with e2 | e2
   ·rw [e2, cond_true, vL, zFA] at hc; simp at hc; rw [← hc.2]; show min _ _ ≤ _; omega
   ·rw [e2, cond_false] at hc; cases hc
theorem mut_c {σ s : St} {f : FuncId} {args : List Value} {v : Value} (h : ∃ N0, ∀ N, N0 ≤ N → zV Pg N (.func f) args σ.re = some (v, s)) (h1 : σ.next ≤ s.next) (h2 : s.low < σ.next) : zE Pg f args σ v ⟨s.heap, s.next, min σ.low s.low⟩ := by
 obtain ⟨N0, hN⟩ := h
 refine ⟨N0, fun N hl => ?_⟩
 unfold zBC
 rw [show (⟨σ.heap, σ.next, σ.next⟩ : St) = σ.re from rfl, hN N hl]
 show zCD σ v s = _
 unfold zCD
 have e1 : (Nat.ble σ.next s.low && zX RD v) = false := by
  rw [Bool.and_eq_false_iff]; left
  rw [Bool.eq_false_iff]; intro e; have := (zY _ _).1 e; omega
 have e2 : Nat.ble σ.next s.next = true := (zY _ _).2 h1
 rw [e1, cond_false, e2, cond_true, vL, zFA]
structure W (σ τ : St) (b : Nat) (s : Option Nat) (d dk : Array Rec) : Prop where
 only : Only (· = b) σ.re τ
 dt : Dt τ b s dk
 low : τ.low ≤ b ∨ dk = d
theorem W.start {σ : St} {b : Nat} {s : Option Nat} {d : Array Rec} (h : Dt σ b s d) : W σ σ.re b s d d := ⟨Only.refl _ _, h, .inr rfl⟩
theorem W.swap {σ τ : St} {b : Nat} {s : Option Nat} {d dk : Array Rec} (w : W σ τ b s d dk) {i j : Int} (h0 : 0 ≤ i) (hi : i < (dk.size : Int)) (k0 : 0 ≤ j) (hj : j < (dk.size : Int)) :
  ∃ τ1 τ2, zQ Pg (evL [.pointer (some (zK ⟨b, 0, s⟩ (Int.toNat i * 3))), zHC dk[j.toNat]!]) τ (.store 45 (.tmp 0) (.tmp 1)) = some (undef, τ1) ∧
   zQ Pg (evL [.pointer (some (zK ⟨b, 0, s⟩ (Int.toNat j * 3))), zHC dk[i.toNat]!]) τ1 (.store 45 (.tmp 0) (.tmp 1)) = some (undef, τ2) ∧ W σ τ2 b s d (swp dk i.toNat j.toNat) := by
 obtain ⟨τ1, e1, d1, o1, l1⟩ := w.dt.st dk[j.toNat]! h0 hi
 obtain ⟨τ2, e2, d2, o2, l2⟩ := d1.st (i := j) dk[i.toNat]! k0 (by simpa using hj)
 exact ⟨τ1, τ2, e1, e2, ⟨(w.only.trans' o1 (fun b _ h => .inl h)).trans' o2 (fun b _ h => .inl h), d2, .inl l2⟩⟩
def zBI (f : FuncId) (args : List Value) (v : Value) (σ : St) (b : Nat) (s : Option Nat) (d d' : Array Rec) : Prop := ∃ σ', zE Pg f args σ v σ' ∧ Only (· = b) σ σ' ∧ Dt σ' b s d' ∧ (σ'.low ≤ b ∨ d' = d)
theorem zBI.of {f : FuncId} {args : List Value} {v : Value} {σ : St} {b : Nat} {s : Option Nat} {d d' : Array Rec} (h0 : Dt σ b s d) (h : zN Pg f args σ.re fun v' τ => v' = v ∧ W σ τ b s d d') (hv : zX RD v = true := by rfl) : zBI f args v σ b s d d' := by
  obtain ⟨_, τ, hN, rfl, w⟩ := h
  by_cases hlow : τ.low < σ.next
  · have ho : Only (· = b) σ ⟨τ.heap, τ.next, min σ.low τ.low⟩ := by
      have := w.only.lower (m := 0)
      exact this
    refine ⟨_, mut_c hN w.only.next hlow, ho, w.dt, ?_⟩
    rcases w.low with h | h
    · exact .inl (by show min _ _ ≤ _; omega)
    · exact .inr h
  · have hd : d' = d := by
      rcases w.low with h | h
      · have := h0.1; omega
      · exact h
    exact ⟨σ, zN.pure ⟨_, τ, hN, rfl, by omega⟩ hv, Only.refl _ _, by rw [hd]; exact h0, .inr hd⟩
theorem W.call {σ τ : St} {b : Nat} {s : Option Nat} {d dk d' : Array Rec} {f : FuncId} {args : List Value} {v : Value} (w : W σ τ b s d dk) (h : zBI f args v τ b s dk d') : ∃ τ', zE Pg f args τ v τ' ∧ W σ τ' b s d d' := by
 obtain ⟨τ', c, o, dt, hl⟩ := h
 refine ⟨τ', c, w.only.trans' o (fun b _ h => .inl h), dt, ?_⟩
 have := zYO c
 rcases hl with hl | hl
 ·exact .inl hl
 ·rcases w.low with h | h
  ·exact .inl (by omega)
  ·exact .inr (hl.trans h)
section
variable {σ : St} {b c : Nat} {s : Option Nat} {d : Array Rec} {g : FuncId} {gc : List Value} {lt : Rec → Rec → Bool} {V : Rec → Prop}
theorem zOD (lt : Rec → Rec → Bool) (a : Nat) : ∀ (j : Nat) (d : Array Rec), (Go.Sort.insInner lt a j d).size = d.size
 | 0, d => rfl
 | j + 1, d => by
  unfold Go.Sort.insInner
  split
  ·rw [zOD, yS]
  ·rfl
theorem zQT (lt : Rec → Rec → Bool) (a : Nat) {V : Rec → Prop} : ∀ (j : Nat) (d : Array Rec), j < d.size → xJ V d → xJ V (Go.Sort.insInner lt a j d)
 | 0, d, _, h => h
 | j + 1, d, hj, h => by
  unfold Go.Sort.insInner
  split
  ·exact zQT lt a j _ (by rw [yS]; omega) (h.swp hj (by omega))
  ·exact h
theorem insS_c {a B : Nat} (h : Dt σ b s d) (hc : Cmp g gc lt V) (hv : xJ V d) (hB : B ≤ d.size) (hn : d.size ≤ 1000000) (ha : a ≤ 1000000) :
  zBI 106 [.slice (some ⟨b, 0, s⟩) d.size c, iV (a : Int), iV (B : Int), .func (.func g) ⟨[]⟩ ⟨gc⟩] (.tuple ⟨[]⟩) σ b s d (Go.Sort.insertionSort lt d a B) := by
 refine zBI.of h (yVV (P0 := fun τ => W σ τ b s d (Go.Sort.insertionSort lt d a B)) (zXP (Inv := fun k i τ => ∃ (j : Nat) (dk : Array Rec), i = j ∧ k = B - j ∧ W σ τ b s d dk ∧ dk.size = d.size ∧ xJ V dk ∧ Go.Sort.insOuter lt a B j dk = Go.Sort.insertionSort lt d a B) ?_ (B - (a + 1)) _ σ.re ⟨a + 1, d, by omega, rfl, W.start h, rfl, hv, rfl⟩) (fun τ hw => zXO ⟨rfl, hw⟩) (by omega))
 rintro k i τ ⟨j, dk, rfl, hk, w, hsz, hall, ht⟩
 by_cases hj : j < B
 rotate_left
 ·rw [Go.Sort.insOuter, if_neg hj] at ht
  exact yLQ (by rw [← ht]; exact w) (by omega)
 rw [Go.Sort.insOuter, if_pos hj] at ht
 refine insS_s1a (P2 := fun τ' => W σ τ' b s d (Go.Sort.insInner lt a j dk)) (yRU (Inv := fun k' q' τ' => ∃ (q : Nat) (dq : Array Rec), q' = q ∧ q = k' ∧ q ≤ j ∧ W σ τ' b s d dq ∧ dq.size = d.size ∧ xJ V dq ∧ Go.Sort.insInner lt a q dq = Go.Sort.insInner lt a j dk) ?_ j _ τ ⟨j, dk, rfl, rfl, Nat.le_refl _, w, hsz, hall, rfl⟩)
  (fun τ' hw => yRT ⟨k - 1, by omega, j + 1, _, by omega, by omega, hw, by rw [zOD, hsz], zQT _ _ _ _ (by omega) hall, ht⟩ (by omega)) (by omega)
 rintro k' q' τ' ⟨q, dq, rfl, rfl, hq, w', hsz', hall', ht'⟩
 by_cases haq : a < q
 rotate_left
 ·refine insS_s2c ?_ (by omega)
  have e : Go.Sort.insInner lt a q dq = dq := by
   cases q with
   | zero => rfl
   | succ q => unfold Go.Sort.insInner; rw [if_neg (by simp; omega)]
  rw [← ht', e]; exact w'
 obtain ⟨p, rfl⟩ : ∃ p, q = p + 1 := ⟨q - 1, by omega⟩
 have l1 := w'.dt.ld (i := ((p + 1 : Nat) : Int)) (by omega) (by omega)
 have l2 := w'.dt.ld (i := ((p + 1 : Nat) : Int) - 1) (by omega) (by omega)
 have e2 : (((p + 1 : Nat) : Int) - 1).toNat = p := by omega
 obtain ⟨n, hn1, hn2⟩ := hc τ' dq[(((p + 1 : Nat) : Int)).toNat]! dq[(((p + 1 : Nat) : Int) - 1).toNat]! (hall' _ (by omega)) (hall' _ (by omega))
 by_cases hlt : n < 0
 ·have hl := hn2.1 hlt
  rw [e2, Int.toNat_natCast] at hl
  obtain ⟨τ1, τ2, s1, s2, w2⟩ := w'.swap (i := ((p + 1 : Nat) : Int)) (j := ((p + 1 : Nat) : Int) - 1) (by omega) (by omega) (by omega) (by omega)
  rw [e2, Int.toNat_natCast] at w2
  refine insS_s2a l1 l2 hn1 s1 s2 ⟨p, by omega, p, _, by omega, rfl, by omega, w2, by rw [yS, hsz'], hall'.swp (by omega) (by omega), ?_⟩ (by omega) (by omega) (by omega) (by omega) (by omega)
  rw [← ht']
  conv => rhs; unfold Go.Sort.insInner
  rw [if_pos (by simp [hl]; omega)]
 ·have hl : lt dq[p + 1]! dq[p]! = false := by
   rw [Bool.eq_false_iff]
   intro e
   have := hn2.2 (by rw [e2, Int.toNat_natCast]; exact e)
   exact hlt this
  refine insS_s2b l1 l2 hn1 ?_ (by omega) (by omega) (by omega) (by omega) (by omega)
  have e : Go.Sort.insInner lt a (p + 1) dq = dq := by unfold Go.Sort.insInner; rw [if_neg (by simp [hl])]
  rw [← ht', e]; exact w'
end
end Go.Proofs.YtgfiniccfpfplaaGreat
