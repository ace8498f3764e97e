
import Derived.Test.YtffgfojabcbegaaWE
import Derived.Test.YtffgfojabcbegaaXP
namespace Go.Proofs.Ytffgfojabcbegaa
open Go Go.Lay
open Try renaming prog → Pg
set_option linter.unusedVariables false
set_option linter.unusedSimpArgs false
set_option maxRecDepth 20000
theorem yNR {L : List Rec} : zKF (vF L) L L.length = xD L := yWX
def yWH (L : List Rec) : Nat → Int × Int
 | 0 => (0, 0)
 | s + 1 => zAD L (L.getD s default).m (s + 1)
theorem acc_base {L : List Rec} (hs : Srt L) {s : Nat} {x : Rec} (hx : L[s]? = some x) : (s = 0 ∨ (L.getD (s - 1) default).m = x.m → yWH L s = zAD L x.m s) ∧ (¬ (s = 0 ∨ (L.getD (s - 1) default).m = x.m) → zAD L x.m s = (0, 0)) := by
 constructor
 ·rintro (rfl | h)
  ·rfl
  ·cases s with
   | zero => rfl
   | succ s => rw [← h]; rfl
 ·intro h
  refine zNY fun j y hj hy e => h (.inr ?_)
  have hlt := (List.getElem?_eq_some_iff.1 hx).1
  have hp : L[s - 1]? = some (L[s - 1]'(by omega)) := by simp
  rw [yN hp]
  have k1 := zES hs hp hx (by omega)
  have k2 : y.m ≤ (L[s - 1]'(by omega)).m := by
   by_cases e2 : j = s - 1
   ·rw [e2, hp] at hy; rw [← Option.some.inj hy]; exact Int.le_refl _
   ·have := zES hs hy hp (by omega)
    unfold xJ at this; omega
  unfold xJ at k1; omega
theorem acc_s {L : List Rec} {s : Nat} {x : Rec} (hx : L[s]? = some x) : yWH L (s + 1) = yAZ x.m (zAD L x.m s) x := by
 show zAD L (L.getD s default).m (s + 1) = _
 rw [yN hx, zJA hx]
section
variable {σ : St}
theorem ready_c {p : Option Addr} {l c : Nat} {xs : List Rec} (h : xB σ 59 p l xs) : zG Pg 26 [.slice p l c] σ (.bool (decide (l ≤ 60) && decide (zEV [xs] = 0))) σ := by
 by_cases h60 : l ≤ 60
 ·obtain ⟨b, σ7, k3, n3, k4⟩ := yUD (c := c) (SlV.le h (le0 σ)) (by omega)
  by_cases hz : zEV [xs] = 0
  ·rw [decide_eq_true h60, decide_eq_true hz]
   exact zO.pure (yXR k3 k4 ⟨rfl, n3.lw⟩ (by omega) hz)
  ·rw [decide_eq_true h60, decide_eq_false hz]
   exact zO.pure (yXQ k3 k4 ⟨rfl, n3.lw⟩ (by omega) hz)
 ·rw [decide_eq_false h60]
  exact zO.pure (yXP ⟨rfl, Nat.le_refl _⟩ (by omega))
theorem Closed_c {p : Option Addr} {l c : Nat} {xs : List Rec} (h : xB σ 59 p l xs) (hl : l ≤ 1000) (hc : zBO xs) (hb : ∀ x ∈ xs, x.k = 0 → 0 ≤ x.b ∧ x.b ≤ 10000) :
  ∃ p' c' σ', zG Pg 27 [.slice p l c] σ (.slice p' (vZ xs).length c') σ' ∧ New σ σ' ∧ xB σ' 59 p' (vZ xs).length (xD (vZ xs)) := by
 have hlen := h.len
 obtain ⟨L, hL⟩ : ∃ L, L = vZ xs := ⟨_, rfl⟩
 obtain ⟨p1, c1, σ2, k1, n1, g1⟩ := rLog_g (c := c) (SlV.le h (le0 σ)) (by omega) hc
 have hLl := zUV (l := xs)
 have hbL : ∀ x ∈ L, x.k = 0 → 0 ≤ x.b ∧ x.b ≤ 10000 := fun x hx => hb x (by rw [hL] at hx; exact zLD.1 hx)
 have hs : Srt L := by rw [hL]; exact zOR hc
 rw [← hL] at k1 g1 hLl ⊢
 have key : zO Pg 27 [.slice p l c] σ.re fun v s => New σ.re s ∧ ∃ p' c', v = .slice p' L.length c' ∧ xB s 59 p' L.length (xD L) := by
  refine yWL (P0 := fun τ => New σ.re τ ∧ xB τ 59 p1 L.length (xD L)) k1
   (yEG (Inv := fun k a b i τ => ∃ s : Nat, i = s ∧ s + k = L.length ∧ (a, b) = yWH L s ∧ New σ.re τ ∧ Gr Pg τ σ.next 59 6 p1 L.length c1 ((zKF (vF L) L s).map yP)) ?_ L.length 0 0 0 σ2 ⟨0, rfl, by omega, rfl, n1, by rw [upTo_0]; exact g1⟩)
   (fun τ ⟨hN, hr⟩ => yEF ⟨hN, p1, c1, rfl, hr⟩)
  rintro k a b i τ ⟨s, rfl, hk, hab, hN, hg⟩
  by_cases hsl : s < L.length
  rotate_left
  ·have : s = L.length := by omega
   rw [this, yNR] at hg
   exact yOY ⟨hN, hg.slv⟩ (by omega)
  obtain ⟨x, hx⟩ : ∃ x, L[s]? = some x := ⟨L[s]'hsl, by simp⟩
  have sl := hg.slv
  obtain ⟨a1, rfl, -⟩ := zCG (f := yP) sl hsl
  have hx' := yAY (f := vF L) hx
  have ldx : ∀ {t' k : Nat} {v : Value}, (yH x)[k]? = some v → zCE Pg t' = some false → zD Pg τ t' (zJ a1 (Int.toNat (s : Int) * 6 + k)) = some v := fun hk ht => zGO sl (by rw [List.getElem?_map, hx']; rfl) hk ht
  obtain ⟨base1, base2⟩ := acc_base hs hx
  have hacc := acc_s hx
  obtain ⟨b1, b2, b3, b4⟩ := zTE (L := L) (m := x.m) (by omega : (0 : Int) ≤ 10000) hbL s
  have hxb := hbL x (List.mem_of_getElem? hx)
  have tn : Int.toNat (s : Int) = s := by omega
  obtain ⟨q, hq⟩ : ∃ q, q = zAD L x.m s := ⟨_, rfl⟩
  rw [← hq] at base1 base2 hacc b1 b2 b3 b4
  have next0 : x.k = 0 → ∃ k', k' < k ∧ ∃ s_1 : Nat, (s : Int) + 1 = s_1 ∧ s_1 + k' = L.length ∧ (q.1 + 1, q.2 + x.b) = yWH L s_1 ∧ New σ.re τ ∧ Gr Pg τ σ.next 59 6 (some a1) L.length c1 ((zKF (vF L) L s_1).map yP) := fun h0 => by
   refine ⟨k - 1, by omega, s + 1, by omega, by omega, ?_, hN, ?_⟩
   ·rw [hacc]; unfold yAZ; rw [if_pos ⟨rfl, h0⟩]
   ·rw [yPM hx (zTO (by omega))]; exact hg
  have next1 : x.k ≠ 0 → x.k ≠ 2 → ∃ k', k' < k ∧ ∃ s_1 : Nat, (s : Int) + 1 = s_1 ∧ s_1 + k' = L.length ∧ (q.1, q.2) = yWH L s_1 ∧ New σ.re τ ∧ Gr Pg τ σ.next 59 6 (some a1) L.length c1 ((zKF (vF L) L s_1).map yP) := fun h0 h2 => by
   refine ⟨k - 1, by omega, s + 1, by omega, by omega, ?_, hN, ?_⟩
   ·rw [hacc]; unfold yAZ; rw [if_neg (fun h => h0 h.2)]
   ·rw [yPM hx (zTO h2)]; exact hg
  have next2 : x.k = 2 → ∃ τ1 τ2, zL Pg (evL [.pointer (some (zJ a1 (Int.toNat (s : Int) * 6 + 4))), zAQ q.1]) τ (.store 3 (.tmp 0) (.tmp 1)) = some (undef, τ1) ∧ zL Pg (evL [.pointer (some (zJ a1 (Int.toNat (s : Int) * 6 + 5))), zAQ q.2]) τ1 (.store 3 (.tmp 0) (.tmp 1)) = some (undef, τ2) ∧ ∃ k', k' < k ∧ ∃ s_1 : Nat, (s : Int) + 1 = s_1 ∧ s_1 + k' = L.length ∧ (q.1, q.2) = yWH L s_1 ∧ New σ.re τ2 ∧ Gr Pg τ2 σ.next 59 6 (some a1) L.length c1 ((zKF (vF L) L s_1).map yP) := fun h2 => by
   obtain ⟨a2, τ1, e1, w1, gg1, o1, nn1⟩ := gr_fst hg (i := s) (k := 4) (t := 3) (v := zAQ q.1) { x with a := q.1 } hx' (by omega) rfl rfl rfl zQQ
   cases e1
   have hx1 : ((zKF (vF L) L s).set s { x with a := q.1 })[s]? = some { x with a := q.1 } := by
    rw [List.getElem?_set]; simp [yEN, hsl]
   obtain ⟨a3, τ2, e2, w2, gg2, o2, nn2⟩ := gr_fst gg1 (i := s) (k := 5) (t := 3) (v := zAQ q.2) { x with a := q.1, b := q.2 } hx1 (by omega) rfl rfl rfl zQQ
   cases e2
   rw [tn]
   refine ⟨τ1, τ2, w1, w2, k - 1, by omega, s + 1, by omega, by omega, ?_, (hN.of_only o1 (fun b hb => (hg.bd hb).1)).of_only o2 (fun b hb => (gg1.bd hb).1), ?_⟩
   ·rw [hacc]; unfold yAZ; rw [if_neg (fun h => by omega)]
   ·rw [yWV hx, show vF L s x = { x with a := q.1, b := q.2 } from by unfold vF; rw [if_pos h2, ← hq]]
    rw [List.set_set] at gg2
    exact gg2
  by_cases hs0 : s = 0
  ·have e := base1 (.inl hs0)
   rw [← hab] at e
   have ea : a = q.1 := by rw [← e]
   have eb : b = q.2 := by rw [← e]
   subst ea eb
   by_cases h0 : x.k = 0
   ·have hx0 := hxb h0
    have nx := next0 h0
    clear next0 next1 next2
    exact yPB (ldx rfl zAB) (ldx rfl zP) (nx) (by omega) (by omega) ⟨by omega, by omega⟩ h0
   ·by_cases h2 : x.k = 2
    ·obtain ⟨τ1, τ2, w1, w2, nx⟩ := next2 h2
     exact yPA (ldx rfl zAB) w1 w2 nx (by omega) (by omega) ⟨by omega, by omega⟩ h0 h2
    ·exact yOZ (ldx rfl zAB) (next1 h0 h2) (by omega) (by omega) ⟨by omega, by omega⟩ h0 h2
  ·have hp : L[s - 1]? = some (L[s - 1]'(by omega)) := by simp
   generalize L[s - 1]'(by omega) = y at hp
   have hy' := yWW (f := vF L) (s := s) hp (by omega)
   have tn1 : Int.toNat ((s : Int) - 1) = s - 1 := by omega
   have ldy : zD Pg τ 3 (zJ a1 (Int.toNat ((s : Int) - 1) * 6 + 0)) = some (zAQ y.m) := by
    have := zGO (P := Pg) (t' := 3) (i := s - 1) (k := 0) (x := zAQ y.m) sl (by rw [List.getElem?_map, hy']; rfl) (by show some (zAQ (vF L (s - 1) y).m) = _; rw [zAH.1]) zP
    rwa [Int.toNat_natCast, ← tn1] at this
   rw [yN hp] at base1 base2
   by_cases hm : x.m = y.m
   ·have e := base1 (.inr hm.symm)
    rw [← hab] at e
    have ea : a = q.1 := by rw [← e]
    have eb : b = q.2 := by rw [← e]
    subst ea eb
    by_cases h0 : x.k = 0
    ·have hx0 := hxb h0
     have nx := next0 h0
     clear next0 next1 next2
     exact yPE (ldx rfl zP) ldy (ldx rfl zAB) (ldx rfl zP) (nx) (by omega) (by omega) ⟨by omega, by omega⟩ ⟨by omega, by omega⟩ ⟨by omega, by omega⟩ hm h0
    ·by_cases h2 : x.k = 2
     ·obtain ⟨τ1, τ2, w1, w2, nx⟩ := next2 h2
      exact yPD (ldx rfl zP) ldy (ldx rfl zAB) w1 w2 nx (by omega) (by omega) ⟨by omega, by omega⟩ ⟨by omega, by omega⟩ ⟨by omega, by omega⟩ hm h0 h2
     ·exact yPC (ldx rfl zP) ldy (ldx rfl zAB) (next1 h0 h2) (by omega) (by omega) ⟨by omega, by omega⟩ ⟨by omega, by omega⟩ ⟨by omega, by omega⟩ hm h0 h2
   ·have e := base2 (fun h => h.elim hs0 fun h => hm h.symm)
    rw [e] at next0 next1 next2
    by_cases h0 : x.k = 0
    ·have hx0 := hxb h0
     have nx := next0 h0
     clear next0 next1 next2
     exact yPH (ldx rfl zP) ldy (ldx rfl zAB) (ldx rfl zP) (by simpa using nx) (by omega) (by omega) ⟨by omega, by omega⟩ ⟨by omega, by omega⟩ ⟨by omega, by omega⟩ hm h0
    ·by_cases h2 : x.k = 2
     ·obtain ⟨τ1, τ2, w1, w2, nx⟩ := next2 h2
      exact yPG (ldx rfl zP) ldy (ldx rfl zAB) w1 w2 nx (by omega) (by omega) ⟨by omega, by omega⟩ ⟨by omega, by omega⟩ ⟨by omega, by omega⟩ hm h0 h2
     ·exact yPF (ldx rfl zP) ldy (ldx rfl zAB) (next1 h0 h2) (by omega) (by omega) ⟨by omega, by omega⟩ ⟨by omega, by omega⟩ ⟨by omega, by omega⟩ hm h0 h2
 obtain ⟨v, σ', h1, h2, p', c', rfl, h3⟩ := zO.new (Q := fun v s => ∃ p' c', v = .slice p' L.length c' ∧ xB s 59 p' L.length (xD L)) key (by rintro v s s' ⟨q, d, rfl, g⟩ hle; exact ⟨q, d, rfl, SlV.le g hle⟩) (by
  rintro v s hr ⟨q, d, rfl, g⟩
  refine ⟨q, d, rfl, ?_⟩
  cases q with
  | none => exact zKN g
  | some a => exact Bool.noConfusion (show false = true from hr))
 exact ⟨p', c', σ', h1, h2, h3⟩
end
end Go.Proofs.Ytffgfojabcbegaa
