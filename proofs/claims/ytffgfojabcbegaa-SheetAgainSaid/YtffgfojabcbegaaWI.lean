import Derived.Test.YtffgfojabcbegaaWE
import Derived.Test.YtffgfojabcbegaaXP
import Derived.Test.YtffgfojabcbegaaTy

namespace Go.Proofs.Ytffgfojabcbegaa
open Go Go.Lay
open Try renaming prog → Pg
set_option linter.unusedVariables false
set_option linter.unusedSimpArgs false
set_option maxRecDepth 20000
theorem yQP {L : List Rec} : zLD (vF L) L L.length = yY L := yZH
def yYR (L : List Rec) : Nat → Int × Int
 | 0 => (0, 0)
 | s + 1 => zAJ L (L.getD s default).m (s + 1)
theorem acc_base {L : List Rec} (hs : Srt L) {s : Nat} {x : Rec} (hx : L[s]? = some x) : (s = 0 ∨ (L.getD (s - 1) default).m = x.m → yYR L s = zAJ L x.m s) ∧ (¬ (s = 0 ∨ (L.getD (s - 1) default).m = x.m) → zAJ L x.m s = (0, 0)) := by
 constructor
 ·rintro (rfl | h)
  ·rfl
  ·cases s with
   | zero => rfl
   | succ s => rw [← h]; rfl
 ·intro h
  refine zOZ fun j y hj hy e => h (.inr ?_)
  have hlt := (List.getElem?_eq_some_iff.1 hx).1
  have hp : L[s - 1]? = some (L[s - 1]'(by omega)) := by simp
  rw [yQ hp]
  have k1 := zID hs hp hx (by omega)
  have k2 : y.m ≤ (L[s - 1]'(by omega)).m := by
   by_cases e2 : j = s - 1
   ·rw [e2, hp] at hy; rw [← Option.some.inj hy]; exact Int.le_refl _
   ·have := zID hs hy hp (by omega)
    unfold xE at this; omega
  unfold xE at k1; omega
theorem acc_s {L : List Rec} {s : Nat} {x : Rec} (hx : L[s]? = some x) : yYR L (s + 1) = yCP x.m (zAJ L x.m s) x := by
 show zAJ L (L.getD s default).m (s + 1) = _
 rw [yQ hx, zJZ hx]
section
variable {σ : St}
theorem ready_c {p : Option Addr} {l c : Nat} {xs : List Rec} (h : yU σ 59 p l xs) : zF Pg 26 [.slice p l c] σ (.bool (decide (l ≤ 60) && decide (zFM [xs] = 0))) σ := by
 by_cases h60 : l ≤ 60
 ·obtain ⟨b, σ7, k3, n3, k4⟩ := yXG (c := c) (SlV.le h (le0 σ)) (by omega)
  by_cases hz : zFM [xs] = 0
  ·rw [decide_eq_true h60, decide_eq_true hz]
   exact zM.pure (ready_ra k3 k4 ⟨rfl, n3.lw⟩ (by omega) hz)
  ·rw [decide_eq_true h60, decide_eq_false hz]
   exact zM.pure (ready_rb k3 k4 ⟨rfl, n3.lw⟩ (by omega) hz)
 ·rw [decide_eq_false h60]
  exact zM.pure (ready_rc ⟨rfl, Nat.le_refl _⟩ (by omega))
theorem Closed_c {p : Option Addr} {l c : Nat} {xs : List Rec} (h : yU σ 59 p l xs) (hl : l ≤ 1000) (hc : zAZ xs) (hb : ∀ x ∈ xs, x.k = 0 → 0 ≤ x.b ∧ x.b ≤ 10000) :
  ∃ p' c' σ', zF Pg 27 [.slice p l c] σ (.slice p' (uT xs).length c') σ' ∧ New σ σ' ∧ yU σ' 59 p' (uT xs).length (yY (uT xs)) := by
 have hlen := h.len
 obtain ⟨L, hL⟩ : ∃ L, L = uT xs := ⟨_, rfl⟩
 obtain ⟨p1, c1, σ2, k1, n1, g1⟩ := rLog_g (c := c) (SlV.le h (le0 σ)) (by omega) hc
 have hLl := zWL (l := xs)
 have hbL : ∀ x ∈ L, x.k = 0 → 0 ≤ x.b ∧ x.b ≤ 10000 := fun x hx => hb x (by rw [hL] at hx; exact zMA.1 hx)
 have hs : Srt L := by rw [hL]; exact zPS hc
 rw [← hL] at k1 g1 hLl ⊢
 have key : zM Pg 27 [.slice p l c] σ.re fun v s => New σ.re s ∧ ∃ p' c', v = .slice p' L.length c' ∧ yU s 59 p' L.length (yY L) := by
  refine yYV (P0 := fun τ => New σ.re τ ∧ yU τ 59 p1 L.length (yY L)) k1
   (yGJ (Inv := fun k a b i τ => ∃ s : Nat, i = s ∧ s + k = L.length ∧ (a, b) = yYR L s ∧ New σ.re τ ∧ Gr Pg τ σ.next 59 6 p1 L.length c1 ((zLD (vF L) L s).map yE)) ?_ L.length 0 0 0 σ2 ⟨0, rfl, by omega, rfl, n1, by rw [upTo_0]; exact g1⟩)
   (fun τ ⟨hN, hr⟩ => yGI ⟨hN, p1, c1, rfl, hr⟩)
  rintro k a b i τ ⟨s, rfl, hk, hab, hN, hg⟩
  by_cases hsl : s < L.length
  rotate_left
  ·have : s = L.length := by omega
   rw [this, yQP] at hg
   exact yRX ⟨hN, hg.slv⟩ (by omega)
  obtain ⟨x, hx⟩ : ∃ x, L[s]? = some x := ⟨L[s]'hsl, by simp⟩
  have sl := hg.slv
  obtain ⟨a1, rfl, -⟩ := zAO (f := yE) sl hsl
  have hx' := yCO (f := vF L) hx
  have ldx : ∀ {t' k : Nat} {v : Value}, (yN x)[k]? = some v → zDD Pg t' = some false → zC Pg τ t' (zG a1 (Int.toNat (s : Int) * 6 + k)) = some v := fun hk ht => zCE sl (by rw [List.getElem?_map, hx']; rfl) hk ht
  obtain ⟨base1, base2⟩ := acc_base hs hx
  have hacc := acc_s hx
  obtain ⟨b1, b2, b3, b4⟩ := zUU (L := L) (m := x.m) (by omega : (0 : Int) ≤ 10000) hbL s
  have hxb := hbL x (List.mem_of_getElem? hx)
  have tn : Int.toNat (s : Int) = s := by omega
  obtain ⟨q, hq⟩ : ∃ q, q = zAJ L x.m s := ⟨_, rfl⟩
  rw [← hq] at base1 base2 hacc b1 b2 b3 b4
  have next0 : x.k = 0 → ∃ k', k' < k ∧ ∃ s_1 : Nat, (s : Int) + 1 = s_1 ∧ s_1 + k' = L.length ∧ (q.1 + 1, q.2 + x.b) = yYR L s_1 ∧ New σ.re τ ∧ Gr Pg τ σ.next 59 6 (some a1) L.length c1 ((zLD (vF L) L s_1).map yE) := fun h0 => by
   refine ⟨k - 1, by omega, s + 1, by omega, by omega, ?_, hN, ?_⟩
   ·rw [hacc]; unfold yCP; rw [if_pos ⟨rfl, h0⟩]
   ·rw [ySL hx (zVE (by omega))]; exact hg
  have next1 : x.k ≠ 0 → x.k ≠ 2 → ∃ k', k' < k ∧ ∃ s_1 : Nat, (s : Int) + 1 = s_1 ∧ s_1 + k' = L.length ∧ (q.1, q.2) = yYR L s_1 ∧ New σ.re τ ∧ Gr Pg τ σ.next 59 6 (some a1) L.length c1 ((zLD (vF L) L s_1).map yE) := fun h0 h2 => by
   refine ⟨k - 1, by omega, s + 1, by omega, by omega, ?_, hN, ?_⟩
   ·rw [hacc]; unfold yCP; rw [if_neg (fun h => h0 h.2)]
   ·rw [ySL hx (zVE h2)]; exact hg
  have next2 : x.k = 2 → ∃ τ1 τ2, zK Pg (evL [.pointer (some (zG a1 (Int.toNat (s : Int) * 6 + 4))), vV q.1]) τ (.store 3 (.tmp 0) (.tmp 1)) = some (undef, τ1) ∧ zK Pg (evL [.pointer (some (zG a1 (Int.toNat (s : Int) * 6 + 5))), vV q.2]) τ1 (.store 3 (.tmp 0) (.tmp 1)) = some (undef, τ2) ∧ ∃ k', k' < k ∧ ∃ s_1 : Nat, (s : Int) + 1 = s_1 ∧ s_1 + k' = L.length ∧ (q.1, q.2) = yYR L s_1 ∧ New σ.re τ2 ∧ Gr Pg τ2 σ.next 59 6 (some a1) L.length c1 ((zLD (vF L) L s_1).map yE) := fun h2 => by
   obtain ⟨a2, τ1, e1, w1, gg1, o1, nn1⟩ := gr_fst hg (i := s) (k := 4) (t := 3) (v := vV q.1) { x with a := q.1 } hx' (by omega) rfl rfl rfl zRY
   cases e1
   have hx1 : ((zLD (vF L) L s).set s { x with a := q.1 })[s]? = some { x with a := q.1 } := by
    rw [List.getElem?_set]; simp [yGS, hsl]
   obtain ⟨a3, τ2, e2, w2, gg2, o2, nn2⟩ := gr_fst gg1 (i := s) (k := 5) (t := 3) (v := vV q.2) { x with a := q.1, b := q.2 } hx1 (by omega) rfl rfl rfl zRY
   cases e2
   rw [tn]
   refine ⟨τ1, τ2, w1, w2, k - 1, by omega, s + 1, by omega, by omega, ?_, (hN.of_only o1 (fun b hb => (hg.bd hb).1)).of_only o2 (fun b hb => (gg1.bd hb).1), ?_⟩
   ·rw [hacc]; unfold yCP; rw [if_neg (fun h => by omega)]
   ·rw [yZF hx, show vF L s x = { x with a := q.1, b := q.2 } from by unfold vF; rw [if_pos h2, ← hq]]
    rw [List.set_set] at gg2
    exact gg2
  by_cases hs0 : s = 0
  ·have e := base1 (.inl hs0)
   rw [← hab] at e
   have ea : a = q.1 := by rw [← e]
   have eb : b = q.2 := by rw [← e]
   subst ea eb
   by_cases h0 : x.k = 0
   ·have hx0 := hxb h0
    have nx := next0 h0
    clear next0 next1 next2
    exact ySA (ldx rfl zCP) (ldx rfl zR) (nx) (by omega) (by omega) ⟨by omega, by omega⟩ h0
   ·by_cases h2 : x.k = 2
    ·obtain ⟨τ1, τ2, w1, w2, nx⟩ := next2 h2
     exact yRZ (ldx rfl zCP) w1 w2 nx (by omega) (by omega) ⟨by omega, by omega⟩ h0 h2
    ·exact yRY (ldx rfl zCP) (next1 h0 h2) (by omega) (by omega) ⟨by omega, by omega⟩ h0 h2
  ·have hp : L[s - 1]? = some (L[s - 1]'(by omega)) := by simp
   generalize L[s - 1]'(by omega) = y at hp
   have hy' := yZG (f := vF L) (s := s) hp (by omega)
   have tn1 : Int.toNat ((s : Int) - 1) = s - 1 := by omega
   have ldy : zC Pg τ 3 (zG a1 (Int.toNat ((s : Int) - 1) * 6 + 0)) = some (vV y.m) := by
    have := zCE (P := Pg) (t' := 3) (i := s - 1) (k := 0) (x := vV y.m) sl (by rw [List.getElem?_map, hy']; rfl) (by show some (vV (vF L (s - 1) y).m) = _; rw [zAP.1]) zR
    rwa [Int.toNat_natCast, ← tn1] at this
   rw [yQ hp] at base1 base2
   by_cases hm : x.m = y.m
   ·have e := base1 (.inr hm.symm)
    rw [← hab] at e
    have ea : a = q.1 := by rw [← e]
    have eb : b = q.2 := by rw [← e]
    subst ea eb
    by_cases h0 : x.k = 0
    ·have hx0 := hxb h0
     have nx := next0 h0
     clear next0 next1 next2
     exact ySD (ldx rfl zR) ldy (ldx rfl zCP) (ldx rfl zR) (nx) (by omega) (by omega) ⟨by omega, by omega⟩ ⟨by omega, by omega⟩ ⟨by omega, by omega⟩ hm h0
    ·by_cases h2 : x.k = 2
     ·obtain ⟨τ1, τ2, w1, w2, nx⟩ := next2 h2
      exact ySC (ldx rfl zR) ldy (ldx rfl zCP) w1 w2 nx (by omega) (by omega) ⟨by omega, by omega⟩ ⟨by omega, by omega⟩ ⟨by omega, by omega⟩ hm h0 h2
     ·exact ySB (ldx rfl zR) ldy (ldx rfl zCP) (next1 h0 h2) (by omega) (by omega) ⟨by omega, by omega⟩ ⟨by omega, by omega⟩ ⟨by omega, by omega⟩ hm h0 h2
   ·have e := base2 (fun h => h.elim hs0 fun h => hm h.symm)
    rw [e] at next0 next1 next2
    by_cases h0 : x.k = 0
    ·have hx0 := hxb h0
     have nx := next0 h0
     clear next0 next1 next2
     exact ySG (ldx rfl zR) ldy (ldx rfl zCP) (ldx rfl zR) (by simpa using nx) (by omega) (by omega) ⟨by omega, by omega⟩ ⟨by omega, by omega⟩ ⟨by omega, by omega⟩ hm h0
    ·by_cases h2 : x.k = 2
     ·obtain ⟨τ1, τ2, w1, w2, nx⟩ := next2 h2
      exact ySF (ldx rfl zR) ldy (ldx rfl zCP) w1 w2 nx (by omega) (by omega) ⟨by omega, by omega⟩ ⟨by omega, by omega⟩ ⟨by omega, by omega⟩ hm h0 h2
     ·exact ySE (ldx rfl zR) ldy (ldx rfl zCP) (next1 h0 h2) (by omega) (by omega) ⟨by omega, by omega⟩ ⟨by omega, by omega⟩ ⟨by omega, by omega⟩ hm h0 h2
 obtain ⟨v, σ', h1, h2, p', c', rfl, h3⟩ := zM.new (Q := fun v s => ∃ p' c', v = .slice p' L.length c' ∧ yU s 59 p' L.length (yY L)) key (by rintro v s s' ⟨q, d, rfl, g⟩ hle; exact ⟨q, d, rfl, SlV.le g hle⟩) (by
  rintro v s hr ⟨q, d, rfl, g⟩
  refine ⟨q, d, rfl, ?_⟩
  cases q with
  | none => exact zLL g
  | some a => exact Bool.noConfusion (show false = true from hr))
 exact ⟨p', c', σ', h1, h2, h3⟩
end
end Go.Proofs.Ytffgfojabcbegaa

namespace Go.Proofs.Ytffgfojabcbegaa
open Go Go.Lay
set_option linter.unusedVariables false
set_option linter.unusedSimpArgs false
set_option maxRecDepth 20000
theorem yYP : AppT Try.prog 64 64 3 1 := zNY (by kernel_rfl)
theorem elOk_num (x : Int) : zJM Try.prog 3 1 (vV x) := .inl ⟨zR, rfl, rfl⟩
theorem rem_eq {ox oy : Operand} {t : TypeId} {a b : Int} (h : b ≠ 0) : vZ Try.prog .rem t ox oy (iV a) (iV b) = some (iV (a.tmod b)) := by
 simp [vZ, zGV, yFK, h]
section
variable {σ : St}
end
end Go.Proofs.Ytffgfojabcbegaa

namespace Go.Proofs.Ytffgfojabcbegaa
open Go Go.Lay
set_option linter.unusedVariables false
set_option linter.unusedSimpArgs false
set_option maxRecDepth 20000
theorem shrB {x z : Int} {o1 o2 : Operand} (hz : 0 ≤ z) : vZ Try.prog .shr 55 o1 o2 (.int .u64 x) (.int .u64 z) = some (.int .u64 (x.fdiv (2 ^ (min z.toNat 64)))) := by
 have e : Op.shift .shr .u64 x .u64 z = pure (.int .u64 (x.fdiv (2 ^ (min z.toNat 64)))) := by unfold Op.shift; rw [if_neg (by omega)]; rfl
 show ((yI Try.prog (do eqGuard .shr 55 o1 o2 (.int .u64 x) (.int .u64 z); Op.shift .shr .u64 x .u64 z)).filter (zQ RD)) = _
 rw [e]; rfl
theorem wrapN {j : Nat} (hj : j ≤ 1000) : zBE .u64 (j : Int) = j := by rw [zRW]; omega
theorem tmod64 (s : Nat) : Int.tmod (s : Int) 64 = ((s % 64 : Nat) : Int) := by rw [Int.tmod_eq_emod_of_nonneg (by omega)]; rfl
def bitN (bits : Int) (i : Nat) : Int := bits.fdiv (2 ^ (min ((i % 64 : Nat) : Int).toNat 64))
def uV (bits : Int) (i : Nat) : Bool := decide ((bitN bits i).tmod 2 = 1)
theorem bit_see {bits : Int} {s : Nat} {o1 o2 : Operand} : zBE .u64 (Int.tmod (s : Int) 64) = ((s % 64 : Nat) : Int) ∧ vZ Try.prog .shr 55 o1 o2 (.int .u64 bits) (.int .u64 ((s % 64 : Nat) : Int)) = some (.int .u64 (bitN bits s)) := by
 rw [tmod64]
 exact ⟨wrapN (by omega), shrB (by omega)⟩
section
variable {σ8 τ : St} {B z : Nat} {now : Lk} {lf : List Rec} {wn : List Lk} {p8 p9 : Option Addr} {c8 c9 : Nat} {x : Rec}
end
end Go.Proofs.Ytffgfojabcbegaa

namespace Go.Proofs.Ytffgfojabcbegaa
open Go Go.Lay
set_option linter.unusedVariables false
set_option linter.unusedSimpArgs false
set_option maxRecDepth 20000
theorem yMG {L : List Rec} (hl : L.length ≤ 60) (hr : ∀ x ∈ L, yG x = true) : ∀ x ∈ yY L, yG x = true := by
 intro x hx
 obtain ⟨i, hi, rfl⟩ := List.mem_iff_getElem.1 hx
 obtain ⟨r, e1, e2⟩ := zHK (List.getElem?_eq_getElem hi)
 rw [e2]
 have hrr := hr r (List.mem_of_getElem? e1)
 by_cases hk : r.k = 2
 ·obtain ⟨b1, b2, b3, b4⟩ := zUU (L := L) (m := r.m) (by omega : (0 : Int) ≤ 10000) (fun x hx hk => by
   have := hr x hx
   unfold yG at this
   rw [if_pos hk] at this
   simp only [Bool.and_eq_true, zKN] at this
   omega) i
  have hi2 := (List.getElem?_eq_some_iff.1 e1).1
  unfold yG at hrr ⊢
  rw [zAP.1, zAP.2.1, zAP.2.2.1, zAP.2.2.2]
  rw [if_neg (by omega), if_neg (by omega), if_pos hk] at hrr ⊢
  unfold vF
  rw [if_pos hk]
  simp only [Bool.and_eq_true, zKN] at hrr ⊢
  omega
 ·rw [zVE hk]; exact hrr
theorem sale_b {xs : List Rec} (hr : ∀ x ∈ xs, yG x = true) : ∀ x ∈ xs, x.k = 0 → 0 ≤ x.b ∧ x.b ≤ 10000 := fun x hx hk => by
 have := hr x hx
 unfold yG at this
 rw [if_pos hk] at this
 simp only [Bool.and_eq_true, zKN] at this
 omega
theorem fault_of {xs : List Rec} (hl : xs.length ≤ 60) (hr : ∀ x ∈ xs, yG x = true) : xR [xs] = 0 := by
 rw [yQM, if_neg (by omega), if_pos (List.all_eq_true.2 hr)]
theorem yJC {l : List Rec} (hs : Srt l) (hc : zAZ l) : uT l = l := (yEU hc hs fun _ => Iff.rfl).symm
theorem yRG {xs : List Rec} (hr : ∀ x ∈ xs, yG x = true) : ∀ x ∈ xs, zYW x := fun x hx => by
 have := zED (hr x hx)
 unfold zYW; omega
section
variable {σ σ8 : St}
theorem yGO {F : List Rec} {G : Nat → Bool} : ∀ {s : Nat}, (zAN G F s).length ≤ s
 | 0 => Nat.le_refl _
 | s + 1 => by
  have := yGO (F := F) (G := G) (s := s)
  cases e : F[s]? with
  | none =>
   have : zAN G F (s + 1) = zAN G F s := by
    show (match F[s]? with | some r => if r.k = 2 ∧ 0 < (wK G F r.m s).1 then _ else zAN G F s | none => zAN G F s) = _
    rw [e]
   rw [this]; omega
  | some r =>
   rw [yGP G e]
   split
   ·simp; omega
   ·omega
end
end Go.Proofs.Ytffgfojabcbegaa
