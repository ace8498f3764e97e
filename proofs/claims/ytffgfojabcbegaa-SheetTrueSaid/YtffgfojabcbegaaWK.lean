
import Derived.Test.YtffgfojabcbegaaWJ
import Derived.Test.YtffgfojabcbegaaWI
import Derived.Test.YtffgfojabcbegaaXR
namespace Go.Proofs.Ytffgfojabcbegaa
open Go Go.Lay
open Try renaming prog → Pg
set_option linter.unusedVariables false
set_option linter.unusedSimpArgs false
set_option maxRecDepth 20000
section
variable {P : Program} {σ : St}
end
theorem rate_bd {rate : Int} (h : 0 ≤ rate) : 0 ≤ rate.tmod 1001 ∧ rate.tmod 1001 ≤ 1000 := by
 have h1 := Int.tmod_nonneg 1001 h
 have h2 := Int.tmod_lt_of_pos rate (show (0 : Int) < 1001 by omega)
 omega
theorem minOf_ge {L : List Rec} {rate : Int} {W : Nat → Int} (hs : Srt L) (hc : vJ L) (r0 : 0 ≤ rate) (r1 : rate ≤ 1000) (hW : ∀ i, 0 ≤ W i) {i : Nat} (hi : i < L.length) : 0 ≤ wN L rate W i := by
 have := zFR hs hc r0 r1 hW i hi
 unfold wN; rw [Int.tdiv_eq_ediv_of_nonneg (by omega)]; omega
theorem right_sync {x : Rec} {m : Int} (h : zZ x = true) (h0 : 0 ≤ m) (h1 : m ≤ 1000000) : zZ { x with k := 1, a := m, b := 0 } = true := by
 have e : zZ { x with k := 1, a := m, b := 0 } = (inB x.m 0 999 && inB x.s 1 9999 && inB x.t 0 1000000 && (inB m 0 1000000 && true)) := rfl
 rw [e]
 unfold zZ at h
 simp only [Bool.and_eq_true, zIN] at h ⊢
 exact ⟨h.1, ⟨h0, h1⟩, trivial⟩
theorem sync_b {x : Rec} (h : zZ x = true) (hk : x.k = 1) : x.b = 0 := by
 unfold zZ at h
 rw [if_neg (by omega), if_pos hk] at h
 simp only [Bool.and_eq_true, decide_eq_true_eq] at h
 exact h.2.2
theorem trueL_right {L : List Rec} {rate : Int} {W : Nat → Int} (hs : Srt L) (hc : vJ L) (r0 : 0 ≤ rate) (r1 : rate ≤ 1000) (hW : ∀ i, 0 ≤ W i) (hr : ∀ x ∈ L, zZ x = true) (hle : ∀ i, i < L.length → wN L rate W i ≤ 1000000) : ∀ x ∈ zAF L rate W, zZ x = true := by
 intro x hx
 obtain ⟨i, r, e1, rfl⟩ := trueL_mem hx
 have hi := (List.getElem?_eq_some_iff.1 e1).1
 have hrr := hr r (List.mem_of_getElem? e1)
 unfold zDU
 split
 ·rename_i hk
  have h := right_sync hrr (minOf_ge hs hc r0 r1 hW hi) (hle i hi)
  have hb := sync_b hrr hk
  have e : ({ r with a := wN L rate W i } : Rec) = { r with k := 1, a := wN L rate W i, b := 0 } := by rw [← hk, ← hb]
  rw [e]; exact h
 ·exact hrr
theorem trueL_tells {L : List Rec} {rate : Int} {W : Nat → Int} : Tells L (zAF L rate W) (wN L rate W) := fun i x' hx => by
 obtain ⟨r, e1, rfl⟩ := trueL_of hx
 refine ⟨r, e1, zCO.1, zCO.2.1, zCO.2.2.1, fun hk => ?_⟩
 rw [zCO.2.2.2.1] at hk
 unfold zDU; rw [if_pos hk]
theorem okW_of {w : Int × Int} {v : Int} (h : w.1 ≤ v ∧ v ≤ w.2) : okW w = true := okW_iff.2 (by omega)
section
variable {σ : St}
theorem spans_of {p : Option Addr} {l c : Nat} {M : List Rec} {k : Int} (h : yZ σ 59 p l M) (hl : l ≤ 60) (hr : ∀ x ∈ M, zZ x = true) (hs : Srt M) (hc : vJ M) (r0 : 0 ≤ k) (r1 : k ≤ 1000) : ∃ p1 c1 σ1, zD Pg 14 [.slice p l c] σ (.slice p1 l c1) σ1 ∧ New σ σ1 ∧
    ((M.all (fun r => okW (xI M k r)) = false ∧ zD Pg 23 [.slice p1 l c1, yD k] σ1 (.tuple ⟨[.slice none 0 0, iV 9]⟩) σ1) ∨
     (M.all (fun r => okW (xI M k r)) = true ∧ ∃ q d σ2, zD Pg 23 [.slice p1 l c1, yD k] σ1 (.tuple ⟨[.slice q M.length d, iV 0]⟩) σ2 ∧ New σ1 σ2 ∧ SlV Pg σ2 52 2 q M.length ((M.map (xI M k)).map spV))) := by
  have hlen := h.len
  obtain ⟨p1, c1, σ1, k1, n1, r1', _⟩ := Records_c (c := c) h (by omega)
  refine ⟨p1, c1, σ1, k1, n1, ?_⟩
  have hz : zBK M k = if M.all (fun r => okW (xI M k r)) then 0 else 9 := by
    unfold zBK
    rw [if_pos (fault_of (by omega) hr), if_pos (zEN.2 hc), if_pos (zIN.2 ⟨r0, r1⟩), log_self hs hc]
    unfold zAU
    cases M.all (fun r => okW (xI M k r)) <;> rfl
  rcases Spans_c (c := c1) (rate := k) r1' (by omega) (byte_right hr) with ⟨e, k2⟩ | ⟨e, _, _, _, _, o, q, d, σ2, ho, k2, n2, s2⟩
  · left
    cases ha : M.all (fun r => okW (xI M k r)) with
    | true => rw [ha] at hz; exact absurd hz e
    | false =>
      rw [ha] at hz
      have hz : zBK M k = 9 := hz
      rw [hz] at k2
      exact ⟨rfl, k2⟩
  · right
    cases ha : M.all (fun r => okW (xI M k r)) with
    | false => rw [ha] at hz; rw [e] at hz; cases hz
    | true =>
      rw [log_self hs hc] at ho
      unfold zAU at ho
      rw [if_pos ha] at ho
      cases ho
      rw [List.length_map] at k2 s2
      exact ⟨rfl, q, d, σ2, k2, n2, s2⟩
theorem True_c {p pw : Option Addr} {l c lw cw : Nat} {rate : Int} {ws : List Int} {xs : List Rec} (h : yZ σ 59 p l xs) (hl : l ≤ 1000) (hc : vJ xs) (hw : WordsP σ pw lw ws) (hb : ∀ x ∈ ws, 0 ≤ x ∧ x ≤ 65535) (r0 : 0 ≤ rate) (r1 : rate ≤ 1000) (hm : ∀ x ∈ xs, Mt x) :
  zD Pg 28 [.slice p l c, yD rate, .slice pw lw cw] σ (.tuple ⟨[.slice none 0 0, .slice none 0 0, .bool false]⟩) σ ∨
  ((∀ i, i < (xJ xs).length → wN (xJ xs) rate (zW ws) i ≤ 1000000) ∧ ∃ p' c' q d σ', zD Pg 28 [.slice p l c, yD rate, .slice pw lw cw] σ (.tuple ⟨[.slice p' (xJ xs).length c', .slice q (xJ xs).length d, .bool true]⟩) σ' ∧ New σ σ' ∧ yZ σ' 59 p' (xJ xs).length (zAF (xJ xs) rate (zW ws)) ∧ SlV Pg σ' 3 1 q (xJ xs).length ((zJW (xJ xs) rate (zW ws) (xJ xs).length).map yD)) := by
 obtain ⟨v, τ, hN, hNew, ⟨_, rfl⟩ | ⟨hle, p', c', q, d, rfl, h1, h2⟩⟩ := True_run (c := c) (cw := cw) h hl hc hw hb r0 r1 hm
 ·exact .inl (zJ.pure ⟨_, τ, hN, rfl, hNew.lw⟩)
 ·right
  obtain ⟨v, σ', g1, g2, p', c', q, d, rfl, g3, g4⟩ := zJ.new (P := Pg) (f := 28) (args := [.slice p l c, yD rate, .slice pw lw cw]) (σ := σ) (Q := fun v s => ∃ p' c' q d, v = .tuple ⟨[.slice p' (xJ xs).length c', .slice q (xJ xs).length d, .bool true]⟩ ∧ yZ s 59 p' (xJ xs).length (zAF (xJ xs) rate (zW ws)) ∧ SlV Pg s 3 1 q (xJ xs).length ((zJW (xJ xs) rate (zW ws) (xJ xs).length).map yD)) ⟨_, τ, hN, hNew, p', c', q, d, rfl, h1, h2⟩ (by rintro v s s' ⟨p, c, q, d, rfl, a, b⟩ hle; exact ⟨p, c, q, d, rfl, SlV.le a hle, SlV.le b hle⟩) (by
   rintro v s hr ⟨p, c, q, d, rfl, a, b⟩
   refine ⟨p, c, q, d, rfl, ?_⟩
   cases p with
   | some a => exact Bool.noConfusion (show false = true from hr)
   | none =>
    cases q with
    | some a => exact Bool.noConfusion (show false = true from hr)
    | none => exact ⟨zGN a, zGN b⟩)
  exact ⟨hle, p', c', q, d, σ', g1, g2, g3, g4⟩
theorem ready_ok {p : Option Addr} {l c : Nat} {xs : List Rec} (h : yZ σ 59 p l xs) : zD Pg 26 [.slice p l c] σ (.bool false) σ ∨ (zD Pg 26 [.slice p l c] σ (.bool true) σ ∧ l ≤ 60 ∧ vJ xs ∧ ∀ x ∈ xs, zZ x = true) := by
 have k1 := ready_c (c := c) h
 by_cases hrd : l ≤ 60 ∧ zDY [xs] = 0
 rotate_left
 ·have e : (decide (l ≤ 60) && decide (zDY [xs] = 0)) = false := by
   cases e : (decide (l ≤ 60) && decide (zDY [xs] = 0)) with
   | false => rfl
   | true => simp at e; exact absurd e hrd
  rw [e] at k1
  exact .inl k1
 obtain ⟨h60, hcz⟩ := hrd
 rw [decide_eq_true h60, decide_eq_true hcz] at k1
 obtain ⟨hf, hcb⟩ := codeZ_0 hcz
 exact .inr ⟨k1, h60, zEN.1 hcb, (faultZ_right hf).2⟩
theorem lTrue_top {p pw : Option Addr} {l c lw cw : Nat} {rate : Int} {ws : List Int} {xs : List Rec} (h : yZ σ 59 p l xs) (hb : ∀ x ∈ xs, Byte x) (hrt : 0 ≤ rate ∧ rate ≤ 65535) (hw : WordsP σ pw lw ws ∧ ∀ x ∈ ws, 0 ≤ x ∧ x ≤ 65535) : TopQ Pg 12 7 [.slice p l c, .int .u16 rate, .slice pw lw cw] σ fun v _ => v = .bool true := by
 have hlen := h.len
 rcases ready_ok (c := c) h with k1 | ⟨k1, h60, hc, hright⟩
 ·exact lTrue_re k1 rfl
 obtain ⟨r0, r1⟩ := rate_bd hrt.1
 obtain ⟨k, hk⟩ : ∃ k, k = rate.tmod 1001 := ⟨_, rfl⟩
 rw [← hk] at r0 r1
 have hW0 : ∀ i, 0 ≤ zW ws i := fun i => (wordAt_bd hw.2 i).1
 rcases True_c (c := c) (cw := cw) (rate := k) h (by omega) hc hw.1 hw.2 r0 r1 (fun x hx => mt_right (hright x hx)) with k2 | ⟨hle, p3, c3, q3, d3, σ5, k2, n5, r5, m5⟩
 ·rw [hk] at k2
  exact lTrue_rd k1 k2 rfl
 obtain ⟨L, hL⟩ : ∃ L, L = xJ xs := ⟨_, rfl⟩
 have hLl := logL_len (l := xs)
 rw [← hL] at hle k2 r5 m5 hLl
 have hrL : ∀ x ∈ L, zZ x = true := fun x hx => hright x (by rw [hL] at hx; exact zFA.1 hx)
 have hsL : Srt L := by rw [hL]; exact srt_logL hc
 have hcL : vJ L := hc.mem fun x hx => by rw [hL] at hx; exact zFA.1 hx
 have hM : ∀ x ∈ zAF L k (zW ws), zZ x = true := trueL_right hsL hcL r0 r1 hW0 hrL hle
 have tl := trueL_len (L := L) (rate := k) (W := zW ws)
 have inn : ∀ i x, (zAF L k (zW ws))[i]? = some x → (xI (zAF L k (zW ws)) k x).1 ≤ wN L k (zW ws) i ∧ wN L k (zW ws) i ≤ (xI (zAF L k (zW ws)) k x).2 := fun i x hx => tells_in hsL hcL r0 r1 hW0 trueL_tells hx (hle i (by have := (List.getElem?_eq_some_iff.1 hx).1; omega))
 obtain ⟨p6, c6, σ7, k3, n7, hsp⟩ := spans_of (c := c3) r5 (by omega) hM (trueL_srt hsL) (trueL_cons hsL hcL) r0 r1
 have hall : (zAF L k (zW ws)).all (fun r => okW (xI (zAF L k (zW ws)) k r)) = true := List.all_eq_true.2 fun x hx => by
  obtain ⟨i, hi, rfl⟩ := List.mem_iff_getElem.1 hx
  exact okW_of (inn i _ (List.getElem?_eq_getElem hi))
 rcases hsp with ⟨e, _⟩ | ⟨_, q8, d8, σ10, k4, n10, s10⟩
 ·rw [hall] at e; cases e
 rw [tl] at k4 s10
 have m10 := (SlV.le m5 n7.le).le n10.le
 rw [hk] at k2 k4
 refine lTrue_rc (Pr := fun _ _ => False) (P0 := fun τ => τ = σ10) k1 k2 k3 k4 (lTrue_loop1 (Inv := fun n i τ => ∃ s : Nat, i = s ∧ s + n = L.length ∧ τ = σ10) ?_ L.length 0 σ10 ⟨0, rfl, by omega, rfl⟩) (fun t τ h => h.elim) (fun τ e => by subst e; exact lTrue_t1x0a rfl) (by omega) rfl
 rintro n i τ ⟨s, rfl, hn, rfl⟩
 by_cases hsl : s < L.length
 rotate_left
 ·exact lTrue_s1d rfl (by omega)
 obtain ⟨a, rfl, y, hy, ldm⟩ := zBZ (f := yD) m10 hsl
 rw [minsL_get hsl] at hy; cases hy
 obtain ⟨b, rfl, -⟩ := zBZ (f := spV) s10 hsl
 have hx : (zAF L k (zW ws))[s]? = some ((zAF L k (zW ws))[s]'(by omega)) := by simp
 generalize (zAF L k (zW ws))[s]'(by omega) = x at hx
 have f1 := fun j v h => zBY (t' := 3) (i := s) (k := j) (x := v) s10 (by rw [List.getElem?_map, List.getElem?_map, hx]; rfl) h zN
 obtain ⟨i1, i2⟩ := inn s x hx
 have nx : ∃ k', k' < n ∧ ∃ s_1 : Nat, (s : Int) + 1 = s_1 ∧ s_1 + k' = L.length ∧ τ = τ := ⟨n - 1, by omega, s + 1, by omega, by omega, rfl⟩
 exact lTrue_s1c ldm (f1 0 _ rfl) (f1 1 _ rfl) nx (by omega) ⟨by omega, by omega⟩ ⟨by omega, by omega⟩ (by omega) (by omega)
end
end Go.Proofs.Ytffgfojabcbegaa
