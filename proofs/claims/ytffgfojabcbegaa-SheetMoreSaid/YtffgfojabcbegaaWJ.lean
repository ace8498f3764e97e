
import Derived.Test.YtffgfojabcbegaaWG
namespace Go.Proofs.Ytffgfojabcbegaa
open Go Go.Lay
open Try renaming prog → Pg
set_option linter.unusedVariables false
set_option linter.unusedSimpArgs false
set_option maxRecDepth 20000
theorem yUY : AppT Pg 64 64 3 1 := zMI (by kernel_rfl)
theorem elOk_num (x : Int) : zMM Pg 3 1 (yD x) := .inl ⟨zN, rfl, rfl⟩
theorem zIX {ox oy : Operand} {t : TypeId} {a b : Int} (h : b ≠ 0) : xL Pg .rem t ox oy (iV a) (iV b) = some (iV (a.tmod b)) := by
 simp [xL, zFL, yCU, h]
abbrev wordV (x : Int) : Value := .int .u16 x
abbrev yDO (σ : St) (p : Option Addr) (l : Nat) (xs : List Int) : Prop := SlV Pg σ 62 1 p l (xs.map wordV)
def zX (ws : List Int) (i : Nat) : Int := if ws.length = 0 then 0 else ws.getD (i % ws.length) 0
theorem zPE {ws : List Int} (hb : ∀ x ∈ ws, 0 ≤ x ∧ x ≤ 65535) (i : Nat) : 0 ≤ zX ws i ∧ zX ws i ≤ 65535 := by
 unfold zX
 split
 ·omega
 ·rename_i h
  have hlt : i % ws.length < ws.length := Nat.mod_lt _ (by omega)
  rw [List.getD_eq_getElem?_getD, List.getElem?_eq_getElem hlt]
  exact hb _ (List.getElem_mem hlt)
theorem yEB {L : List Rec} {rate : Int} {W : Nat → Int} {s : Nat} {x y : Rec} (h0 : s ≠ 0) (hx : L[s]? = some x) (hy : L[s - 1]? = some y) (hm : x.m = y.m) : zAH L rate W s = zAH L rate W (s - 1) + (x.t - y.t) * (1000 - rate + (W s).tmod (2 * rate + 1)) := by
 cases s with
 | zero => exact absurd rfl h0
 | succ s =>
  have hy : L[s]? = some y := hy
  show (if (L.getD (s + 1) default).m = (L.getD s default).m then _ else _) = _
  rw [yF hx, yF hy, if_pos hm]; rfl
theorem zOC {L : List Rec} {rate : Int} {W : Nat → Int} {s : Nat} {x : Rec} (hx : L[s]? = some x) (h : s = 0 ∨ ∃ y, L[s - 1]? = some y ∧ ¬ x.m = y.m) : zAH L rate W s = 1000 * (1000 + (W s).tmod 500) := by
 cases s with
 | zero => rfl
 | succ s =>
  rcases h with h | ⟨y, hy, hm⟩
  ·omega
  have hy : L[s]? = some y := hy
  show (if (L.getD (s + 1) default).m = (L.getD s default).m then _ else _) = _
  rw [yF hx, yF hy, if_neg hm]
def zKO (L : List Rec) (rate : Int) (W : Nat → Int) (s : Nat) : List Int := (List.range s).map (xO L rate W)
theorem minsL_s {L : List Rec} {rate : Int} {W : Nat → Int} {s : Nat} : zKO L rate W (s + 1) = zKO L rate W s ++ [xO L rate W s] := by simp [zKO, List.range_succ]
theorem yTD {L : List Rec} {rate : Int} {W : Nat → Int} {s i : Nat} (h : i < s) : (zKO L rate W s)[i]? = some (xO L rate W i) := by simp [zKO, h]
section
variable {σ : St}
def TrInv (σ : St) (L : List Rec) (rate : Int) (Wd : Nat → Int) (q1 : Option Addr) (c1 : Nat) (k : Nat) (p10 : Option Addr) (l10 c10 : Nat) (i11 i12 : Int) (τ : St) : Prop := ∃ s : Nat, i12 = s ∧ s + k = L.length ∧ s = l10 ∧ (s ≠ 0 → i11 = zAH L rate Wd (s - 1)) ∧ (∀ j, j < s → xO L rate Wd j ≤ 1000000) ∧ New σ.re τ ∧ Gr Pg τ σ.next 59 6 q1 L.length c1 ((zNJ (zEG L rate Wd) L s).map yH) ∧ Gr Pg τ σ.next 3 1 p10 s c10 ((zKO L rate Wd s).map yD) ∧ ∀ b, AtP q1 b → ¬ AtP p10 b
def TrBad (σ : St) (L : List Rec) (rate : Int) (Wd : Nat → Int) (τ : St) : Prop := New σ.re τ ∧ ∃ i, i < L.length ∧ 1000000 < xO L rate Wd i
theorem True_run {p pw : Option Addr} {l c lw cw : Nat} {rate : Int} {ws : List Int} {xs : List Rec} (h : yZ σ 59 p l xs) (hl : l ≤ 1000) (hc : vD xs) (hw : yDO σ pw lw ws) (hb : ∀ x ∈ ws, 0 ≤ x ∧ x ≤ 65535) (r0 : 0 ≤ rate) (r1 : rate ≤ 1000) (hm : ∀ x ∈ xs, Mt x) :
  zK Pg 28 [.slice p l c, yD rate, .slice pw lw cw] σ.re fun v τ => New σ.re τ ∧ (((∃ i, i < (xM xs).length ∧ 1000000 < xO (xM xs) rate (zX ws) i) ∧ v = .tuple ⟨[.slice none 0 0, .slice none 0 0, .bool false]⟩) ∨
   ((∀ i, i < (xM xs).length → xO (xM xs) rate (zX ws) i ≤ 1000000) ∧ ∃ p' c' q d, v = .tuple ⟨[.slice p' (xM xs).length c', .slice q (xM xs).length d, .bool true]⟩ ∧ yZ τ 59 p' (xM xs).length (vL (xM xs) rate (zX ws)) ∧ SlV Pg τ 3 1 q (xM xs).length ((zKO (xM xs) rate (zX ws) (xM xs).length).map yD))) := by
 have hlen := h.len
 have hwl : ws.length = lw := by have := hw.2.1; simpa using this
 obtain ⟨L, hL⟩ : ∃ L, L = xM xs := ⟨_, rfl⟩
 obtain ⟨q1, c1, σ2, k1, n1, g1⟩ := rLog_g (c := c) (SlV.le h (le0 σ)) (by omega) hc
 have hLl := zUJ (l := xs)
 have hs : Srt L := by rw [hL]; exact zOD hc
 have hcL : vD L := hc.mem fun x hx => by rw [hL] at hx; exact zFP.1 hx
 have hmL : ∀ x ∈ L, Mt x := fun x hx => hm x (by rw [hL] at hx; exact zFP.1 hx)
 have hW0 : ∀ i, 0 ≤ zX ws i := fun i => (zPE hb i).1
 rw [← hL] at k1 g1 hLl ⊢
 refine True__ra (Pr := fun p6 l6 c6 p7 l7 c7 t8 τ => TrBad σ L rate (zX ws) τ ∧ p6 = none ∧ l6 = 0 ∧ c6 = 0 ∧ p7 = none ∧ l7 = 0 ∧ c7 = 0 ∧ t8 = false) (P0 := fun p10 l10 c10 τ => New σ.re τ ∧ l10 = L.length ∧ (∀ i, i < L.length → xO L rate (zX ws) i ≤ 1000000) ∧ yZ τ 59 q1 L.length (vL L rate (zX ws)) ∧ SlV Pg τ 3 1 p10 L.length ((zKO L rate (zX ws) L.length).map yD)) k1
  (yIS (Inv := TrInv σ L rate (zX ws) q1 c1) ?_ L.length none 0 0 0 0 σ2 ⟨0, rfl, by omega, rfl, fun h => absurd rfl h, fun j h => by omega, n1, by rw [upTo_0]; exact g1, .nil, fun b _ h => (AtP.none h).elim⟩)
  (fun p6 l6 c6 p7 l7 c7 t8 τ ⟨hB, e1, e2, e3, e4, e5, e6, e7⟩ => by subst e1 e2 e3 e4 e5 e6 e7; exact yIQ ⟨hB.1, .inl ⟨hB.2, rfl⟩⟩)
  (fun p10 l10 c10 τ ⟨hN, e, hm, h1, h2⟩ => by subst e; exact yIR ⟨hN, .inr ⟨hm, q1, c1, p10, c10, rfl, h1, h2⟩⟩)
 rintro k p10 l10 c10 i11 i12 τ ⟨s, rfl, hk, rfl, ht, hle, hN, hg, hg2, hd⟩
 by_cases hsl : s < L.length
 rotate_left
 ·have : s = L.length := by omega
  subst this
  rw [yWM] at hg
  exact yUZ ⟨hN, rfl, hle, hg.slv, hg2.slv⟩ (by omega)
 obtain ⟨x, hx⟩ : ∃ x, L[s]? = some x := ⟨L[s]'hsl, by simp⟩
 have sl := hg.slv
 obtain ⟨a1, rfl, -⟩ := zAO (f := yH) sl hsl
 have hx' := yAN (f := zEG L rate (zX ws)) hx
 have hxL := List.mem_of_getElem? hx
 have mx := hmL x hxL
 unfold Mt at mx
 have tn : Int.toNat (s : Int) = s := by omega
 have ldx : ∀ {t' k : Nat} {v : Value}, (yI x)[k]? = some v → zCN Pg t' = some false → zC Pg τ t' (zG a1 (Int.toNat (s : Int) * 6 + k)) = some v := fun hk ht => uK sl (by rw [List.getElem?_map, hx']; rfl) hk ht
 have tail : ∀ T : Int, zAH L rate (zX ws) s = T → ∃ q d τ1, zU Pg 64 64 (.slice p10 s c10) (.slice (some ⟨τ.next, 0, none⟩) 1 1) (τ.row [yD (T.tdiv 1000)] 1) = some (.slice q (s + 1) d, τ1) ∧
   (1000000 < T.tdiv 1000 → TrBad σ L rate (zX ws) τ1 ∧ (none : Option Addr) = none ∧ 0 = 0 ∧ 0 = 0 ∧ (none : Option Addr) = none ∧ 0 = 0 ∧ 0 = 0 ∧ false = false) ∧ zC Pg τ1 5 (zG a1 (Int.toNat (s : Int) * 6 + 3)) = some (.int .u8 x.k) ∧
   (¬ 1000000 < T.tdiv 1000 → (x.k ≠ 1 → ∃ k', k' < k ∧ TrInv σ L rate (zX ws) (some a1) c1 k' q (s + 1) d T ((s : Int) + 1) τ1) ∧
    (x.k = 1 → ∃ τ2, zL Pg (evL [.pointer (some (zG a1 (Int.toNat (s : Int) * 6 + 4))), yD (T.tdiv 1000)]) τ1 (.store 3 (.tmp 0) (.tmp 1)) = some (undef, τ2) ∧ ∃ k', k' < k ∧ TrInv σ L rate (zX ws) (some a1) c1 k' q (s + 1) d T ((s : Int) + 1) τ2)) := by
  intro T hT
  have hmin : xO L rate (zX ws) s = T.tdiv 1000 := by unfold xO; rw [hT]
  obtain ⟨q, d, τ1, w1, w2, w3, w4⟩ := yQJ (yD (T.tdiv 1000)) yUY hg2 (Le.refl _) (elOk_num _) (by omega) hN.nx (e := rfl) (hc := rfl)
  have N1 : New σ.re τ1 := (hN.row').of_only w3 (fun b hb => (hg2.bd hb).1)
  have gg : Gr Pg τ1 σ.next 59 6 (some a1) L.length c1 ((zNJ (zEG L rate (zX ws)) L s).map yH) := (hg.le (Le.row _ _ _)).only w3 (fun b hb e => hd b hb e)
  have dd : ∀ b, AtP (some a1) b → ¬ AtP q b := fun b hb hq => by
   rcases w4 b hq with e | e
   ·exact hd b hb e
   ·have := (hg.bd hb).2; omega
  have g2 : Gr Pg τ1 σ.next 3 1 q (s + 1) d ((zKO L rate (zX ws) (s + 1)).map yD) := by rw [minsL_s, List.map_append, hmin]; exact w2
  refine ⟨q, d, τ1, w1, fun hbig => ⟨⟨N1, s, hsl, by rw [hmin]; exact hbig⟩, rfl, rfl, rfl, rfl, rfl, rfl, rfl⟩, uK gg.slv (by rw [List.getElem?_map, hx']; rfl) rfl zEO, fun hsm => ⟨fun h1 => ?_, fun h1 => ?_⟩⟩
  ·refine ⟨k - 1, by omega, s + 1, by omega, by omega, rfl, fun _ => hT.symm, fun j hj => ?_, N1, ?_, g2, dd⟩
   ·by_cases e : j = s
    ·rw [e, hmin]; omega
    ·exact hle j (by omega)
   ·rw [upTo_id hx (by unfold zEG; rw [if_neg h1])]; exact gg
  ·obtain ⟨a2, τ2, e1, u1, gg1, o1, nn1⟩ := gr_fst gg (i := s) (k := 4) (t := 3) (v := yD (T.tdiv 1000)) { x with a := T.tdiv 1000 } hx' (by omega) rfl rfl rfl yOQ
   cases e1
   rw [tn]
   refine ⟨τ2, u1, k - 1, by omega, s + 1, by omega, by omega, rfl, fun _ => hT.symm, fun j hj => ?_, N1.of_only o1 (fun b hb => (gg.bd hb).1), ?_, g2.only o1 (fun b hb e => dd b e hb), dd⟩
   ·by_cases e : j = s
    ·rw [e, hmin]; omega
    ·exact hle j (by omega)
   ·rw [yWK hx, show zEG L rate (zX ws) s x = { x with a := T.tdiv 1000 } from by unfold zEG; rw [if_pos h1, hmin]]
    exact gg1
 have ge := zGF hs hcL r0 r1 hW0 s hsl
 have wb := zPE hb s
 obtain ⟨w, hwd⟩ : ∃ w, w = zX ws s := ⟨_, rfl⟩
 have hrec : yZ τ 59 (some a1) L.length (zNJ (zEG L rate (zX ws)) L s) := sl
 have m5a := Int.tmod_nonneg 500 (show 0 ≤ w by omega)
 have m5b := Int.tmod_lt_of_pos w (show (0 : Int) < 500 by omega)
 have m2a := Int.tmod_nonneg (2 * rate + 1) (show 0 ≤ w by omega)
 have m2b := Int.tmod_lt_of_pos w (show 0 < 2 * rate + 1 by omega)
 have hw1 : yDO τ pw lw ws := (SlV.le hw (le0 σ)).le hN.le
 rw [← hwd] at wb
 by_cases hlw : 0 < lw
 ·have hmod : s % lw < lw := Nat.mod_lt _ hlw
  obtain ⟨aw, rfl, w', hw', ldw⟩ := zAO (f := wordV) hw1 hmod
  have ew : w = w' := by rw [hwd]; unfold zX; rw [if_neg (by omega), hwl, List.getD_eq_getElem?_getD, hw']; rfl
  subst ew
  have eT : (s : Int).tmod (lw : Int) = ((s % lw : Nat) : Int) := by rw [Int.tmod_eq_emod_of_nonneg (by omega)]; omega
  have rm1 : xL Pg .rem 3 (.tmp 26) (.tmp 28) (yD (s : Int)) (yD (lw : Int)) = some (yD ((s % lw : Nat) : Int)) := by rw [zIX (by omega), eT]
  by_cases hs0 : s = 0
  ·have hT : zAH L rate (zX ws) s = 1000 * (1000 + w.tmod 500) := (zOC hx (.inl hs0)).trans (by rw [← hwd])
   rw [hT] at ge
   have T1 : (1000 * (1000 + w.tmod 500)).tdiv 1000 = (1000 * (1000 + w.tmod 500)) / 1000 := Int.tdiv_eq_ediv_of_nonneg (by omega)
   have wr := zQD (n := (1000 * (1000 + w.tmod 500)).tdiv 1000) (by rw [T1]; omega) (by rw [T1]; omega)
   obtain ⟨q, d, τ1, ap, bad, lk, go⟩ := tail (1000 * (1000 + w.tmod 500)) hT
   clear tail ht hle
   by_cases hbig : 1000000 < (1000 * (1000 + w.tmod 500)).tdiv 1000
   ·have nx := bad hbig
    clear bad go
    exact yVR rm1 ldw wr ap nx
   ·obtain ⟨go1, go2⟩ := go hbig
    by_cases hk1 : x.k = 1
    ·obtain ⟨τ2, st, nx⟩ := go2 hk1
     clear bad go go1 go2
     exact yVQ rm1 ldw wr ap lk st nx
    ·have nx := go1 hk1
     clear bad go go1 go2
     exact yVP rm1 ldw wr ap lk nx
  ·have hp : L[s - 1]? = some (L[s - 1]'(by omega)) := by simp
   generalize L[s - 1]'(by omega) = y at hp
   have hyL := List.mem_of_getElem? hp
   have my := hmL y hyL
   unfold Mt at my
   have hy' := yDX (f := zEG L rate (zX ws)) (s := s) hp (by omega)
   have tn1 : Int.toNat ((s : Int) - 1) = s - 1 := by omega
   have ldy0 : zC Pg τ 3 (zG a1 (Int.toNat ((s : Int) - 1) * 6 + 0)) = some (yD y.m) := by
    have := uK (P := Pg) (t' := 3) (i := s - 1) (k := 0) (x := yD y.m) sl (by rw [List.getElem?_map, hy']; rfl) (by show some (yD (zEG L rate (zX ws) (s - 1) y).m) = _; rw [zDB.1]) zN
    rw [Int.toNat_natCast] at this
    rw [tn1]; exact this
   have ldy2 : zC Pg τ 3 (zG a1 (Int.toNat ((s : Int) - 1) * 6 + 2)) = some (yD y.t) := by
    have := uK (P := Pg) (t' := 3) (i := s - 1) (k := 2) (x := yD y.t) sl (by rw [List.getElem?_map, hy']; rfl) (by show some (yD (zEG L rate (zX ws) (s - 1) y).t) = _; rw [zDB.2.2.1]) zN
    rw [Int.toNat_natCast] at this
    rw [tn1]; exact this
   by_cases hm1 : x.m = y.m
   ·have hT : zAH L rate (zX ws) s = zAH L rate (zX ws) (s - 1) + (x.t - y.t) * (1000 - rate + w.tmod (2 * rate + 1)) := (yEB hs0 hx hp hm1).trans (by rw [← hwd])
    have i11e := ht hs0
    subst i11e
    have gb := zGF hs hcL r0 r1 hW0 (s - 1) (by omega)
    have lb := hle (s - 1) (by omega)
    unfold xO at lb
    rw [Int.tdiv_eq_ediv_of_nonneg (by omega)] at lb
    have ht2 := (zID hs hcL hp hx (by omega) hm1.symm).2
    have P1 := Int.mul_nonneg (show 0 ≤ x.t - y.t by omega) (show 0 ≤ 1000 - rate + w.tmod (2 * rate + 1) by omega)
    have P2 : (x.t - y.t) * (1000 - rate + w.tmod (2 * rate + 1)) ≤ (x.t - y.t) * 2000 := Int.mul_le_mul_of_nonneg_left (by omega) (by omega)
    rw [hT] at ge
    have T1 : (zAH L rate (zX ws) (s - 1) + (x.t - y.t) * (1000 - rate + w.tmod (2 * rate + 1))).tdiv 1000 = (zAH L rate (zX ws) (s - 1) + (x.t - y.t) * (1000 - rate + w.tmod (2 * rate + 1))) / 1000 := Int.tdiv_eq_ediv_of_nonneg (by omega)
    have wr := zQD (n := (zAH L rate (zX ws) (s - 1) + (x.t - y.t) * (1000 - rate + w.tmod (2 * rate + 1))).tdiv 1000) (by rw [T1]; omega) (by rw [T1]; omega)
    obtain ⟨q, d, τ1, ap, bad, lk, go⟩ := tail (zAH L rate (zX ws) (s - 1) + (x.t - y.t) * (1000 - rate + w.tmod (2 * rate + 1))) hT
    clear tail ht hle
    by_cases hbig : 1000000 < (zAH L rate (zX ws) (s - 1) + (x.t - y.t) * (1000 - rate + w.tmod (2 * rate + 1))).tdiv 1000
    ·have nx := bad hbig
     clear bad go
     exact yVL rm1 ldw (ldx rfl zN) ldy0 (ldx rfl zN) ldy2 (zIX (by omega)) wr ap nx
    ·obtain ⟨go1, go2⟩ := go hbig
     by_cases hk1 : x.k = 1
     ·obtain ⟨τ2, st, nx⟩ := go2 hk1
      clear bad go go1 go2
      exact yVK rm1 ldw (ldx rfl zN) ldy0 (ldx rfl zN) ldy2 (zIX (by omega)) wr ap lk st nx
     ·have nx := go1 hk1
      clear bad go go1 go2
      exact yVJ rm1 ldw (ldx rfl zN) ldy0 (ldx rfl zN) ldy2 (zIX (by omega)) wr ap lk nx
   ·have hT : zAH L rate (zX ws) s = 1000 * (1000 + w.tmod 500) := (zOC hx (.inr ⟨y, hp, hm1⟩)).trans (by rw [← hwd])
    rw [hT] at ge
    have T1 : (1000 * (1000 + w.tmod 500)).tdiv 1000 = (1000 * (1000 + w.tmod 500)) / 1000 := Int.tdiv_eq_ediv_of_nonneg (by omega)
    have wr := zQD (n := (1000 * (1000 + w.tmod 500)).tdiv 1000) (by rw [T1]; omega) (by rw [T1]; omega)
    obtain ⟨q, d, τ1, ap, bad, lk, go⟩ := tail (1000 * (1000 + w.tmod 500)) hT
    clear tail ht hle
    by_cases hbig : 1000000 < (1000 * (1000 + w.tmod 500)).tdiv 1000
    ·have nx := bad hbig
     clear bad go
     exact yVO rm1 ldw (ldx rfl zN) ldy0 wr ap nx
    ·obtain ⟨go1, go2⟩ := go hbig
     by_cases hk1 : x.k = 1
     ·obtain ⟨τ2, st, nx⟩ := go2 hk1
      clear bad go go1 go2
      exact yVN rm1 ldw (ldx rfl zN) ldy0 wr ap lk st nx
     ·have nx := go1 hk1
      clear bad go go1 go2
      exact yVM rm1 ldw (ldx rfl zN) ldy0 wr ap lk nx
 ·have w0 : w = 0 := by rw [hwd]; unfold zX; rw [if_pos (by omega)]
  by_cases hs0 : s = 0
  ·have hT : zAH L rate (zX ws) s = 1000 * (1000 + w.tmod 500) := (zOC hx (.inl hs0)).trans (by rw [← hwd])
   rw [hT] at ge
   have T1 : (1000 * (1000 + w.tmod 500)).tdiv 1000 = (1000 * (1000 + w.tmod 500)) / 1000 := Int.tdiv_eq_ediv_of_nonneg (by omega)
   have wr := zQD (n := (1000 * (1000 + w.tmod 500)).tdiv 1000) (by rw [T1]; omega) (by rw [T1]; omega)
   obtain ⟨q, d, τ1, ap, bad, lk, go⟩ := tail (1000 * (1000 + w.tmod 500)) hT
   clear tail ht hle
   subst w0
   by_cases hbig : 1000000 < (1000 * (1000 + (0 : Int).tmod 500)).tdiv 1000
   ·have nx := bad hbig
    clear bad go
    exact yVI wr ap nx
   ·obtain ⟨go1, go2⟩ := go hbig
    by_cases hk1 : x.k = 1
    ·obtain ⟨τ2, st, nx⟩ := go2 hk1
     clear bad go go1 go2
     exact yVH wr ap lk st nx
    ·have nx := go1 hk1
     clear bad go go1 go2
     exact yVG wr ap lk nx
  ·have hp : L[s - 1]? = some (L[s - 1]'(by omega)) := by simp
   generalize L[s - 1]'(by omega) = y at hp
   have hyL := List.mem_of_getElem? hp
   have my := hmL y hyL
   unfold Mt at my
   have hy' := yDX (f := zEG L rate (zX ws)) (s := s) hp (by omega)
   have tn1 : Int.toNat ((s : Int) - 1) = s - 1 := by omega
   have ldy0 : zC Pg τ 3 (zG a1 (Int.toNat ((s : Int) - 1) * 6 + 0)) = some (yD y.m) := by
    have := uK (P := Pg) (t' := 3) (i := s - 1) (k := 0) (x := yD y.m) sl (by rw [List.getElem?_map, hy']; rfl) (by show some (yD (zEG L rate (zX ws) (s - 1) y).m) = _; rw [zDB.1]) zN
    rw [Int.toNat_natCast] at this
    rw [tn1]; exact this
   have ldy2 : zC Pg τ 3 (zG a1 (Int.toNat ((s : Int) - 1) * 6 + 2)) = some (yD y.t) := by
    have := uK (P := Pg) (t' := 3) (i := s - 1) (k := 2) (x := yD y.t) sl (by rw [List.getElem?_map, hy']; rfl) (by show some (yD (zEG L rate (zX ws) (s - 1) y).t) = _; rw [zDB.2.2.1]) zN
    rw [Int.toNat_natCast] at this
    rw [tn1]; exact this
   by_cases hm1 : x.m = y.m
   ·have hT : zAH L rate (zX ws) s = zAH L rate (zX ws) (s - 1) + (x.t - y.t) * (1000 - rate + w.tmod (2 * rate + 1)) := (yEB hs0 hx hp hm1).trans (by rw [← hwd])
    have i11e := ht hs0
    subst i11e
    have gb := zGF hs hcL r0 r1 hW0 (s - 1) (by omega)
    have lb := hle (s - 1) (by omega)
    unfold xO at lb
    rw [Int.tdiv_eq_ediv_of_nonneg (by omega)] at lb
    have ht2 := (zID hs hcL hp hx (by omega) hm1.symm).2
    have P1 := Int.mul_nonneg (show 0 ≤ x.t - y.t by omega) (show 0 ≤ 1000 - rate + w.tmod (2 * rate + 1) by omega)
    have P2 : (x.t - y.t) * (1000 - rate + w.tmod (2 * rate + 1)) ≤ (x.t - y.t) * 2000 := Int.mul_le_mul_of_nonneg_left (by omega) (by omega)
    rw [hT] at ge
    have T1 : (zAH L rate (zX ws) (s - 1) + (x.t - y.t) * (1000 - rate + w.tmod (2 * rate + 1))).tdiv 1000 = (zAH L rate (zX ws) (s - 1) + (x.t - y.t) * (1000 - rate + w.tmod (2 * rate + 1))) / 1000 := Int.tdiv_eq_ediv_of_nonneg (by omega)
    have wr := zQD (n := (zAH L rate (zX ws) (s - 1) + (x.t - y.t) * (1000 - rate + w.tmod (2 * rate + 1))).tdiv 1000) (by rw [T1]; omega) (by rw [T1]; omega)
    obtain ⟨q, d, τ1, ap, bad, lk, go⟩ := tail (zAH L rate (zX ws) (s - 1) + (x.t - y.t) * (1000 - rate + w.tmod (2 * rate + 1))) hT
    clear tail ht hle
    subst w0
    by_cases hbig : 1000000 < (zAH L rate (zX ws) (s - 1) + (x.t - y.t) * (1000 - rate + (0 : Int).tmod (2 * rate + 1))).tdiv 1000
    ·have nx := bad hbig
     clear bad go
     exact yVC (ldx rfl zN) ldy0 (ldx rfl zN) ldy2 (zIX (by omega)) wr ap nx
    ·obtain ⟨go1, go2⟩ := go hbig
     by_cases hk1 : x.k = 1
     ·obtain ⟨τ2, st, nx⟩ := go2 hk1
      clear bad go go1 go2
      exact yVB (ldx rfl zN) ldy0 (ldx rfl zN) ldy2 (zIX (by omega)) wr ap lk st nx
     ·have nx := go1 hk1
      clear bad go go1 go2
      exact yVA (ldx rfl zN) ldy0 (ldx rfl zN) ldy2 (zIX (by omega)) wr ap lk nx
   ·have hT : zAH L rate (zX ws) s = 1000 * (1000 + w.tmod 500) := (zOC hx (.inr ⟨y, hp, hm1⟩)).trans (by rw [← hwd])
    rw [hT] at ge
    have T1 : (1000 * (1000 + w.tmod 500)).tdiv 1000 = (1000 * (1000 + w.tmod 500)) / 1000 := Int.tdiv_eq_ediv_of_nonneg (by omega)
    have wr := zQD (n := (1000 * (1000 + w.tmod 500)).tdiv 1000) (by rw [T1]; omega) (by rw [T1]; omega)
    obtain ⟨q, d, τ1, ap, bad, lk, go⟩ := tail (1000 * (1000 + w.tmod 500)) hT
    clear tail ht hle
    subst w0
    by_cases hbig : 1000000 < (1000 * (1000 + (0 : Int).tmod 500)).tdiv 1000
    ·have nx := bad hbig
     clear bad go
     exact yVF (ldx rfl zN) ldy0 wr ap nx
    ·obtain ⟨go1, go2⟩ := go hbig
     by_cases hk1 : x.k = 1
     ·obtain ⟨τ2, st, nx⟩ := go2 hk1
      clear bad go go1 go2
      exact yVE (ldx rfl zN) ldy0 wr ap lk st nx
     ·have nx := go1 hk1
      clear bad go go1 go2
      exact yVD (ldx rfl zN) ldy0 wr ap lk nx
end
end Go.Proofs.Ytffgfojabcbegaa
