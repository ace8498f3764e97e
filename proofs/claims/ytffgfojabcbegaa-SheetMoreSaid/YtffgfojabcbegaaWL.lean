
import Derived.Test.YtffgfojabcbegaaWK
import Derived.Test.YtffgfojabcbegaaWM
namespace Go.Proofs.Ytffgfojabcbegaa
open Go Go.Lay
open Try renaming prog → Pg
set_option linter.unusedVariables false
set_option linter.unusedSimpArgs false
set_option maxRecDepth 20000
theorem yWC {k : Int} {r r' s : Rec} (h1 : r'.s = r.s) (h2 : r'.t = r.t) (h3 : s = r' ↔ s = r) : xN k r' s = xN k r s := by
 unfold xN
 rw [h1, h2]
 by_cases e : s = r
 ·rw [if_pos e, if_pos (h3.2 e)]
 ·rw [if_neg e, if_neg (fun h => e (h3.1 h))]
def zBX (m : Int) (x : Rec) : Rec := { x with k := 1, a := m, b := 0 }
section
variable {L : List Rec} {rate : Int} {W : Nat → Int}
theorem zUH {M : List Rec} {w : Nat} {xw : Rec} {m : Int} {i : Nat} {x' : Rec} (hw : M[w]? = some xw) (h : (M.set w (zBX m xw))[i]? = some x') : ∃ x, M[i]? = some x ∧ ((i = w ∧ x = xw ∧ x' = zBX m xw) ∨ (i ≠ w ∧ x' = x)) := by
 rw [List.getElem?_set] at h
 by_cases e : w = i
 ·subst e
  rw [if_pos rfl, if_pos (List.getElem?_eq_some_iff.1 hw).1] at h
  cases h
  exact ⟨xw, hw, .inl ⟨rfl, rfl, rfl⟩⟩
 ·rw [if_neg e] at h
  exact ⟨x', h, .inr ⟨fun h => e h.symm, rfl⟩⟩
theorem yLX {w : Nat} {xw : Rec} (hw : (vL L rate W)[w]? = some xw) : yQP L ((vL L rate W).set w (zBX (xO L rate W w) xw)) (xO L rate W) := fun i x' hx => by
 obtain ⟨x, h1, ⟨rfl, rfl, rfl⟩ | ⟨hne, rfl⟩⟩ := zUH hw hx
 ·obtain ⟨y, e1, e2, e3, e4, e5⟩ := zGE i x h1
  exact ⟨y, e1, e2, e3, e4, fun _ => rfl⟩
 ·exact zGE i x' h1
theorem yGA {w : Nat} {xw : Rec} (hw : (vL L rate W)[w]? = some xw) (hs : Srt L) (hc : vD L) (hr : ∀ x ∈ vL L rate W, yA x = true) {i : Nat} {x x' : Rec} (hx : (vL L rate W)[i]? = some x) (hx' : ((vL L rate W).set w (zBX (xO L rate W w) xw))[i]? = some x') (k : Int) :
  (yB (vL L rate W) k x).1 ≤ (yB ((vL L rate W).set w (zBX (xO L rate W w) xw)) k x').1 ∧ (yB ((vL L rate W).set w (zBX (xO L rate W w) xw)) k x').2 ≤ (yB (vL L rate W) k x).2 := by
 have hcM := zSS (rate := rate) (W := W) hs hc
 have same : ∀ (j : Nat) y, (vL L rate W)[j]? = some y → y.k = 1 → ((vL L rate W).set w (zBX (xO L rate W w) xw))[j]? = some y := fun j y hy hk => by
  rw [List.getElem?_set]
  by_cases e : w = j
  ·subst e
   rw [hw] at hy; cases hy
   rw [if_pos rfl, if_pos (List.getElem?_eq_some_iff.1 hw).1]
   have ha : xw.a = xO L rate W w := (zGE w xw hw).choose_spec.2.2.2.2 hk
   have hb := yWO (hr xw (List.mem_of_getElem? hw)) hk
   unfold zBX
   rw [← hk, ← ha, ← hb]
  ·rw [if_neg e]; exact hy
 obtain ⟨y, hy, hcase⟩ := zUH hw hx'
 rw [hx] at hy; cases hy
 have fld : x'.m = x.m ∧ x'.s = x.s ∧ x'.t = x.t := by
  rcases hcase with ⟨_, rfl, rfl⟩ | ⟨_, rfl⟩ <;> exact ⟨rfl, rfl, rfl⟩
 refine zXP fun s hS hm hk => ?_
 obtain ⟨j, hj, rfl⟩ := List.mem_iff_getElem.1 hS
 have hj' : (vL L rate W)[j]? = some (vL L rate W)[j] := List.getElem?_eq_getElem hj
 generalize (vL L rate W)[j] = s at *
 have hs' := same j s hj' hk
 refine ⟨s, List.mem_of_getElem? hs', by rw [fld.1]; exact hm, hk, ?_⟩
 have e : xN k x' s = xN k x s := yWC fld.2.1 fld.2.2 (by
  by_cases hk1 : x.k = 1
  ·have := same i x hx hk1
   rw [hx'] at this; cases this; exact Iff.rfl
  ·constructor
   ·intro e
    have hkey : s = x := hcM.key hS (List.mem_of_getElem? hx) ⟨hm, by rw [e]; exact fld.2.1⟩
    exact hkey
   ·intro e; rw [e] at hk; exact absurd hk hk1)
 rw [e]; exact ⟨Int.le_refl _, Int.le_refl _⟩
end
section
variable {σ : St}
theorem yTJ {p pw : Option Addr} {l c lw cw : Nat} {rate less which : Int} {ws : List Int} {xs : List Rec} (h : yZ σ 59 p l xs) (hb : ∀ x ∈ xs, zXL x) (hrt : 0 ≤ rate ∧ rate ≤ 65535) (hls : 0 ≤ less ∧ less ≤ 65535) (hw : yDO σ pw lw ws ∧ ∀ x ∈ ws, 0 ≤ x ∧ x ≤ 65535) (hwh : 0 ≤ which ∧ which ≤ 255) : zXI Pg 12 8 [.slice p l c, .int .u16 rate, .int .u16 less, .slice pw lw cw, .int .u8 which] σ fun v _ => v = .bool true := by
 have hlen := h.len
 rcases yWZ (c := c) h with k1 | ⟨k1, h60, hc, hright⟩
 ·exact yZF k1 rfl
 obtain ⟨r0, r1⟩ := rate_bd hrt.1
 obtain ⟨k, hk⟩ : ∃ k, k = rate.tmod 1001 := ⟨_, rfl⟩
 rw [← hk] at r0 r1
 have hW0 : ∀ i, 0 ≤ zX ws i := fun i => (zPE hw.2 i).1
 have rm1 : xL Pg .rem 3 (.tmp 39) (.tmp 41) (yD less) (yD (k + 1)) = some (yD (less.tmod (k + 1))) := zIX (by omega)
 have lm1 := Int.tmod_nonneg (k + 1) hls.1
 have lm2 := Int.tmod_lt_of_pos less (show 0 < k + 1 by omega)
 obtain ⟨m, hm⟩ : ∃ m, m = k - less.tmod (k + 1) := ⟨_, rfl⟩
 have m0 : 0 ≤ m := by omega
 have mk : m ≤ k := by omega
 rcases True_c (c := c) (cw := cw) (rate := k) h (by omega) hc hw.1 hw.2 r0 r1 (fun x hx => yFZ (hright x hx)) with k2 | ⟨hle, p3, c3, q4, d4, σ6, k2, n6, r6, m6⟩
 ·rw [hk] at k2 rm1 lm1 lm2
  exact yZG k1 rm1 k2 rfl
 obtain ⟨L, hL⟩ : ∃ L, L = xM xs := ⟨_, rfl⟩
 have hLl := zUJ (l := xs)
 rw [← hL] at hle k2 r6 m6 hLl
 have hrL : ∀ x ∈ L, yA x = true := fun x hx => hright x (by rw [hL] at hx; exact zFP.1 hx)
 have hsL : Srt L := by rw [hL]; exact zOD hc
 have hcL : vD L := hc.mem fun x hx => by rw [hL] at hx; exact zFP.1 hx
 have hM : ∀ x ∈ vL L k (zX ws), yA x = true := yDZ hsL hcL r0 r1 hW0 hrL hle
 have tl := yQV (L := L) (rate := k) (W := zX ws)
 have hsM := yQT (rate := k) (W := zX ws) hsL
 have hcM := zSS (rate := k) (W := zX ws) hsL hcL
 by_cases hL0 : L.length = 0
 ·rw [hk] at k2 rm1 lm1 lm2
  exact yZJ k1 rm1 k2 rfl (by omega) (by omega) (by omega) (by omega)
 obtain ⟨M, hMe⟩ : ∃ M, M = vL L k (zX ws) := ⟨_, rfl⟩
 have inn : ∀ i x, M[i]? = some x → (yB M k x).1 ≤ xO L k (zX ws) i ∧ xO L k (zX ws) i ≤ (yB M k x).2 := fun i x hx => by
  rw [hMe] at hx ⊢
  exact yEC hsL hcL r0 r1 hW0 zGE hx (hle i (by have := (List.getElem?_eq_some_iff.1 hx).1; omega))
 rw [← hMe] at r6 hM tl hsM hcM
 obtain ⟨p7, c7, σ8, k3, n8, hsp⟩ := zOE (c := c3) r6 (by omega) hM hsM hcM r0 r1
 have hall : M.all (fun r => okW (yB M k r)) = true := List.all_eq_true.2 fun x hx => by
  obtain ⟨i, hi, rfl⟩ := List.mem_iff_getElem.1 hx
  exact yYS (inn i _ (List.getElem?_eq_getElem hi))
 rcases hsp with ⟨e, _⟩ | ⟨_, q9, d9, σ11, k4, n11, s11⟩
 ·rw [hall] at e; cases e
 have N11 := n8.le.trans n11.le
 obtain ⟨p12, c12, σ13, k5, n13, htp⟩ := zOE (c := c3) (SlV.le r6 N11) (by omega) hM hsM hcM m0 (by omega)
 obtain ⟨q14, l14, d14, n15, σ16, k6, n16, ht⟩ : ∃ q14 l14 d14 n15 σ16, zD Pg 23 [.slice p12 L.length c12, yD m] σ13 (.tuple ⟨[.slice q14 l14 d14, yD n15]⟩) σ16 ∧ New σ13 σ16 ∧ ((n15 = 9) ∨ (n15 = 0 ∧ l14 = L.length ∧ SlV Pg σ16 52 2 q14 L.length ((M.map (yB M m)).map spV))) := by
  rcases htp with ⟨e, k6⟩ | ⟨e, q, d, σ16, k6, n16, s16⟩
  ·exact ⟨none, 0, 0, 9, σ13, k6, New.refl _, .inl rfl⟩
  ·rw [tl] at k6 s16
   exact ⟨q, L.length, d, 0, σ16, k6, n16, .inr ⟨rfl, rfl, s16⟩⟩
 have N16 := (N11.trans n13.le).trans n16.le
 obtain ⟨τ1, hτ1⟩ : ∃ τ1, τ1 = σ16.row [] 6 := ⟨_, rfl⟩
 have nτ1 : New σ16 τ1 := by rw [hτ1]; exact New.row _ _ _
 have oe : Own τ1 σ16.next [] 6 := by rw [hτ1]; exact zE _ _ _
 have r16 := SlV.le (SlV.le r6 N16) nτ1.le
 obtain ⟨p18, c18, σ17, ap, hcase⟩ := copy_new (k := c3) zWC oe r16.1 (by omega) (yNO M)
 obtain ⟨B, hp18, n17, oB, hBb⟩ : ∃ B, p18 = some ⟨B, 0, none⟩ ∧ New τ1 σ17 ∧ Own σ17 B (zAI (M.map yH)) 6 ∧ σ16.next ≤ B := by
  rcases hcase with ⟨h0, _⟩ | ⟨h0, rfl, rfl⟩
  ·omega
  ·exact ⟨_, rfl, New.row _ _ _, zE _ _ _, by rw [hτ1]; show σ16.next ≤ σ16.next + 1; omega⟩
 subst hp18
 obtain ⟨wn, hwn⟩ : ∃ wn : Nat, wn = which.toNat % L.length := ⟨_, rfl⟩
 have hwlt : wn < L.length := by rw [hwn]; exact Nat.mod_lt _ (by omega)
 have eT : which.tmod ((L.length : Nat) : Int) = (wn : Int) := by rw [Int.tmod_eq_emod_of_nonneg hwh.1, hwn, Int.natCast_emod, Int.toNat_of_nonneg hwh.1]
 have rm2 : ∀ o1 o2 : Operand, xL Pg .rem 3 o1 o2 (yD which) (yD ((L.length : Nat) : Int)) = some (yD (wn : Int)) := fun o1 o2 => by rw [zIX (by omega), eT]
 have m17 := ((SlV.le m6 N16).le nτ1.le).le n17.le
 obtain ⟨a4, rfl, y, hy, ldm⟩ := zAO (f := yD) m17 hwlt
 rw [yTD hwlt] at hy; cases hy
 obtain ⟨xw, hxw⟩ : ∃ xw, M[wn]? = some xw := ⟨M[wn]'(by omega), by simp⟩
 obtain ⟨mw, hmw⟩ : ∃ mw, mw = xO L k (zX ws) wn := ⟨_, rfl⟩
 rw [← hmw] at ldm
 have tw : Int.toNat (wn : Int) = wn := by omega
 have ad : ∀ j, zG ⟨B, 0, none⟩ (Int.toNat (wn : Int) * 6 + j) = ⟨B, wn * 6 + j, none⟩ := fun j => by rw [tw]; simp [zG]
 have stF : ∀ (τ : St) (M1 : List Rec) (x1 x2 : Rec) (j t : Nat) (v : Value), Own τ B (M1.flatMap yI) 6 → M1[wn]? = some x1 → j < 6 → (yI x1).set j v = yI x2 → v.cells.toList = [v] → cellB v = true → xC Pg t = some 1 → zL Pg (evL [.pointer (some ⟨B, wn * 6 + j, none⟩), v]) τ (.store t (.tmp 0) (.tmp 1)) = some (undef, τ.own B ((M1.set wn x2).flatMap yI) 6) := fun τ M1 x1 x2 j t v o hx hj he hv hc ht => by
  have hlt := (List.getElem?_eq_some_iff.1 hx).1
  have hl6 : (M1.flatMap yI).length = M1.length * 6 := zBG _
  refine o.store (P := Pg) (k := wn * 6 + j) (t := t) (v := v) (vs := [v]) (ds := (M1.set wn x2).flatMap yI) hv ht (by simp [hc]) (by rw [hl6]; show wn * 6 + j + 1 ≤ M1.length * 6; omega) ?_
  rw [← zPH M1 wn j x1 x2 v hx hj he, List.set_eq_take_append_cons_drop, if_pos (by rw [hl6]; omega)]; rfl
 rw [zAN] at oB
 have st1 := stF σ17 M xw { xw with k := 1 } 3 5 (.int .u8 1) oB hxw (by omega) rfl rfl rfl size5
 have o1 := oB.put (ds := (M.set wn { xw with k := 1 }).flatMap yI)
 have x1 : (M.set wn { xw with k := 1 })[wn]? = some { xw with k := 1 } := by rw [List.getElem?_set]; simp [tl, hwlt]
 have st2 := stF _ _ _ { xw with k := 1, a := mw } 4 3 (yD mw) o1 x1 (by omega) rfl rfl rfl yOQ
 rw [List.set_set] at st2
 have o2 := o1.put (ds := (M.set wn { xw with k := 1, a := mw }).flatMap yI)
 have x2 : (M.set wn { xw with k := 1, a := mw })[wn]? = some { xw with k := 1, a := mw } := by rw [List.getElem?_set]; simp [tl, hwlt]
 have st3 := stF _ _ _ (zBX mw xw) 5 3 (yD 0) o2 x2 (by omega) rfl rfl rfl yOQ
 rw [List.set_set] at st3
 have o3 := o2.put (ds := (M.set wn (zBX mw xw)).flatMap yI)
 obtain ⟨τ2, hτ2⟩ : ∃ τ2, τ2 = ((σ17.own B ((M.set wn { xw with k := 1 }).flatMap yI) 6).own B ((M.set wn { xw with k := 1, a := mw }).flatMap yI) 6).own B ((M.set wn (zBX mw xw)).flatMap yI) 6 := ⟨_, rfl⟩
 have nτ2 : New σ16 τ2 := by rw [hτ2]; exact (((nτ1.trans n17).own hBb).own hBb).own hBb
 rw [← hτ2] at o3
 obtain ⟨U, hU⟩ : ∃ U, U = M.set wn (zBX mw xw) := ⟨_, rfl⟩
 have hUl : U.length = L.length := by rw [hU, List.length_set, tl]
 have rU : yZ τ2 59 (some ⟨B, 0, none⟩) L.length U := by
  refine ⟨⟨?_, ?_⟩, by simp [hUl], fun v hv => by obtain ⟨y, _, rfl⟩ := List.mem_map.1 hv; exact zIC y⟩
  ·rw [zAN, zBG, hUl]
  ·rw [zAN, hU]; exact o3.rw
 have tells : yQP L U (xO L k (zX ws)) := by
  rw [hU, hMe, hmw]
  rw [hMe] at hxw
  exact yLX hxw
 have hrU : ∀ x ∈ U, yA x = true := fun x hx => by
  obtain ⟨i, hi, rfl⟩ := List.mem_iff_getElem.1 hx
  have hi' := List.getElem?_eq_getElem hi
  generalize U[i] = x at *
  rw [hU] at hi'
  obtain ⟨y, e1, ⟨_, rfl, rfl⟩ | ⟨_, rfl⟩⟩ := zUH hxw hi'
  ·exact zTE (hM _ (List.mem_of_getElem? e1)) (by rw [hmw]; exact yGC hsL hcL r0 r1 hW0 hwlt) (by rw [hmw]; exact hle wn hwlt)
  ·exact hM _ (List.mem_of_getElem? e1)
 have hsU : Srt U := zSU hsL fun i x' hx => by obtain ⟨y, e1, e2, e3, _⟩ := tells i x' hx; exact ⟨y, e1, e2, e3⟩
 have hcU : vD U := yAC hsL hcL fun i x' hx => by obtain ⟨y, e1, e2, e3, e4, _⟩ := tells i x' hx; exact ⟨y, e1, e2, e3, e4⟩
 obtain ⟨p25, c25, σ26, k7, n26, hup⟩ := zOE (c := c18) rU (by omega) hrU hsU hcU r0 r1
 have hallU : U.all (fun r => okW (yB U k r)) = true := List.all_eq_true.2 fun x hx => by
  obtain ⟨i, hi, rfl⟩ := List.mem_iff_getElem.1 hx
  exact yYS (yEC hsL hcL r0 r1 hW0 tells (List.getElem?_eq_getElem hi) (hle i (by omega)))
 rcases hup with ⟨e, _⟩ | ⟨_, q27, d27, σ29, k8, n29, s29⟩
 ·rw [hallU] at e; cases e
 rw [hUl] at k8 s29
 rw [tl] at k4 s11
 have N29 : Le σ16 σ29 := (nτ2.le.trans n26.le).trans n29.le
 have s29s := ((SlV.le (SlV.le s11 n13.le) n16.le).le N29)
 have r29 := SlV.le (SlV.le r6 N16) N29
 have narrow : ∀ i x x', M[i]? = some x → U[i]? = some x' → (yB M k x).1 ≤ (yB U k x').1 ∧ (yB U k x').2 ≤ (yB M k x).2 := fun i x x' hx hx' => by
  rw [hU] at hx' ⊢
  rw [hMe, hmw] at hx' ⊢
  rw [hMe] at hx hxw hM
  exact yGA hxw hsL hcL hM hx hx' k
 have lesser : ∀ x ∈ M, (yB M k x).1 ≤ (yB M m x).1 ∧ (yB M m x).2 ≤ (yB M k x).2 := fun x hx => zXP fun s hS e1 e2 => ⟨s, hS, e1, e2, yWD hsM hcM m0 mk r1 hx hS e1⟩
 have last : zJD p3 L.length c3 q9 L.length d9 q14 l14 d14 n15 q27 L.length d27 σ29 fun v _ => v = .bool true := by
  obtain ⟨p30, c30, σ31, k9, n31, hzp⟩ := zOE (c := c3) r29 (by omega) hM hsM hcM (Int.le_refl 0) (by omega)
  rcases hzp with ⟨e, k10⟩ | ⟨hall0, q32, d32, σ33, k10, n33, s33⟩
  ·refine zRL (P2 := fun τ => τ = σ31) (Pr := fun _ _ => False) k9 k10 (zRM (Inv := fun n i τ => i = 0 ∧ τ = σ31) ?_ 0 0 σ31 ⟨rfl, rfl⟩) (fun τ e => by subst e; exact yGP rfl (by omega) rfl) (fun t τ h => h.elim)
   rintro n i τ ⟨rfl, rfl⟩
   exact yTQ rfl (by omega) (by omega)
  ·rw [tl] at k10 s33
   have r33 := SlV.le (SlV.le r29 n31.le) n33.le
   refine zRL (P2 := fun τ => τ = σ33) (Pr := fun _ _ => False) k9 k10 (zRM (Inv := fun n i τ => ∃ s : Nat, i = s ∧ s + n = L.length ∧ τ = σ33) ?_ L.length 0 σ33 ⟨0, rfl, by omega, rfl⟩) (fun τ e => by subst e; exact yGQ rfl rfl) (fun t τ h => h.elim)
   rintro n i τ ⟨s, rfl, hn, rfl⟩
   by_cases hsl : s < L.length
   rotate_left
   ·exact yTP rfl (by omega)
   obtain ⟨a3, rfl, x, hx, -⟩ := zAO (f := yH) r33 hsl
   obtain ⟨a32, rfl, -⟩ := zAO (f := spV) s33 hsl
   have fx := fun j v h => uK (t' := 3) (i := s) (k := j) (x := v) r33 (by rw [List.getElem?_map, hx]; rfl) h zN
   have f1 := fun j v h => uK (t' := 3) (i := s) (k := j) (x := v) s33 (by rw [List.getElem?_map, List.getElem?_map, hx]; rfl) h zN
   have nx : ∃ k', k' < n ∧ ∃ s_1 : Nat, (s : Int) + 1 = s_1 ∧ s_1 + k' = L.length ∧ τ = τ := ⟨n - 1, by omega, s + 1, by omega, by omega, rfl⟩
   refine yTR (P4 := fun t τ' => τ' = τ ∧ (t = true → ∃ y ∈ M, y.m = x.m ∧ y.k = 1)) (yGR (Inv := fun n t j τ' => ∃ s' : Nat, j = s' ∧ s' + n = L.length ∧ τ' = τ ∧ (t = true → ∃ y ∈ M, y.m = x.m ∧ y.k = 1)) ?_ L.length false 0 τ ⟨0, rfl, by omega, rfl, by simp⟩) ?_ (by omega) rfl
   ·rintro n' t j τ' ⟨s', rfl, hn', rfl, ht'⟩
    by_cases hsl' : s' < L.length
    rotate_left
    ·exact yTK ⟨rfl, ht'⟩ (by omega)
    have nx' : ∀ t', (t' = true → ∃ y ∈ M, y.m = x.m ∧ y.k = 1) → ∃ k', k' < n' ∧ ∃ s_1 : Nat, (s' : Int) + 1 = s_1 ∧ s_1 + k' = L.length ∧ τ' = τ' ∧ (t' = true → ∃ y ∈ M, y.m = x.m ∧ y.k = 1) := fun t' h => ⟨n' - 1, by omega, s' + 1, by omega, by omega, rfl, h⟩
    cases t with
    | true => exact yTO (nx' true ht') (by omega)
    | false =>
     obtain ⟨y, hy⟩ : ∃ y, M[s']? = some y := ⟨M[s']'(by omega), by simp⟩
     have fy : ∀ {t' j : Nat} {v : Value}, (yI y)[j]? = some v → zCN Pg t' = some false → zC Pg τ' t' (zG a3 (Int.toNat (s' : Int) * 6 + j)) = some v := fun h ht => uK r33 (by rw [List.getElem?_map, hy]; rfl) h ht
     have nt := nx' true
     have nf := nx' false (by simp)
     clear nx' nx
     by_cases e1 : y.m = x.m
     ·by_cases e2 : y.k = 1
      ·exact yTN (fy rfl zN) (fx 0 _ rfl) (fy rfl zEO) (nt fun _ => ⟨y, List.mem_of_getElem? hy, e1, e2⟩) (by omega) ⟨by omega, by omega⟩ ⟨by omega, by omega⟩ e1 e2
      ·exact yTM (fy rfl zN) (fx 0 _ rfl) (fy rfl zEO) nf (by omega) ⟨by omega, by omega⟩ ⟨by omega, by omega⟩ e1 e2
     ·exact yTL (fy rfl zN) (fx 0 _ rfl) nf (by omega) ⟨by omega, by omega⟩ ⟨by omega, by omega⟩ e1
   ·rintro t τ' ⟨rfl, ht'⟩
    cases t with
    | false => exact yGN nx rfl
    | true =>
     obtain ⟨y, hyM, e1, e2⟩ := ht' rfl
     have hxM := List.mem_of_getElem? hx
     have one : (yB M 0 x).1 = (yB M 0 x).2 := by
      have z1 := (zME.1 (Int.le_refl (yB M 0 x).1)).2 y hyM e1 e2
      have z2 := (zMF.1 (Int.le_refl (yB M 0 x).2)).2 y hyM e1 e2
      have z3 := yWB hsM hcM hxM hyM e1
      have z4 := yCC.1 (List.all_eq_true.1 hall0 x hxM)
      omega
     exact yGO (f1 0 _ rfl) (f1 1 _ rfl) nx rfl ⟨by omega, by omega⟩ one
 have loop : zOO p3 L.length c3 q9 L.length d9 q14 l14 d14 n15 q27 L.length d27 0 σ29 (fun _ _ => False) (fun τ => τ = σ29) := by
  refine yGS (Inv := fun n i τ => ∃ s : Nat, i = s ∧ s + n = L.length ∧ τ = σ29) ?_ L.length 0 σ29 ⟨0, rfl, by omega, rfl⟩
  rintro n i τ ⟨s, rfl, hn, rfl⟩
  by_cases hsl : s < L.length
  rotate_left
  ·exact yTS rfl (by omega)
  have nx : ∃ k', k' < n ∧ ∃ s_1 : Nat, (s : Int) + 1 = s_1 ∧ s_1 + k' = L.length ∧ τ = τ := ⟨n - 1, by omega, s + 1, by omega, by omega, rfl⟩
  obtain ⟨x, hx⟩ : ∃ x, M[s]? = some x := ⟨M[s]'(by omega), by simp⟩
  obtain ⟨x', hx'⟩ : ∃ x', U[s]? = some x' := ⟨U[s]'(by omega), by simp⟩
  obtain ⟨a9, rfl, -⟩ := zAO (f := spV) s29s hsl
  obtain ⟨a27, rfl, -⟩ := zAO (f := spV) s29 hsl
  have f9 := fun j v h => uK (t' := 3) (i := s) (k := j) (x := v) s29s (by rw [List.getElem?_map, List.getElem?_map, hx]; rfl) h zN
  have f27 := fun j v h => uK (t' := 3) (i := s) (k := j) (x := v) s29 (by rw [List.getElem?_map, List.getElem?_map, hx']; rfl) h zN
  obtain ⟨w1, w2⟩ := narrow s x x' hx hx'
  rcases ht with e | ⟨e, el, s16⟩
  ·exact yTT (f27 0 _ rfl) (f9 0 _ rfl) (f27 1 _ rfl) (f9 1 _ rfl) nx (by omega) ⟨by omega, by omega⟩ ⟨by omega, by omega⟩ (by omega) (by omega) (by omega)
  ·subst el
   have t29 := SlV.le s16 N29
   obtain ⟨a14, rfl, -⟩ := zAO (f := spV) t29 hsl
   have f14 := fun j v h => uK (t' := 3) (i := s) (k := j) (x := v) t29 (by rw [List.getElem?_map, List.getElem?_map, hx]; rfl) h zN
   obtain ⟨w3, w4⟩ := lesser x (List.mem_of_getElem? hx)
   exact yTU (f27 0 _ rfl) (f9 0 _ rfl) (f27 1 _ rfl) (f9 1 _ rfl) (f14 0 _ rfl) (f14 1 _ rfl) nx (by omega) ⟨by omega, by omega⟩ ⟨by omega, by omega⟩ (by omega) (by omega) e ⟨by omega, by omega⟩ (by omega) (by omega)
 subst hτ2 hτ1
 rw [hk] at k2 k4 k8 rm1 lm1 lm2
 rw [hm, hk] at k6
 have q1 := rm2 (.tmp 79) (.tmp 81)
 have q2 := rm2 (.tmp 89) (.tmp 91)
 clear narrow lesser rm2 stF tells inn hle
 have ldm' : zC Pg σ17 3 (zG a4 (Int.toNat (wn : Int) * 1)) = some (yD mw) := ldm
 rcases ht with e | ⟨e, el, s16⟩
 ·exact yZI k1 rm1 k2 k3 k4 k5 k6 ap q1 q2 ldm' (by rw [ad]; exact st1) (by rw [ad]; exact st2) (by rw [ad]; exact st3) k7 k8 loop (fun t τ h => h.elim) (fun τ e => by subst e; exact last)
 ·subst el
  exact yZH k1 rm1 k2 k3 k4 k5 k6 ap q1 q2 ldm' (by rw [ad]; exact st1) (by rw [ad]; exact st2) (by rw [ad]; exact st3) k7 k8 loop (fun t τ h => h.elim) (fun τ e => by subst e; exact last)
end
end Go.Proofs.Ytffgfojabcbegaa
