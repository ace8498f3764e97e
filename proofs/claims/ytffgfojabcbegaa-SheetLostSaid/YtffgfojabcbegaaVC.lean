
import Derived.Test.YtffgfojabcbegaaVB
namespace Go.Proofs.Ytffgfojabcbegaa
open Go Go.Lay
open Try renaming prog → Pg
set_option linter.unusedVariables false
set_option linter.unusedSimpArgs false
set_option maxRecDepth 20000
section
variable {σ : St}
theorem yXI {lo a1 : Nat} {q : Option Addr} {c : Nat} {L : List Rec} (hs : Srt L) (hlen : L.length ≤ 100000) {J : Nat → (Nat → Prop) → St → Prop} {X : St → Prop}
  (hT : ∀ i Y z, J i Y z → Own z a1 [.slice q L.length c] 1 ∧ xB z 79 q L.length L) (h0 : J 0 (fun _ => False) σ)
  (hS : ∀ i Y Y' z z', J i Y z → Only Y z z' → z'.low ≤ z.low → (∀ y, Y' y → Y y ∨ (z.next ≤ y ∧ y < z'.next)) → J i Y' z')
  (hskip : ∀ i Y z r, L[i]? = some r → r.k ≠ 2 → J i Y z → J (i + 1) Y z)
  (hJ : ∀ i Y z r F B p l d, L[i]? = some r → r.k = 2 → F.m = r.m → zAW F B = xX L r.m i → (F ∈ L ∨ ∃ m, F = zAX m) → (∀ x ∈ B, x ∈ L) → B.length ≤ i → l = B.length → xB z 79 p l B → J i Y z →
   (∃ z', zEE Pg lo [.agg ⟨vY F r p l d⟩] z (.bool true) z' ∧ J (i + 1) Y z' ∧ ∀ b cs n, Y b → Own z b cs n → Own z' b cs n) ∨ ∃ z', zEE Pg lo [.agg ⟨vY F r p l d⟩] z (.bool false) z' ∧ X z') :
  zO Pg 65 [.func (.yield lo) ⟨[]⟩ ⟨[]⟩, .pointer (some ⟨a1, 0, none⟩)] σ fun v s => v = .tuple ⟨[]⟩ ∧ ((∃ Y, J L.length Y s) ∨ X s) := by
 obtain ⟨σ0, hσ0⟩ : ∃ σ0, σ0 = σ.row (vY (zAX 0) (zAX 0) none 0 0) 13 := ⟨_, rfl⟩
 have n0 : New σ σ0 := by rw [hσ0]; exact New.row _ _ _
 have j0 : J 0 (fun y => y = σ.next) σ0 := hS _ _ _ _ _ h0 n0.only (by rw [hσ0]; simp) (fun y e => .inr ⟨by omega, by rw [hσ0, e]; show σ.next < σ.next + 1; omega⟩)
 have w0 : Own σ0 σ.next (vY (zAX 0) (zAX 0) none 0 0) 13 := by rw [hσ0]; exact zE _ _ _
 have l0 := (hT _ _ _ j0).1.rw.load1 (P := Pg) (t := 28) yAQ (k := 0) rfl
 subst hσ0
 have l0 : zD Pg (σ.row (yQ 0 0 0 0 0 0 0 0 0 0 0 0 none 0 0) 13) 28 ⟨a1, 0, none⟩ = some (.slice q L.length c) := l0
 refine str1_ra (P0 := fun τ => ∃ Y, J L.length Y τ) (Pr := X) l0
  (yJX (Inv := fun k i τ => ∃ (s : Nat) (F T : Rec) (B : List Rec) (p : Option Addr) (d : Nat) (Y : Nat → Prop), i = s ∧ s + k = L.length ∧ StI J L σ.next s τ F T B p d Y ∧ (s = 0 ∨ ∃ x, L[s - 1]? = some x ∧ F.m = x.m ∧ zAW F B = xX L x.m s)) ?_ L.length 0 _ ⟨0, zAX 0, zAX 0, [], none, 0, _, rfl, by omega, ⟨j0, rfl, fun b hb => (AtP.none hb).elim, AtP.none, w0, Gr.nil, .inr ⟨0, rfl⟩, by simp, by simp⟩, .inl rfl⟩)
  (fun τ h => yJV ⟨rfl, .inr h⟩) (fun τ h => yJW ⟨rfl, .inl h⟩)
 rintro k i τ ⟨s, F, T, B, p, d, Y, rfl, hk, hI, hrel⟩
 by_cases hsl : s < L.length
 rotate_left
 ·have : s = L.length := by omega
  subst this
  exact yWY ⟨Y, hI.j⟩ (by omega)
 obtain ⟨ow, hrec⟩ := hT _ _ _ hI.j
 obtain ⟨a, rfl, r, hr, ld⟩ := zCG hrec hsl
 obtain ⟨τ1, hτ1⟩ : ∃ τ1, τ1 = (τ.row (yH ⟨0, 0, 0, 0, 0, 0⟩) 6).own τ.next (yH r) 6 := ⟨_, rfl⟩
 have N1 : New τ τ1 := by rw [hτ1]; exact (New.row _ _ _).own (Nat.le_refl _)
 have o1 : Own τ1 τ.next (yH r) 6 := by rw [hτ1]; exact (zE _ _ _).put
 have hlow1 : τ1.low ≤ τ.low := by rw [hτ1]; show min _ _ ≤ _; simp only [St.row_low]; omega
 have hBlt := hI.own.lt
 have j1 : J s (fun y => Y y ∨ y = τ.next) τ1 := hS _ _ _ _ _ hI.j N1.only hlow1 (fun y hy => hy.imp id (fun e => ⟨by omega, by rw [e]; exact o1.lt⟩))
 have I1 : StI J L σ.next s τ1 F T B p d (fun y => Y y ∨ y = τ.next) := ⟨j1, .inl hI.ys, fun b hb => .inl (hI.yp b hb), hI.ne, hI.own.le N1.le, hI.gr.le N1.le, hI.fm, hI.bm, hI.bl⟩
 have hne : τ.next ≠ σ.next := by omega
 have kd : ∀ z : St, Own z τ.next (yH r) 6 → zD Pg z 5 ⟨τ.next, 3, none⟩ = some (.int .u8 r.k) := fun z h => by simpa [zJ] using h.rw.load1 (P := Pg) (t := 5) zAB (k := 3) rfl
 have kr : ∀ z : St, Own z τ.next (yH r) 6 → zD Pg z 79 ⟨τ.next, 0, none⟩ = some (yP r) := fun z h => by simpa [zJ] using h.rw.loadN (P := Pg) (t := 79) zDE xC (k := 0) rfl rfl (by simp)
 have hnew : (∃ x, s = 0 ∨ (L[s - 1]? = some x ∧ x.m ≠ r.m)) → zAW (zAX r.m) [] = xX L r.m s := by
  rintro ⟨x, e | ⟨hx, hm⟩⟩
  ·subst e; rfl
  ·obtain ⟨s', rfl⟩ : ∃ s', s = s' + 1 := ⟨s - 1, by
    rcases Nat.eq_zero_or_pos s with e | e
    ·subst e
     have h2 : x = r := by simpa [hx] using hr
     exact absurd (by rw [h2]) hm
    ·omega⟩
   rw [yAK (srt_new hs (by simpa using hx) hr hm)]; rfl
 have st2 := I1.own.store (P := Pg) (k := 0) (t := 93) (v := .agg ⟨vY (zAX r.m) (zAX 0) none 0 0⟩) (vs := vY (zAX r.m) (zAX 0) none 0 0) (ds := vY (zAX r.m) (zAX 0) none 0 0) rfl zOA rfl (by simp) rfl
 obtain ⟨τ2, hτ2⟩ : ∃ τ2, τ2 = τ1.own σ.next (vY (zAX r.m) (zAX 0) none 0 0) 13 := ⟨_, rfl⟩
 have k2 : Only (· = σ.next) τ1 τ2 := by rw [hτ2]; exact Only.own (.inr rfl)
 have o2 : Own τ2 τ.next (yH r) 6 := k2.own' o1 hne
 have I2 : StI J L σ.next s τ2 (zAX r.m) (zAX 0) [] none 0 (fun y => Y y ∨ y = τ.next) := ⟨hS _ _ _ _ _ j1 (k2.mono fun b _ e => .inl (e ▸ hI.ys)) (by rw [hτ2]; exact own_low) (fun y hy => .inl hy), .inl hI.ys, fun b hb => (AtP.none hb).elim, AtP.none, by rw [hτ2]; exact I1.own.put, Gr.nil, .inr ⟨_, rfl⟩, by simp, by simp⟩
 rw [← hτ2] at st2
 have nextR : ∀ (F : Rec) (B : List Rec), r.k ≠ 2 → F.m = r.m → zAW F B = xX L r.m s → ∃ x, L[s + 1 - 1]? = some x ∧ F.m = x.m ∧ zAW F (B ++ [r]) = xX L x.m (s + 1) := fun F B hk2 hm hc => ⟨r, hr, hm, by
  rw [yAJ, zGG hr, hc]
  unfold bS zOJ
  rw [if_pos rfl, if_neg hk2]⟩
 have nextC : r.k = 2 → ∃ x, L[s + 1 - 1]? = some x ∧ r.m = x.m ∧ zAW r [] = xX L x.m (s + 1) := fun hk2 => ⟨r, hr, rfl, by
  rw [zGG hr]
  unfold zOJ
  rw [if_pos rfl, if_pos hk2]; rfl⟩
 have hBl := hI.bl
 subst hτ1
 by_cases hz : s = 0
 ·have hc := hnew ⟨r, .inl hz⟩
  by_cases hk2 : r.k = 2
  ·obtain ⟨τ3, g1, g2, ⟨z', τ5, Y', g3, g4, g5, g6⟩ | ⟨z', g3, g4⟩⟩ := zPM hS hJ I2 o2 (.inr rfl) hne hr hk2 rfl hc
   ·exact yXG ld st2 (kd _ o2) (kr _ o2) g1 g2 g3 g4 g5 ⟨k - 1, by omega, s + 1, _, _, _, _, _, _, by omega, by omega, g6, .inr (nextC hk2)⟩ (by omega) (by omega) (by omega) hk2
   ·exact yXF ld st2 (kd _ o2) (kr _ o2) g1 g2 g3 g4 (by omega) (by omega) (by omega) hk2
  ·obtain ⟨g1, p2, c2, τ3, τ4, Y', g2, g3, g4⟩ := yBB hS hskip I2 hr hk2 (by simp)
   exact yXH ld st2 (kd _ o2) g1 (kr _ o2) g2 g3 ⟨k - 1, by omega, s + 1, _, _, _, _, _, _, by omega, by omega, g4, .inr (nextR _ _ hk2 rfl hc)⟩ (by omega) (by omega) (by omega) hk2
 rcases hrel with e | ⟨x, hx, hFx, hcx⟩
 ·exact absurd e hz
 have ow1 := (hT _ _ _ j1).1.rw.load1 (P := Pg) (t := 28) yAQ (k := 0) rfl
 have lm : zD Pg ((τ.row (yH ⟨0, 0, 0, 0, 0, 0⟩) 6).own τ.next (yH r) 6) 3 (zJ a ((Int.toNat ((s : Int) - 1) * 6) + 0)) = some (iV x.m) := by
  have := zGO (t' := 3) (i := s - 1) (k := 0) (x := iV x.m) (hT _ _ _ j1).2 (by rw [List.getElem?_map, hx]; rfl) rfl zP
  rw [show Int.toNat ((s : Int) - 1) = s - 1 by omega]
  simpa using this
 by_cases hm : x.m = r.m
 ·have hF : F.m = r.m := hFx.trans hm
  have hc : zAW F B = xX L r.m s := by rw [← hm]; exact hcx
  by_cases hk2 : r.k = 2
  ·obtain ⟨τ3, g1, g2, ⟨z', τ5, Y', g3, g4, g5, g6⟩ | ⟨z', g3, g4⟩⟩ := zPM hS hJ I1 o1 (.inr rfl) hne hr hk2 hF hc
   ·exact yXA ld (by simpa [zJ] using ow1) lm g1 g2 g3 g4 g5 ⟨k - 1, by omega, s + 1, _, _, _, _, _, _, by omega, by omega, g6, .inr (nextC hk2)⟩ (by omega) (by omega) (by omega) (by omega) (by omega) hm hk2
   ·exact yWZ ld (by simpa [zJ] using ow1) lm g1 g2 g3 g4 (by omega) (by omega) (by omega) (by omega) (by omega) hm hk2
  ·obtain ⟨g1, p2, c2, τ3, τ4, Y', g2, g3, g4⟩ := yBB hS hskip I1 hr hk2 (by omega)
   exact yXB ld (by simpa [zJ] using ow1) lm g1 g2 g3 ⟨k - 1, by omega, s + 1, _, _, _, _, _, _, by omega, by omega, g4, .inr (nextR _ _ hk2 hF hc)⟩ (by omega) (by omega) (by omega) (by omega) (by omega) hm hk2
 ·have hc := hnew ⟨x, .inr ⟨hx, hm⟩⟩
  by_cases hk2 : r.k = 2
  ·obtain ⟨τ3, g1, g2, ⟨z', τ5, Y', g3, g4, g5, g6⟩ | ⟨z', g3, g4⟩⟩ := zPM hS hJ I2 o2 (.inr rfl) hne hr hk2 rfl hc
   ·exact yXD ld (by simpa [zJ] using ow1) lm st2 (kd _ o2) (kr _ o2) g1 g2 g3 g4 g5 ⟨k - 1, by omega, s + 1, _, _, _, _, _, _, by omega, by omega, g6, .inr (nextC hk2)⟩ (by omega) (by omega) (by omega) (by omega) (by omega) hm hk2
   ·exact yXC ld (by simpa [zJ] using ow1) lm st2 (kd _ o2) (kr _ o2) g1 g2 g3 g4 (by omega) (by omega) (by omega) (by omega) (by omega) hm hk2
  ·obtain ⟨g1, p2, c2, τ3, τ4, Y', g2, g3, g4⟩ := yBB hS hskip I2 hr hk2 (by simp)
   exact yXE ld (by simpa [zJ] using ow1) lm st2 (kd _ o2) g1 (kr _ o2) g2 g3 ⟨k - 1, by omega, s + 1, _, _, _, _, _, _, by omega, by omega, g4, .inr (nextR _ _ hk2 rfl hc)⟩ (by omega) (by omega) (by omega) (by omega) (by omega) hm hk2
end
end Go.Proofs.Ytffgfojabcbegaa
