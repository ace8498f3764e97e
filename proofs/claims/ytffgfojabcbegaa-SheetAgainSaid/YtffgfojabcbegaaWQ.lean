
import Derived.Test.YtffgfojabcbegaaWP
import Derived.Test.YtffgfojabcbegaaLayD
namespace Go.Proofs.Ytffgfojabcbegaa
open Go Go.Lay
open Try renaming prog → Pg
set_option linter.unusedVariables false
set_option linter.unusedSimpArgs false
set_option maxRecDepth 20000
theorem yUR : ∀ {l : List Rec} {off i : Nat}, i ∈ uU off l → off ≤ i ∧ i < off + l.length
 | [], off, i, h => by simp [uU] at h
 | r :: l, off, i, h => by
  rw [zBC] at h
  rw [List.length_cons]
  rcases List.mem_append.1 h with h | h
  ·split at h
   ·simp at h; omega
   ·cases h
  ·have := yUR h; omega
section
variable {σ : St}
theorem yOY {p : Option Addr} {l c : Nat} {bits which : Int} {xs : List Rec} (h : yU σ 59 p l xs) (hb : ∀ x ∈ xs, zYW x) (hbits : 0 ≤ bits ∧ bits ≤ 18446744073709551615) (hwh : 0 ≤ which ∧ which ≤ 255) : yRU Pg 12 9 [.slice p l c, .int .u64 bits, .int .u8 which] σ fun v _ => v = .bool true := by
 have hlen := h.len
 rcases ready_ok (c := c) h with k1 | ⟨k1, h60, hc, hright⟩
 ·exact yXM k1 rfl
 obtain ⟨q2, c2, σ3, k2, n3, r3⟩ := Closed_c (c := c) h (by omega) hc (sale_b hright)
 obtain ⟨L, hL⟩ : ∃ L, L = uT xs := ⟨_, rfl⟩
 have hLl := zWL (l := xs)
 rw [← hL] at k2 r3 hLl
 have hrL : ∀ x ∈ L, yG x = true := fun x hx => hright x (by rw [hL] at hx; exact zMA.1 hx)
 have hsL : Srt L := by rw [hL]; exact zPS hc
 have hcL : zAZ L := hc.mem fun x hx => by rw [hL] at hx; exact zMA.1 hx
 obtain ⟨F, hF⟩ : ∃ F, F = yY L := ⟨_, rfl⟩
 have hFl : F.length = L.length := by rw [hF, zHZ]
 have hrF : ∀ x ∈ F, yG x = true := by rw [hF]; exact yMG (by omega) hrL
 have hsF : Srt F := by rw [hF]; exact zTS hsL
 have hcF : zAZ F := by rw [hF]; exact yFW hsL hcL
 have h1L : ∀ x ∈ L, 1 ≤ x.s := fun x hx => (zED (hrL x hx)).2.2.1
 rw [← hF] at r3
 refine yXN (P0 := fun p8 l8 c8 p9 l9 c9 τ => l8 = (yH (uV bits) F F.length).length ∧ l9 = (uU 0 (yH (uV bits) F F.length)).length ∧ AgS σ3 τ (yH (uV bits) F F.length) p8 c8 (uU 0 (yH (uV bits) F F.length)) p9 c9) k1 k2 (yRT r3 (by omega) (fun p8 c8 p9 c9 τ M => ⟨rfl, rfl, M⟩)) ?_
 rintro p8 l8 c8 p9 l9 c9 τ ⟨rfl, rfl, M⟩
 obtain ⟨lf, hlf⟩ : ∃ lf, lf = yH (uV bits) F F.length := ⟨_, rfl⟩
 rw [← hlf] at M ⊢
 have hsub : lf.Sublist F := by rw [hlf]; have := zHF (F := F) (uV bits) (i := F.length); rwa [List.take_length] at this
 have hfl := hsub.length_le
 have hrf : ∀ x ∈ lf, yG x = true := fun x hx => hrF x (hsub.subset hx)
 have hsf : Srt lf := hsF.sublist hsub
 have hcf : zAZ lf := hcF.mem fun x hx => hsub.subset hx
 obtain ⟨X, hX⟩ : ∃ X, X = zAN (uV bits) F F.length := ⟨_, rfl⟩
 have elf : vP lf = some X := by
  rw [hlf, hX, hF, zHZ]
  exact yIX (uV bits) hsL h1L (sale_b hrL) (Nat.le_refl _)
 have hXl : X.length ≤ 60 := by have := yGO (F := F) (G := uV bits) (s := F.length); rw [hX]; omega
 obtain ⟨cl, hcl⟩ : ∃ cl, cl = uU 0 lf := ⟨_, rfl⟩
 rw [← hcl] at M ⊢
 have hcll : cl.length ≤ lf.length := by rw [hcl]; exact zXS lf 0
 by_cases h2 : cl.length < 2
 ·exact yFC rfl (by omega)
 obtain ⟨kk, hkk⟩ : ∃ kk, kk = which.toNat % (cl.length - 1) := ⟨_, rfl⟩
 have hklt : kk < cl.length - 1 := by rw [hkk]; exact Nat.mod_lt _ (by omega)
 have eT : which.tmod (((cl.length : Nat) : Int) - 1) = (kk : Int) := by
  rw [show ((cl.length : Nat) : Int) - 1 = ((cl.length - 1 : Nat) : Int) by omega, Int.tmod_eq_emod_of_nonneg hwh.1, hkk, Int.natCast_emod, Int.toNat_of_nonneg hwh.1]
 have rm : vZ Pg .rem 3 (.tmp 78) (.tmp 81) (vV which) (vV (((cl.length : Nat) : Int) - 1)) = some (vV (kk : Int)) := by rw [rem_eq (by omega), eT]
 obtain ⟨pp, hpp⟩ : ∃ pp, cl[kk]? = some pp := ⟨cl[kk]'(by omega), by simp⟩
 obtain ⟨qq, hqq⟩ : ∃ qq, cl[kk + 1]? = some qq := ⟨cl[kk + 1]'(by omega), by simp⟩
 obtain ⟨P, g, Q, n, R, e1, e2, e3, e4, e5, e6, e7⟩ := yLV (by rw [← hcl]; exact hpp) (by rw [← hcl]; exact hqq)
 have llen : lf.length = P.length + 1 + Q.length + 1 + R.length := by rw [e1]; simp; omega
 have hg : lf[pp]? = some g := by rw [e1, ← e2]; simp
 have hn : lf[qq]? = some n := by
  rw [e1, ← e3, ← e2, List.getElem?_append_right (by omega), show P.length + 1 + Q.length - P.length = Q.length + 1 by omega, List.getElem?_cons_succ, List.getElem?_append_right (by omega)]; simp
 have gl := M.gl.slv
 have gw := M.gw.slv
 obtain ⟨a8, rfl, -⟩ := zAO (f := yE) gl (show pp < lf.length by omega)
 obtain ⟨a9, rfl, -⟩ := zAO (f := fun n : Nat => vV (n : Int)) gw (show kk < cl.length by omega)
 have b8 : a8.block < τ.next := zPB gl a8 rfl
 have b9 : a9.block < τ.next := zPB gw a9 rfl
 have tk1 : Int.toNat ((kk : Int) + 1) = kk + 1 := by omega
 have lp : ∀ τ', Le τ τ' → zC Pg τ' 3 (zG a9 (Int.toNat (kk : Int) * 1)) = some (vV (pp : Int)) := fun τ' hle => (SlV.le gw hle).at rfl (by rw [List.getElem?_map, hpp]; rfl)
 have lq : ∀ τ', Le τ τ' → zC Pg τ' 3 (zG a9 (Int.toNat ((kk : Int) + 1) * 1)) = some (vV (qq : Int)) := fun τ' hle => by
  have := (SlV.le gw hle).at (i := kk + 1) rfl (by rw [List.getElem?_map, hqq]; rfl)
  rw [tk1]; rwa [Int.toNat_natCast] at this
 have lg : ∀ τ', Le τ τ' → zC Pg τ' 59 (zG a8 (Int.toNat (pp : Int) * 6)) = some (yE g) := fun τ' hle => (SlV.le gl hle).at rfl (by rw [List.getElem?_map, hg]; rfl)
 have ln : ∀ τ', Le τ τ' → zC Pg τ' 59 (zG a8 (Int.toNat (qq : Int) * 6)) = some (yE n) := fun τ' hle => (SlV.le gl hle).at rfl (by rw [List.getElem?_map, hn]; rfl)
 obtain ⟨s1, hs1⟩ : ∃ s, s = τ.row (yN ⟨0, 0, 0, 0, 0, 0⟩) 6 := ⟨_, rfl⟩
 have N1 : New τ s1 := by rw [hs1]; exact New.row _ _ _
 obtain ⟨s2, hs2⟩ : ∃ s, s = s1.row (yN ⟨0, 0, 0, 0, 0, 0⟩) 6 := ⟨_, rfl⟩
 have N2 : New τ s2 := by rw [hs2]; exact N1.row'
 have x1 : s1.next = τ.next + 1 := by rw [hs1]; rfl
 have x2 : s2.next = τ.next + 2 := by rw [hs2, hs1]; rfl
 obtain ⟨s3, hs3⟩ : ∃ s, s = s2.own τ.next (yN g) 6 := ⟨_, rfl⟩
 have N3 : New τ s3 := by rw [hs3]; exact N2.own (Nat.le_refl _)
 obtain ⟨s4, hs4⟩ : ∃ s, s = s3.own (τ.next + 1) (yN n) 6 := ⟨_, rfl⟩
 have N4 : New τ s4 := by rw [hs4]; exact N3.own (by omega)
 have x4 : s4.next = τ.next + 2 := by rw [hs4, hs3]; exact x2
 have og : Own s4 τ.next (yN g) 6 := by
  rw [hs4, hs3, hs2, hs1]
  exact ((((zE τ (yN ⟨0, 0, 0, 0, 0, 0⟩) 6).row).put (ds := yN g))).own (by omega)
 have on : Own s4 (τ.next + 1) (yN n) 6 := by
  rw [hs4]
  have w : Own s3 (τ.next + 1) (yN ⟨0, 0, 0, 0, 0, 0⟩) 6 := by
   rw [hs3]
   have : Own s2 s1.next (yN ⟨0, 0, 0, 0, 0, 0⟩) 6 := by rw [hs2]; exact zE _ _ _
   rw [x1] at this
   exact this.own (by omega)
  exact w.put
 have rngs : (0 ≤ (kk : Int) ∧ (kk : Int) < ((cl.length : Nat) : Int)) ∧ (0 ≤ (pp : Int) ∧ (pp : Int) < ((lf.length : Nat) : Int)) ∧ (0 ≤ (kk : Int) + 1 ∧ (kk : Int) + 1 < ((cl.length : Nat) : Int)) ∧ (0 ≤ (qq : Int) ∧ (qq : Int) < ((lf.length : Nat) : Int)) := by omega
 obtain ⟨v1, v2, v3, v4⟩ := rngs
 have Ls1 := N1.le
 have Ls2 := N2.le
 have Ls3 := N3.le
 by_cases hm : g.m = n.m
 rotate_left
 ·subst hs4 hs3 hs2 hs1
  exact yFB rm (lp _ (Le.refl _)) (lg _ (Le.refl _)) (lq _ (Le.refl _)) (ln _ (Le.refl _)) (lp _ Ls1) (lp _ Ls2) (lg _ Ls1) (lg _ Ls2) (lq _ Ls1) (lq _ Ls2) (lq _ Ls3) (ln _ Ls1) (ln _ Ls2) (ln _ Ls3) rfl (by omega) (u4 := v1) (u5 := v2) (u7 := v3) (u8 := v4) (u9 := hm) (cg := b9) (cj := b8)
 obtain ⟨s5, hs5⟩ : ∃ s, s = s4.row [] 6 := ⟨_, rfl⟩
 have N5 : New τ s5 := by rw [hs5]; exact N4.row'
 have oe : Own s5 (τ.next + 2) [] 6 := by rw [hs5, ← x4]; exact zE _ _ _
 have hu : Pg.underlying 22 = some (.slice 59) := Try.underlying22
 have part1 : ∀ {z}, Le τ z → uS Pg z 22 (.slice (some a8) lf.length c8) none (some (vV (pp : Int))) none = some (.slice (some (zG a8 (0 * 6))) (pp - 0) (lf.length - 0 + zAW)) ∧ SlV Pg z 59 6 (some (zG a8 (0 * 6))) (pp - 0) (((lf.map yE).drop 0).take (pp - 0)) := fun {z} hle => yUL (M.gl.le hle) hu uC (lo := 0) (hi := pp) rfl (zPM rfl (by omega)) (by omega) (by omega) (by omega)
 have part2 : ∀ {z}, Le τ z → uS Pg z 22 (.slice (some a8) lf.length c8) (some (vV ((pp : Int) + 1))) none none = some (.slice (some (zG a8 ((pp + 1) * 6))) (lf.length - (pp + 1)) (lf.length - (pp + 1) + zAW)) ∧ SlV Pg z 59 6 (some (zG a8 ((pp + 1) * 6))) (lf.length - (pp + 1)) (((lf.map yE).drop (pp + 1)).take (lf.length - (pp + 1))) := fun {z} hle => yUL (M.gl.le hle) hu uC (lo := pp + 1) (hi := lf.length) (zPM (by omega) (by omega)) rfl (by omega) (by omega) (by omega)
 obtain ⟨sl1, pt1⟩ := part1 N5.le
 obtain ⟨p6, c6, s6, ap1, A6, O6, b6⟩ := Ax.append (P := Pg) (k := lf.length - 0 + zAW) (n0 := τ.next) zMO (Ax.lit (len := 0) oe rfl ((xA 0).2 zBP) (by omega)) pt1.1 (by omega) (by
  rw [show ((lf.map yE).drop 0).take (pp - 0) = ((lf.drop 0).take (pp - 0)).map yE by simp]; exact zXT _) N5.nx
 have N6 : New τ s6 := N5.of_only O6 (by rintro b ⟨a, e, rfl⟩; cases e; show τ.next ≤ τ.next + 2; omega)
 obtain ⟨sl2, pt2⟩ := part2 N6.le
 obtain ⟨p7, c7, s7, ap2, A7, O7, b7⟩ := Ax.append (P := Pg) (k := lf.length - (pp + 1) + zAW) (n0 := τ.next) zMO A6 pt2.1 (by omega) (by
  rw [show ((lf.map yE).drop (pp + 1)).take (lf.length - (pp + 1)) = ((lf.drop (pp + 1)).take (lf.length - (pp + 1))).map yE by simp]; exact zXT _) N6.nx
 have N7 : New τ s7 := N6.of_only O7 (fun b hb => (A6.bd b hb).1)
 obtain ⟨few, hfew⟩ : ∃ few, few = P ++ (Q ++ n :: R) := ⟨_, rfl⟩
 have t1 : lf.take pp = P := by rw [e1, ← e2, List.take_left]
 have t2 : lf.drop (pp + 1) = Q ++ n :: R := by
  rw [e1, ← e2]; simp
 have efew : ((lf.map yE).drop 0).take (pp - 0) ++ ((lf.map yE).drop (pp + 1)).take (lf.length - (pp + 1)) = few.map yE := by
  rw [List.drop_zero, Nat.sub_zero, ← List.map_take, t1, ← List.map_drop, t2, List.take_of_length_le (by rw [← t2]; simp), hfew]; simp
 have flw : few.length = 0 + (pp - 0) + (lf.length - (pp + 1)) := by
  have : few.length = P.length + (Q.length + (R.length + 1)) := by rw [hfew]; simp
  omega
 have r7 : yU s7 59 p7 (0 + (pp - 0) + (lf.length - (pp + 1))) few := by
  refine Ax.slv (P := Pg) (c := c7) (n0 := τ.next) ?_ (by simp [flw]) (fun v hv => by obtain ⟨y, _, rfl⟩ := List.mem_map.1 hv; exact zHI y)
  rw [← efew, zBS]
  simpa using A7
 have hsubf : few.Sublist lf := by
  rw [hfew, e1]
  exact (List.Sublist.refl P).append (List.sublist_cons_self g _)
 have hrw : ∀ x ∈ few, yG x = true := fun x hx => hrf x (hsubf.subset hx)
 have hsw : Srt few := hsf.sublist hsubf
 have hcw : zAZ few := hcf.mem fun x hx => hsubf.subset hx
 have hfrom : (cl.take kk).foldl (zMD lf g.m) 0 = (zCX P g.m).s := by
  rw [hcl, ← e7]
  exact from_law e1
 have law := yYQ (by rw [← e1]; exact hsf) e4 e5 hm e6 (by rw [← e1]; exact elf)
 rw [← hfew] at law
 obtain ⟨Y, hY⟩ : ∃ Y, Y = (X.foldl (zBM g n ⟨n.m, (zCX P g.m).s, n.s, (X.foldl (zCS g n) (0, 0)).1, (X.foldl (zCS g n) (0, 0)).2⟩) ([], false)).1 := ⟨_, rfl⟩
 rw [← hY] at law
 obtain ⟨pa, ca, sa, qx, dx, s8, k3, k4, N8, sx⟩ := yJI (c := c8) (SlV.le gl N7.le) (by omega) hrf hsf hcf elf
 obtain ⟨pb, cb, sb, qy, dy, s9, k5, k6, N9, sy⟩ := yJI (c := c7) (SlV.le r7 N8.le) (by omega) hrw hsw hcw law
 have N79 := N8.trans N9
 have nlit : ∀ b, b < τ.next + 2 → ¬ AtP (some ⟨τ.next + 2, 0, none⟩) b := by rintro b hb ⟨a, e, rfl⟩; cases e; exact absurd hb (Nat.lt_irrefl _)
 have x5 : s5.next = τ.next + 3 := by rw [hs5]; show s4.next + 1 = _; omega
 have n6 : ∀ b, b < τ.next + 2 → ¬ AtP p6 b := fun b hb hA => by
  rcases b6 b hA with e | e
  ·exact nlit b hb e
  ·omega
 have own9 : ∀ (b : Nat) (cs : List Value), b < τ.next + 2 → Own s4 b cs 6 → Own s9 b cs 6 := fun b cs hb o => by
  have o5 : Own s5 b cs 6 := by rw [hs5]; exact o.row
  exact (O7.own' (O6.own' o5 (nlit b hb)) (n6 b hb)).le N79.le
 have og9 := own9 _ _ (by omega) og
 have on9 := own9 _ _ (by omega) on
 have m0 : zC Pg s9 3 ⟨τ.next + 1, 0, none⟩ = some (vV n.m) := by simpa [zG] using on9.rw.load1 (P := Pg) (t := 3) zR (k := 0) rfl
 have m1 : zC Pg s9 3 ⟨τ.next + 1, 1, none⟩ = some (vV n.s) := by simpa [zG] using on9.rw.load1 (P := Pg) (t := 3) zR (k := 1) rfl
 obtain ⟨sA, hsA⟩ : ∃ sA, sA = (s9.row (zN 0 0 0 0 0) 5).own s9.next (zN n.m 0 n.s 0 0) 5 := ⟨_, rfl⟩
 have NA : New s9 sA := by rw [hsA]; exact (New.row _ _ _).own (Nat.le_refl _)
 have oA : Own sA s9.next (zN n.m 0 n.s 0 0) 5 := by rw [hsA]; exact (zE s9 (zN 0 0 0 0 0) 5).put
 have NN := N7.trans N79
 have nn9 := NN.nx
 have n9 : s7.next ≤ s9.next := N79.nx
 have n7 : τ.next + 3 ≤ s7.next := by have := O6.next; have := O7.next; omega
 have clA := (SlV.le gw NN.le).le NA.le
 have lfA := (SlV.le gl NN.le).le NA.le
 have sxA := (SlV.le sx N9.le).le NA.le
 have syA := SlV.le sy NA.le
 have ltx : ∀ b, AtP qx b → b ≠ s9.next := fun b hb => by obtain ⟨a, e, rfl⟩ := hb; have := zPB sx a e; have := N9.nx; omega
 have lty : ∀ b, AtP qy b → b ≠ s9.next := fun b hb => by obtain ⟨a, e, rfl⟩ := hb; have := zPB sy a e; omega
 obtain ⟨P2, hP2, hK2⟩ := yRS (τ0 := s9) (τ := sA) (c8 := c8) (c9 := c9) (cx := dx) (cy := dy) (l8 := lf.length) NA lfA clA (by omega) (fun i hi => by rw [hcl] at hi; have := yUR hi; omega) (by omega) (og9.le NA.le) (on9.le NA.le) oA (Nat.le_refl _) (by omega) (by omega) (by omega) (by omega) sxA syA ltx lty hXl (lk_bd hrf (by omega) hsf elf) hfrom hY
 have L4 := N4.le
 have L5 := N5.le
 have L6 := N6.le
 have sl1' := (part1 L4).1
 have sl2' := fun {z} (hz : Le τ z) => (part2 hz).1
 have bb : ∀ {z : St} {v : Value}, Le τ z → zQ RD v = true → zY z.next [.slice (some a8) lf.length c8, v] := fun {z v} hz hv => zO (zEU (by have := hz.next; omega)) (zO (zBY hv) zU)
 have b17 : ∀ a, (some (zG a8 (0 * 6)) : Option Addr) = some a → a.block < τ.next := fun a e => by cases e; exact b8
 subst hsA hs5 hs4 hs3 hs2 hs1
 exact yFA rm (lp _ (Le.refl _)) (lg _ (Le.refl _)) (lq _ (Le.refl _)) (ln _ (Le.refl _)) (lp _ Ls1) (lp _ Ls2) (lg _ Ls1) (lg _ Ls2) (lq _ Ls1) (lq _ Ls2) (lq _ Ls3) (ln _ Ls1) (ln _ Ls2) (ln _ Ls3)
  (lp _ L5) sl1 ap1 (lp _ L6) sl2 ap2
  (zO (zX (by show a9.block < _; have := L6.next; omega)) zU) (bb L6 rfl) (zO (zRS (fun a e => (A6.bd a.block ⟨a, e, rfl⟩).2)) (zO (zEU (by show a8.block < _; have := L6.next; omega)) zU))
  (lp _ L4) ⟨⟨bb L4 rfl, rfl⟩, sl1'⟩ ⟨⟨bb L5 rfl, rfl⟩, sl1⟩ (lp _ L4) (lp _ L5) ⟨⟨by show a9.block < _; have := L6.next; omega, rfl⟩, lp _ L6⟩ ⟨⟨bb L4 rfl, rfl⟩, sl2' L4⟩ ⟨⟨bb L5 rfl, rfl⟩, sl2' L5⟩ ⟨⟨bb L6 rfl, rfl⟩, sl2⟩
  k3 k4 k5 k6 m0 m1 (fun a e => by cases e; exact b8) b17 hP2 hK2 (by omega) (u4 := v1) (u5 := v2) (u7 := v3) (u8 := v4) (u9 := hm) (cg := b9) (cj := b8)
end
end Go.Proofs.Ytffgfojabcbegaa
