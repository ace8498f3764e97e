
import Derived.Test.YtmdopblmkkameaaSC
namespace Go.Proofs.Ytmdopblmkkameaa
open Go Go.Lay
open Try renaming prog → Pg
set_option linter.unusedVariables false
set_option linter.unusedSimpArgs false
set_option maxRecDepth 20000
theorem cntN_le_nn {n : Nat} {P : Nat → Bool} : yZ n P ≤ n := by have := cntN_not (n := n) (P := P); omega
theorem cover_lay {σ4 : St} {C F F2 G P : List Value} {D : List Value} (σA : St) (hσA : σA = (((((σ4.row P 1).own σ4.next C 1).row F 1).row F2 1).row G 1).own (σ4.next + 3) D 1) :
  New σ4 σA ∧ Own σA σ4.next C 1 ∧ Own σA (σ4.next + 1) F 1 ∧ Own σA (σ4.next + 2) F2 1 ∧ Own σA (σ4.next + 3) D 1 := by
 obtain ⟨sa, ha⟩ : ∃ sa, sa = σ4.row P 1 := ⟨_, rfl⟩
 obtain ⟨sb, hb⟩ : ∃ sb, sb = sa.own σ4.next C 1 := ⟨_, rfl⟩
 obtain ⟨sc, hc⟩ : ∃ sc, sc = sb.row F 1 := ⟨_, rfl⟩
 obtain ⟨sd, hd⟩ : ∃ sd, sd = sc.row F2 1 := ⟨_, rfl⟩
 obtain ⟨se, he⟩ : ∃ se, se = sd.row G 1 := ⟨_, rfl⟩
 rw [← ha, ← hb, ← hc, ← hd, ← he] at hσA
 have na : sa.next = σ4.next + 1 := by rw [ha]; rfl
 have nb : sb.next = σ4.next + 1 := by rw [hb]; exact na
 have nc : sc.next = σ4.next + 2 := by rw [hc]; show sb.next + 1 = _; omega
 have nd : sd.next = σ4.next + 3 := by rw [hd]; show sc.next + 1 = _; omega
 have ne : se.next = σ4.next + 4 := by rw [he]; show sd.next + 1 = _; omega
 have Na : New σ4 sa := by rw [ha]; exact New.row _ _ _
 have kb : Only (· = σ4.next) sa sb := by rw [hb]; exact Only.own (.inr rfl)
 have Nc : New sb sc := by rw [hc]; exact New.row _ _ _
 have Nd : New sc sd := by rw [hd]; exact New.row _ _ _
 have Ne : New sd se := by rw [he]; exact New.row _ _ _
 have kA : Only (· = σ4.next + 3) se σA := by rw [hσA]; exact Only.own (.inr rfl)
 have oa : Own sa σ4.next P 1 := by rw [ha]; exact zC _ _ _
 have ob : Own sb σ4.next C 1 := by rw [hb]; exact oa.put
 have oc : Own sc (σ4.next + 1) F 1 := by rw [hc, ← nb]; exact zC _ _ _
 have od : Own sd (σ4.next + 2) F2 1 := by rw [hd, ← nc]; exact zC _ _ _
 have oe : Own se (σ4.next + 3) G 1 := by rw [he, ← nd]; exact zC _ _ _
 have oA : Own σA (σ4.next + 3) D 1 := by rw [hσA]; exact oe.put
 exact ⟨((((Na.of_only kb (by rintro b rfl; omega)).trans Nc).trans Nd).trans Ne).of_only kA (by rintro b rfl; omega), kA.own' (((ob.le Nc.le).le Nd.le).le Ne.le) (by omega), kA.own' ((oc.le Nd.le).le Ne.le) (by omega), kA.own' (od.le Ne.le) (by omega), oA⟩
theorem two_grow {τ z : St} {pa pb : Option Addr} {la ca lb cb : Nat} {xs ys : List Value} (x : Int) (hN : New τ z) (ha : Gr Pg z τ.next 3 1 pa la ca xs) (hb : Gr Pg z τ.next 3 1 pb lb cb ys) (hd : ∀ b, AtP pa b → ¬ AtP pb b) (hl : la ≤ 100000) :
  ∃ p' c' z', xD Pg 41 41 (.slice pa la ca) (.slice (some ⟨z.next, 0, none⟩) 1 1) (z.row [iV x] 1) = some (.slice p' (la + 1) c', z') ∧ New τ z' ∧ Gr Pg z' τ.next 3 1 p' (la + 1) c' (xs ++ [wM x]) ∧ Gr Pg z' τ.next 3 1 pb lb cb ys ∧ ∀ b, AtP p' b → ¬ AtP pb b := by
 obtain ⟨p4, c4, τ2, g1, g2, g3, g4, g5⟩ := grow (wM x) appT_ints ha hN (New.refl z) (zHA _) (by omega)
 refine ⟨p4, c4, τ2, g1, g3, g2, (hb.le (Le.row _ _ _)).only g4 (fun b hb hp => hd b hp hb), fun b h4 hpb => ?_⟩
 rcases g5 b h4 with h5 | h5
 ·exact hd b h5 hpb
 ·have := (hb.bd hpb).2; omega
section
variable {σ : St} {t : Tab} {pe pt : Option Addr} {le ce lt ct : Nat}
theorem Cover_c (h : TabP σ pe le pt lt t) (hle : le ≤ 1073741824) (hlt : lt ≤ 100000) (hr : ∀ r ∈ t.empty, r.length ≤ 1073741824) :
  ∃ p1 l1 c1 p2 l2 c2 e σ', zD Pg 43 [.agg ⟨yB t pe le ce pt lt ct⟩] σ (.tuple ⟨[.slice p1 l1 c1, .slice p2 l2 c2, iV e]⟩) σ' ∧ New σ σ' ∧ ((vS t ≠ 0 ∧ e = vS t ∧ l1 = 0 ∧ l2 = 0) ∨ (vS t = 0 ∧ e = 0 ∧ ∃ nx bf se ta, BestTo lt (EdS t fun _ => true) (fun _ => true) lt nx bf ∧ WAll lt (EdS t fun _ => true) nx bf lt se ta ∧
   yU σ' p1 l1 (vH ((List.range lt).filter fun i => !se i)) ∧ yU σ' p2 l2 (vH ((List.range lt).filter ta)))) := by
 suffices hmain : zN Pg 43 [.agg ⟨yB t pe le ce pt lt ct⟩] σ.re fun v s => New σ.re s ∧ ∃ p1 l1 c1 p2 l2 c2 e, v = .tuple ⟨[.slice p1 l1 c1, .slice p2 l2 c2, iV e]⟩ ∧ ((vS t ≠ 0 ∧ e = vS t ∧ l1 = 0 ∧ l2 = 0) ∨ (vS t = 0 ∧ e = 0 ∧ ∃ nx bf se ta, BestTo lt (EdS t fun _ => true) (fun _ => true) lt nx bf ∧ WAll lt (EdS t fun _ => true) nx bf lt se ta ∧
   yU s p1 l1 (vH ((List.range lt).filter fun i => !se i)) ∧ yU s p2 l2 (vH ((List.range lt).filter ta)))) by
  obtain ⟨v, σ', h1, h2, p1, l1, c1, p2, l2, c2, e, rfl, h3⟩ := zN.new hmain
   (by rintro v s s' ⟨p1, l1, c1, p2, l2, c2, e, rfl, q1⟩ hle; exact ⟨p1, l1, c1, p2, l2, c2, e, rfl, q1.imp id (fun ⟨x1, x2, nx, bf, se, ta, x3, x4, x5, x6⟩ => ⟨x1, x2, nx, bf, se, ta, x3, x4, SlV.le x5 hle, SlV.le x6 hle⟩)⟩)
   (by
    rintro v s hr ⟨p1, l1, c1, p2, l2, c2, e, rfl, q1⟩
    refine ⟨p1, l1, c1, p2, l2, c2, e, rfl, q1.imp id fun ⟨x1, x2, nx, bf, se, ta, x3, x4, x5, x6⟩ => ⟨x1, x2, nx, bf, se, ta, x3, x4, ?_⟩⟩
    cases p1 with
    | none => cases p2 with
     | none => exact ⟨zGK x5, zGK x6⟩
     | some a => exact Bool.noConfusion (show false = true from hr)
    | some a => cases p2 <;> exact Bool.noConfusion (show false = true from hr))
  exact ⟨p1, l1, c1, p2, l2, c2, e, σ', h1, h2, h3⟩
 obtain ⟨σ1, hσ1⟩ : ∃ σ1, σ1 = σ.re.row (yB t pe le ce pt lt ct) 4 := ⟨_, rfl⟩
 have n1 : New σ.re σ1 := by rw [hσ1]; exact New.row _ _ _
 have ot : Own σ1 σ.next (yB t pe le ce pt lt ct) 4 := by rw [hσ1]; exact zC _ _ _
 have h1 : TabP σ1 pe le pt lt t := (h.le' (le0 σ)).le' n1.le
 have ck := check_c (ce := ce) (ct := ct) h1 hle (by omega) hr
 by_cases hz : vS t = 0
 rotate_left
 ·subst hσ1
  exact Cover_ra ck ⟨n1, _, _, _, _, _, _, _, rfl, .inl ⟨hz, rfl, rfl, rfl⟩⟩ hz
 rw [hz] at ck
 have hv := valid_of hz
 have hnt : t.nt = lt := h.len
 have hn12 : lt ≤ 12 := by
  have hz' := hz
  unfold vS at hz'
  by_cases h12 : 12 < t.nt
  ·rw [if_pos h12] at hz'; cases hz'
  ·omega
 obtain ⟨bm, σ4, bn, bb, pf, cf, cn, cb, nx, bf, c4, n4, M, B⟩ := match_c (ce := ce) (ct := ct) h1 hv hn12 (S := fun _ => true)
 have N4 : New σ.re σ4 := n1.trans n4
 obtain ⟨σA, hσA⟩ : ∃ σA, σA = (((((σ4.row [.pointer none] 1).own σ4.next [.pointer (some ⟨bm, 0, none⟩)] 1).row (yL 12 fun _ => false) 1).row (yL 12 fun _ => false) 1).row [.nilFunc] 1).own (σ4.next + 3) [.func (.func 69) ⟨[]⟩ ⟨[.pointer (some ⟨σ4.next + 1, 0, none⟩), .pointer (some ⟨σ4.next, 0, none⟩), .pointer (some ⟨σ4.next + 2, 0, none⟩), .pointer (some ⟨σ4.next + 3, 0, none⟩)]⟩] 1 := ⟨_, rfl⟩
 obtain ⟨NA, oP, oS, oT, oW⟩ := cover_lay σA hσA
 have NN : New σ.re σA := N4.trans NA
 obtain ⟨K, hK⟩ : ∃ K : CK, K = ⟨σ4, σ4.next, σ4.next + 1, σ4.next + 2, σ4.next + 3, bm⟩ := ⟨_, rfl⟩
 have ok : K.Ok := by subst hK; exact ⟨Nat.le_refl _, by show σ4.next < σ4.next + 1; omega, by show σ4.next + 1 < σ4.next + 2; omega, by show σ4.next + 2 < σ4.next + 3; omega⟩
 have W0 : Wc K σA (fun _ => false) (fun _ => false) := by subst hK; exact ⟨NA.le, oP, oS, oT, oW⟩
 have hKσ : K.σf = σ4 := by rw [hK]
 have hKm : K.bm = bm := by rw [hK]
 have hKs : K.Bs = σ4.next + 1 := by rw [hK]
 have hKt : K.Bt = σ4.next + 2 := by rw [hK]
 have hKw : K.Bw = σ4.next + 3 := by rw [hK]
 have hKW : ∀ b, K.W b → σ.next ≤ b := by
  have := N4.nx
  rintro b (e | e)
  ·rw [hKs] at e; show σ.re.next ≤ b; omega
  ·rw [hKt] at e; show σ.re.next ≤ b; omega
 have M' : MatchP K.σf K.bm bn bb t pe le ce pt lt ct pf cf cn cb nx bf := by rw [hKσ, hKm]; exact M
 have hL : Cover_L1 σ.next (σ4.next + 1) (σ4.next + 2) (σ4.next + 3) (some ⟨bn, 0, none⟩) lt cn 0 σA (fun τ => New σ.re τ ∧ ∃ se ta, Wc K τ se ta ∧ WAll lt (EdS t fun _ => true) nx bf lt se ta) := by
  refine Cover_loop1 (Inv := fun k i τ => ∃ s : Nat, i = s ∧ s + k = lt ∧ New σ.re τ ∧ ∃ se ta, Wc K τ se ta ∧ WAll lt (EdS t fun _ => true) nx bf s se ta) ?_ lt 0 σA ⟨0, rfl, by omega, NN, _, _, W0, WAll.start⟩
  rintro k i τ ⟨s, rfl, hk, hn, se, ta, w, wa⟩
  by_cases hs : s < lt
  rotate_left
  ·have : s = lt := by omega
   subst this
   exact Cover_s1d ⟨hn, se, ta, w, wa⟩ (by omega)
  have hle4 : Le σ4 τ := by have := w.le; rw [hKσ] at this; exact this
  have ldn := ldV (M.on.le hle4) (P := Pg) (t := 3) yD hs
  by_cases hx : nx s = -1
  rotate_left
  ·exact Cover_s1c ldn ⟨k - 1, by omega, s + 1, by omega, by omega, hn, se, ta, w, wa.skip (.inl hx)⟩ (by omega) (by omega) hx (by omega)
  have lS := zEC w.os (P := Pg) (t := 4) (i := s) agg4 (by omega)
  rw [hKs] at lS
  cases hS : se s with
  | true =>
   rw [hS] at lS
   exact Cover_s1a ldn (by simpa [zH] using lS) ⟨k - 1, by omega, s + 1, by omega, by omega, hn, se, ta, w, wa.skip (.inr hS)⟩ (by omega) (by omega) hx (by omega) (by omega)
  | false =>
   rw [hS] at lS
   have lw := w.ow.ldI (P := Pg) (t := 108) (i := 0) agg108 rfl
   rw [hKw] at lw
   obtain ⟨z', se', ta', hc, k5, w5, q⟩ := walk_c ok M' B.mt hn12 lt τ s se ta cntN_le_nn w hs hS
   exact Cover_s1b ldn (by simpa [zH] using lS) lw hc ⟨k - 1, by omega, s + 1, by omega, by omega, hn.of_only k5 hKW, se', ta', w5, wa.step hs hx hS q⟩ (by omega) (by omega) hx (by omega) (by omega)
 have q5 : (yB t pe le ce pt lt ct ++ [.slice pf lt cf, .slice (some ⟨bn, 0, none⟩) lt cn, .slice (some ⟨bb, 0, none⟩) lt cb])[5]? = some (.slice (some ⟨bn, 0, none⟩) lt cn) := rfl
 have l8 := (M.om.le NA.le).ldI (P := Pg) (t := 41) (i := 5) zBU q5
 have hend : ∀ τ, (New σ.re τ ∧ ∃ se ta, Wc K τ se ta ∧ WAll lt (EdS t fun _ => true) nx bf lt se ta) → Cover_K1_0 σ.next (σ4.next + 1) (σ4.next + 2) (σ4.next + 3) (some ⟨bn, 0, none⟩) lt cn τ (fun v s => New σ.re s ∧ ∃ p1 l1 c1 p2 l2 c2 e, v = .tuple ⟨[.slice p1 l1 c1, .slice p2 l2 c2, iV e]⟩ ∧ ((vS t ≠ 0 ∧ e = vS t ∧ l1 = 0 ∧ l2 = 0) ∨ (vS t = 0 ∧ e = 0 ∧ ∃ nx bf se ta, BestTo lt (EdS t fun _ => true) (fun _ => true) lt nx bf ∧ WAll lt (EdS t fun _ => true) nx bf lt se ta ∧
   yU s p1 l1 (vH ((List.range lt).filter fun i => !se i)) ∧ yU s p2 l2 (vH ((List.range lt).filter ta))))) := by
  rintro τ ⟨hn, se, ta, w, wa⟩
  have ld32 : zB Pg τ 32 ⟨σ.next, 3, none⟩ = some (.slice pt lt ct) := by
   have hle4 : Le σ4 τ := by have := w.le; rw [hKσ] at this; exact this
   exact ((ot.le n4.le).le hle4).ldI (i := 3) zEB rfl
  refine Cover_t1x0a (P2 := fun p2 l2 c2 p3 l3 c3 z => New τ z ∧ yU z p2 l2 (vH ((List.range lt).filter fun i => !se i)) ∧ yU z p3 l3 (vH ((List.range lt).filter ta))) ld32
   (Cover_loop2 (Inv := fun k p2 l2 c2 p3 l3 c3 i z => ∃ s : Nat, i = s ∧ s + k = lt ∧ New τ z ∧ l2 ≤ s ∧ l3 ≤ s ∧ Gr Pg z τ.next 3 1 p2 l2 c2 ((vH ((List.range s).filter fun i => !se i)).map wM) ∧ Gr Pg z τ.next 3 1 p3 l3 c3 ((vH ((List.range s).filter ta)).map wM) ∧ ∀ b, AtP p2 b → ¬ AtP p3 b) ?_ lt none 0 0 none 0 0 0 τ ⟨0, rfl, by omega, New.refl _, Nat.le_refl _, Nat.le_refl _, Gr.nil, Gr.nil, fun b hb => (AtP.none hb).elim⟩) ?_
  ·rintro k p2 l2 c2 p3 l3 c3 i z ⟨s, rfl, hk, hN, h2, h3, ga, gb, hd⟩
   by_cases hs : s < lt
   rotate_left
   ·have : s = lt := by omega
    subst this
    refine Cover_s2e ⟨hN, ?_, ?_⟩ (by omega)
    ·exact ga.slv
    ·exact gb.slv
   have lS : ∀ z', Le τ z' → zB Pg z' 4 ⟨σ4.next + 1, 0 + Int.toNat (s : Int) * 1, none⟩ = some (.bool (se s)) := fun z' hl => by
    have := zEC (w.os.le hl) (P := Pg) (t := 4) (i := s) agg4 (by omega)
    rw [hKs] at this; simpa [zH] using this
   have lT : ∀ z', Le τ z' → zB Pg z' 4 ⟨σ4.next + 2, 0 + Int.toNat (s : Int) * 1, none⟩ = some (.bool (ta s)) := fun z' hl => by
    have := zEC (w.ot.le hl) (P := Pg) (t := 4) (i := s) agg4 (by omega)
    rw [hKt] at this; simpa [zH] using this
   have eS : ∀ b, (!se s) = b → ((List.range (s + 1)).filter fun i => !se i) = ((List.range s).filter fun i => !se i) ++ if b = true then [s] else [] := fun b hb => by rw [zDG, hb]
   have eT : ∀ b, ta s = b → (List.range (s + 1)).filter ta = (List.range s).filter ta ++ if b = true then [s] else [] := fun b hb => by rw [zDG, hb]
   have lSz := lS z hN.le
   cases hS : se s with
   | true =>
    rw [hS] at lSz
    have eS' := eS false (by rw [hS]; rfl)
    simp at eS'
    have lTz := lT z hN.le
    cases hT : ta s with
    | true =>
     rw [hT] at lTz
     have eT' := eT true hT
     simp at eT'
     obtain ⟨p', c', z', g1, g2, g3, g4, g5⟩ := two_grow (s : Int) hN gb ga (fun b hb hb' => hd b hb' hb) (by omega)
     exact Cover_s2a lSz lTz g1 ⟨k - 1, by omega, s + 1, by omega, by omega, g2, by omega, by omega, by rw [eS']; exact g4, by rw [eT']; simpa [vH] using g3, fun b hb hb' => g5 b hb' hb⟩ (by omega) (by omega) (by omega)
    | false =>
     rw [hT] at lTz
     have eT' := eT false hT
     simp at eT'
     exact Cover_s2b lSz lTz ⟨k - 1, by omega, s + 1, by omega, by omega, hN, by omega, by omega, by rw [eS']; exact ga, by rw [eT']; exact gb, hd⟩ (by omega) (by omega) (by omega)
   | false =>
    rw [hS] at lSz
    have eS' := eS true (by rw [hS]; rfl)
    simp at eS'
    obtain ⟨p', c', z', g1, g2, g3, g4, g5⟩ := two_grow (s : Int) hN ga gb hd (by omega)
    have lTz := lT z' g2.le
    cases hT : ta s with
    | true =>
     rw [hT] at lTz
     have eT' := eT true hT
     simp at eT'
     obtain ⟨p'', c'', z'', f1, f2, f3, f4, f5⟩ := two_grow (s : Int) g2 g4 g3 (fun b hb hb' => g5 b hb' hb) (by omega)
     exact Cover_s2c lSz g1 lTz f1 ⟨k - 1, by omega, s + 1, by omega, by omega, f2, by omega, by omega, by rw [eS']; simpa [vH] using f4, by rw [eT']; simpa [vH] using f3, fun b hb hb' => f5 b hb' hb⟩ (by omega) (by omega) (by omega)
    | false =>
     rw [hT] at lTz
     have eT' := eT false hT
     simp at eT'
     exact Cover_s2d lSz g1 lTz ⟨k - 1, by omega, s + 1, by omega, by omega, g2, by omega, by omega, by rw [eS']; simpa [vH] using g3, by rw [eT']; exact g4, g5⟩ (by omega) (by omega) (by omega)
  ·rintro p2 l2 c2 p3 l3 c3 z ⟨hN, i1, i2⟩
   exact Cover_t2x2a ⟨hn.trans hN, _, _, _, _, _, _, _, rfl, .inr ⟨hz, rfl, nx, bf, se, ta, B, wa, i1, i2⟩⟩
 have L4 : Le σ1 σ4 := n4.le
 have ot4 := ot.le L4
 have A34 : ∀ z, Le σ4 z → (((⟨σ.next, 0, none⟩ : Addr).block < z.next ∧ zJ RD (.agg ⟨yB t pe le ce pt lt ct⟩) = true) ∧ zB Pg z 34 ⟨σ.next, 0, none⟩ = some (.agg ⟨yB t pe le ce pt lt ct⟩)) := fun z hl => ⟨⟨(ot4.le hl).lt, rfl⟩, (ot4.le hl).ldN wB yY (k := 0) rfl rfl (by simp)⟩
 have hbm := M.om.lt
 have bl : zI σ1.next [.agg ⟨yB t pe le ce pt lt ct⟩, .agg ⟨yL 12 fun _ => true⟩] := zF (zBX (fun a e => h1.em.ltb a e) (fun a e => uI h1.tr a e)) (zF (by kernel_rfl) zG)
 have bl2 : zI (σ4.row [.pointer none] 1).next [.pointer (some ⟨σ4.next, 0, none⟩), .pointer (some ⟨bm, 0, none⟩)] := zF (zM (by show σ4.next < σ4.next + 1; omega)) (zF (zM (by show bm < σ4.next + 1; omega)) zG)
 have l8' : zB Pg σA 41 (zH ⟨bm, 0, none⟩ 5) = some (.slice (some ⟨bn, 0, none⟩) lt cn) := by simpa [zH] using l8
 subst hσ1
 subst hσA
 exact Cover_rb (a3 := ⟨bm, 0, none⟩) ck every_c c4 bl bl2 (A34 _ (Le.refl _)) (A34 _ (Le.row _ _ _)) l8' hL hend
end
end Go.Proofs.Ytmdopblmkkameaa
