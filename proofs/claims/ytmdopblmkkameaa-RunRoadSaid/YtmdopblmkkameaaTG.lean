
import Derived.Test.YtmdopblmkkameaaTD
import Derived.Test.YtmdopblmkkameaaTF
import Derived.Test.YtmdopblmkkameaaRV
namespace Go.Proofs.Ytmdopblmkkameaa
open Go Go.Lay
open Try renaming prog → Pg
set_option linter.unusedVariables false
set_option linter.unusedSimpArgs false
set_option maxRecDepth 20000
theorem blkS_may {t : Tab} : ∀ (b D : List Int) (p : Option Int) (D' : List Int), blkS t D p b = some D' → (∀ x, b[0]? = some x → mayP t p x = true) ∧ ∀ (j : Nat) (x y : Int), b[j]? = some x → b[j + 1]? = some y → mayI t x.toNat y.toNat = true
 | [], _, _, _, _ => ⟨fun x h => (by cases h), fun j x y h _ => (by cases h)⟩
 | z :: zs, D, p, D', h => by
  unfold blkS at h
  by_cases hy : inB z 0 ((t.nt : Int) - 1) = true ∧ ¬ z ∈ D ∧ mayP t p z = true
  rotate_left
  ·rw [if_neg hy] at h; cases h
  rw [if_pos hy] at h
  obtain ⟨h1, h2⟩ := blkS_may zs _ _ _ h
  refine ⟨fun x hx => by simp at hx; subst hx; exact hy.2.2, fun j x y hx hy' => ?_⟩
  cases j with
  | zero =>
   simp at hx; subst hx
   have hy' : zs[0]? = some y := hy'
   exact h1 y hy'
  | succ j => exact h2 j x y hx hy'
theorem cutS_may {t : Tab} : ∀ (bs : List (List Int)) (D D' : List Int), cutS t D bs = some D' → ∀ b ∈ bs, ∀ (j : Nat) (x y : Int), b[j]? = some x → b[j + 1]? = some y → mayI t x.toNat y.toNat = true
 | [], _, _, _, b, hb => by cases hb
 | c :: cs, D, D', h, b, hb => by
  unfold cutS at h
  by_cases hc : c = []
  ·rw [if_pos hc] at h; cases h
  rw [if_neg hc] at h
  cases h1 : blkS t D none c with
  | none => rw [h1] at h; cases h
  | some D1 =>
   rw [h1] at h
   rcases List.mem_cons.1 hb with rfl | hb
   ·exact (blkS_may _ _ _ _ h1).2
   ·exact cutS_may cs _ _ h b hb
theorem cutB_may {t : Tab} {bs : List (List Int)} (h : cutB t bs = true) : ∀ b ∈ bs, ∀ (j : Nat) (x y : Int), b[j]? = some x → b[j + 1]? = some y → mayI t x.toNat y.toNat = true := by
 unfold cutB at h
 cases hc : cutS t [] bs with
 | none => rw [hc] at h; cases h
 | some D => exact cutS_may bs _ _ hc
theorem wt_pos {t : Tab} {ts : List Int} {a b : Nat} {x y : Trip} {n : Int} (hx : t.trips[a]? = some x) (hy : t.trips[b]? = some y) (hn : ts[a]? = some n) (hf : fitsB t ts = true) (hm : mayI t a b = true) : 0 ≤ wt t ts (a : Int) (b : Int) ∧ x.kind = y.kind := by
 rw [wt_eq hx hy hn]
 rw [mayI_eq hx hy] at hm
 unfold mayB at hm
 simp only [Bool.and_eq_true, decide_eq_true_eq] at hm
 unfold fitsB at hf
 simp only [Bool.and_eq_true, decide_eq_true_eq] at hf
 have ha : a < t.nt := (List.getElem?_eq_some_iff.1 hx).1
 have h2 := List.all_eq_true.1 hf.2 a (by simpa using ha)
 unfold fitI at h2
 rw [hx, hn] at h2
 have := inB_iff.1 h2
 exact ⟨by omega, hm.1⟩
section
variable {σ : St} {t : Tab} {pe pt : Option Addr} {le ce lt ct : Nat}
theorem road_rows {blocks words : Option Addr} {zBl zBc words_l words_c B1 B2 i lc cc cq : Nat} {pc pq : Option Addr} {bs : List (List Int)} {ts : List Int} {τ : St} (hi : i < 2) (hR : RefP τ pe le pt lt t) (hv : Valid t) (hlc : lc ≤ 100000) (hr : ∀ r ∈ bs, r.length ≤ 100000)
  (l23 : loadA Pg τ 23 ⟨B1, 3, none⟩ = some (.slice pt lt ct)) (l22 : loadA Pg τ 22 ⟨B2, 0 + Int.toNat (i : Int) * 1, none⟩ = some (.slice pc lc cc)) (W : RowsP τ pq lc (waL t ts bs)) (C : RowsP τ pc lc bs) (hc : cutB t bs = true) (hf : fitsB t ts = true) :
  lRoad_L2 blocks zBl zBc words words_l words_c B1 B2 (i : Int) pq lc cq 0 τ (fun _ _ => False) (fun z => z = τ) := by
 have hnt : t.nt = lt := hR.len
 have hin := cutB_in hc
 have hmay := cutB_may hc
 have hfl := (fits_at hv hf).1
 refine lRoad_loop2 (Inv := fun k n z => ∃ s : Nat, n = s ∧ s + k = lc ∧ z = τ) ?_ lc 0 τ ⟨0, rfl, by omega, rfl⟩
 rintro k n z ⟨s, rfl, hk, hz⟩
 subst hz
 by_cases hs : s < lc
 rotate_left
 ·exact lRoad_s2c rfl (by omega)
 obtain ⟨a, rfl, r1, q1, d1, hr1, hd1, hi1⟩ := W.row hs
 obtain ⟨b, rfl, r, q2, d2, hr2, hd2, hi2⟩ := C.row hs
 have er : r1 = wI t ts r (r.length - 1) := by
  rw [List.getElem?_map, hr2] at hr1
  exact (Option.some.inj hr1).symm
 subst er
 rw [wI_len] at hd1 hi1
 have hrm := List.mem_of_getElem? hr2
 obtain ⟨hne, hrin⟩ := hin r hrm
 have hrl : 0 < r.length := List.length_pos_iff.2 hne
 have hr1 := hr r hrm
 refine lRoad_s2b (Pr := fun _ _ => False) (P4 := fun z' => z' = z) (hd1 _ (Le.refl _)) l22 (hd2 _ (Le.refl _)) ?_ (fun b z' h => h.elim) (fun z' h => lRoad_t3x4a ⟨k - 1, by omega, s + 1, by omega, by omega, h⟩) (by omega) (by omega) (by omega) (by omega) (by omega)
 refine lRoad_loop3 (Inv := fun m j z' => ∃ u : Nat, j = u ∧ u + m = r.length - 1 ∧ z' = z) ?_ (r.length - 1) 0 z ⟨0, rfl, by omega, rfl⟩
 rintro m j z' ⟨u, rfl, hm, hz'⟩
 subst hz'
 by_cases hu : u < r.length - 1
 rotate_left
 ·exact lRoad_s3d (hd1 _ (Le.refl _)) rfl (by omega) (by omega)
 obtain ⟨aq, rfl, v, hvw, ldv⟩ := slv_at hi1 hu
 obtain ⟨ar, rfl, v0, hv0, ld0⟩ := slv_at hi2 (i := u) (by omega)
 obtain ⟨_, e0, v1, hv1, ld1⟩ := slv_at hi2 (i := u + 1) (by omega)
 cases e0
 obtain ⟨h10, h11⟩ := hrin v1 (List.mem_of_getElem? hv1)
 obtain ⟨h00, h01⟩ := hrin v0 (List.mem_of_getElem? hv0)
 obtain ⟨x1, rfl⟩ : ∃ x1 : Nat, v1 = x1 := ⟨v1.toNat, by omega⟩
 obtain ⟨x0, rfl⟩ : ∃ x0 : Nat, v0 = x0 := ⟨v0.toNat, by omega⟩
 obtain ⟨at_, rfl, y, hy, _⟩ := slv_at hR.tr (i := x1) (by omega)
 obtain ⟨_, e0, x, hx, _⟩ := slv_at hR.tr (i := x0) (by omega)
 cases e0
 obtain ⟨n, hn⟩ : ∃ n, ts[x0]? = some n := ⟨ts[x0]'(by omega), by simp⟩
 have hm' := hmay r hrm u _ _ hv0 hv1
 rw [Int.toNat_natCast, Int.toNat_natCast] at hm'
 obtain ⟨hp, hkk⟩ := wt_pos hx hy hn hf hm'
 have ev : v = wt t ts (x0 : Int) (x1 : Int) := by
  unfold wI at hvw
  rw [List.getElem?_map, List.getElem?_range hu] at hvw
  simp only [Option.map_some, Option.some.injEq] at hvw
  rw [← hvw, getD_of hv0, getD_of hv1]
 have f5 : ∀ (w : Nat) (tr : Trip), t.trips[w]? = some tr → loadA Pg z' 3 (aadd at_ ((Int.toNat (w : Int) * 6) + 5)) = some (iV tr.kind) := fun w tr hw => by
  have := slv_fld (t' := 3) hR.tr (vs := t.trips.map tripV) (i := w) (k := 5) (cs := ints6 tr.fr tr.to tr.st tr.least tr.most tr.kind) (by rw [List.getElem?_map, hw]; rfl) rfl agg3
  simpa using this
 have ld1' : loadA Pg z' 3 (aadd ar (Int.toNat ((u : Int) + 1) * 1)) = some (iV (x1 : Int)) := ld1
 exact lRoad_s3c (hd1 _ (Le.refl _)) ldv l23 l22 (hd2 _ (Le.refl _)) ld0 (f5 x0 x hx) ld1' (f5 x1 y hy) ⟨m - 1, by omega, u + 1, by omega, by omega, rfl⟩ (by omega) (by omega) (by omega) (by rw [ev]; omega) (by omega) (by omega) (by omega) (by omega) (by omega) (by omega) (by omega) hkk
theorem road_play {pc pw : Option Addr} {lc cc lw cw : Nat} {bs : List (List Int)} {ws : List Int} {τ : St} (hR : RefP τ pe le pt lt t) (hv : Valid t) (hth : ThinT t le lt) (C : RowsP τ pc lc bs) (W : WordsP τ pw lw ws) (hb : ∀ x ∈ ws, 0 ≤ x ∧ x ≤ 65535) (hlc : lc ≤ 100000) (hr : ∀ r ∈ bs, r.length ≤ 100000) :
  ∃ p5 c5 q6 d6 za p11 c11 zb p17 c17 zc ts p19 l19 c19 e zd, CallsA Pg 19 [.agg ⟨tabL t pe le ce pt lt ct⟩] τ (.agg ⟨tabL t p5 le c5 q6 lt d6⟩) za ∧ CallsA Pg 21 [.slice pc lc cc] za (.slice p11 lc c11) zb ∧ CallsA Pg 42 [.agg ⟨tabL t pe le ce pt lt ct⟩, .slice pw lw cw] zb (.slice p17 lt c17) zc ∧
   CallsA Pg 39 [.agg ⟨tabL t p5 le c5 q6 lt d6⟩, .slice p11 lc c11, .slice p17 lt c17] zc (.tuple ⟨[.slice p19 l19 c19, iV e]⟩) zd ∧ New τ za ∧ New za zb ∧ New zb zc ∧ New zc zd ∧ belowL zc.next [.agg ⟨tabL t p5 le c5 q6 lt d6⟩, .slice p11 lc c11, .slice p17 lt c17] ∧ fitsB t ts = true ∧
   ((cutB t bs = false ∧ e = 2 ∧ l19 = 0) ∨ (cutB t bs = true ∧ e = 0 ∧ l19 = lc ∧ RowsP zd p19 lc (waL t ts bs))) := by
 have bE : ∀ r ∈ t.empty, r.length ≤ 1073741824 := fun r hr => by have := hth.r r hr; omega
 have bl := hth.e
 have bn := hth.n
 obtain ⟨p5, c5, q6, d6, za, k1, na, ga⟩ := table_c (ce := ce) (ct := ct) hR (by omega) (by omega) bE
 obtain ⟨p11, c11, zb, k2, nb, gb⟩ := rowsA_c (c := cc) (C.le na.le) hlc (fun r h => by have := hr r h; omega)
 have Mb := na.trans nb
 obtain ⟨p17, c17, zc, ts, k3, nc, gc, hf⟩ := picked_c (ce := ce) (ct := ct) (cw := cw) (hR.le' Mb.le) hv (SlV.le W Mb.le) hb (by omega)
 obtain ⟨p19, l19, c19, e, zd, k4, nd, hP⟩ := Play_c (ce := c5) (ct := d6) (cw := c17) ((ga.le' nb.le).le' nc.le) (by omega) (by omega) bE (gb.leT nc.le) hlc hr gc (by omega)
 have T := (ga.le' nb.le).le' nc.le
 refine ⟨p5, c5, q6, d6, za, p11, c11, zb, p17, c17, zc, ts, p19, l19, c19, e, zd, k1, k2, k3, k4, na, nb, nc, nd, belowL_cons (belowB_tab (fun a e => T.em.ltb a e) (fun a e => slv_lt T.tr a e)) (belowL_cons (belowB_sl fun a e => by obtain ⟨vs, g1, _⟩ := gb.p.le nc.le; exact slv_lt g1 a e) (belowL_cons (belowB_sl fun a e => slv_lt gc a e) belowL_nil)), hf, ?_⟩
 rcases hP with ⟨hz, _, _⟩ | ⟨_, h1, h2, h3⟩ | ⟨_, h1, h2, h3, h4⟩
 ·exact absurd hv.check hz
 ·rw [hf, Bool.and_true] at h1; exact .inl ⟨h1, h2, h3⟩
 ·rw [hf, Bool.and_true] at h1; exact .inr ⟨h1, h2, h3, h4.p⟩
theorem lRoad_top {pb pw : Option Addr} {lb cb lw cw : Nat} {bs : List (List Int)} {ws : List Int} (h : RefP σ pe le pt lt t) (hb : RowsP σ pb lb bs) (hw : WordsP σ pw lw ws ∧ ∀ x ∈ ws, 0 ≤ x ∧ x ≤ 65535) : TopQ Pg 17 11 [.agg ⟨tabL t pe le ce pt lt ct⟩, .slice pb lb cb, .slice pw lw cw] σ fun v _ => v = .bool true := by
 have hnt : t.nt = lt := h.len
 obtain ⟨σ1, hσ1⟩ : ∃ σ1, σ1 = σ.row (tabL t pe le ce pt lt ct) 4 := ⟨_, rfl⟩
 have n1 : New σ σ1 := by rw [hσ1]; exact New.row _ _ _
 have o1 : Own σ1 σ.next (tabL t pe le ce pt lt ct) 4 := by rw [hσ1]; exact own_new _ _ _
 have R1 := h.le' n1.le
 have B1 := hb.le n1.le
 rcases lready_c (ce := ce) (ct := ct) R1 with c0 | ⟨hth, hv, c0⟩
 ·exact lRoad_re (by rw [← hσ1]; exact c0) rfl
 rcases short_cases (c := cb) B1 with c1 | ⟨hlb, hrb, c1⟩
 ·exact lRoad_rd (by rw [← hσ1]; exact c0) (by rw [← hσ1]; exact c1) rfl
 have bE : ∀ r ∈ t.empty, r.length ≤ 1073741824 := fun r hr => by have := hth.r r hr; omega
 have bl := hth.e
 have bn := hth.n
 have hz : checkZ t = 0 := hv.check
 obtain ⟨p3, c3, q4, d4, σ7, k3, n7, g7⟩ := table_c (ce := ce) (ct := ct) R1 (by omega) (by omega) bE
 obtain ⟨p8, l8, c8, e9, σ10, k4, n10, hC⟩ := Cut_c (ce := c3) (ct := d4) g7 (by omega) (by omega) bE
 have M10 := n7.trans n10
 obtain ⟨p15, c15, q16, d16, σ19, k6, n19, g19⟩ := table_c (ce := ce) (ct := ct) (R1.le' M10.le) (by omega) (by omega) bE
 have M19 := M10.trans n19
 rcases hC with ⟨hz', _, _⟩ | ⟨_, rfl, nx, bf, Bm, rfl, hF⟩
 ·exact absurd hz hz'
 have hFr : ∀ r ∈ blkI t lt nx bf, r.length ≤ 100000 := blkI_short hv
 have hcn := cntN_le (n := lt) (P := hasB bf) (Q := fun _ => true) (fun _ _ _ => rfl)
 obtain ⟨p20, c20, σ21, k7, n21, g21⟩ := rowsF_c (c := c8) (hF.p.le n19.le) (by omega) (fun r hr => by have := hFr r hr; omega)
 have M21 := M19.trans n21
 have hcB : cutB t (blkI t lt nx bf) = true := cut_blk hv Bm.mt hnt (fun _ _ h => h)
 have k8 := ProveCut_c (ce := c15) (ct := d16) (cb := c20) (g19.le' n21.le) (by omega) (by omega) bE g21.p (by omega) hFr
 rw [decide_eq_true hz, hcB] at k8
 have k8 : CallsA Pg 20 [.agg ⟨tabL t p15 le c15 q16 lt d16⟩, .slice p20 (lt - cntN lt (hasB bf)) c20] σ21 (.bool true) σ21 := k8
 have ldT : ∀ τ, Le σ1 τ → loadA Pg τ 25 ⟨σ.next, 0, none⟩ = some (.agg ⟨tabL t pe le ce pt lt ct⟩) := fun τ hn => (o1.le hn).ldN agg25 size25 (k := 0) rfl rfl (by simp)
 have ld23 : ∀ τ, Le σ1 τ → loadA Pg τ 23 ⟨σ.next, 3, none⟩ = some (.slice pt lt ct) := fun τ hn => (o1.le hn).ldI (i := 3) agg23 rfl
 obtain ⟨σ22, hσ22⟩ : ∃ σ22, σ22 = (σ21.row [.slice none 0 0, .slice none 0 0] 1).own σ21.next [.slice p8 (lt - cntN lt (hasB bf)) c8, .slice pb lb cb] 1 := ⟨_, rfl⟩
 have n22 : New σ21 σ22 := by rw [hσ22]; exact (New.row _ _ _).own (Nat.le_refl _)
 have o22 : Own σ22 σ21.next [.slice p8 (lt - cntN lt (hasB bf)) c8, .slice pb lb cb] 1 := by rw [hσ22]; exact (own_new _ _ _).put
 have M22 := M21.trans n22
 have L22 := M22.le
 have hrb' : ∀ r ∈ bs, r.length ≤ 100000 := fun r hr => by have := hrb r hr; omega
 have bo : ∀ τ, Le σ1 τ → σ.next < τ.next := fun τ hl => (o1.le hl).lt
 have bo2 : ∀ τ, Le σ22 τ → σ21.next < τ.next := fun τ hl => (o22.le hl).lt
 have bt : ∀ τ, Le σ1 τ → belowB RD τ.next (.agg ⟨tabL t pe le ce pt lt ct⟩) = true := fun τ hl => belowB_tab (fun a e => (R1.le' hl).em.ltb a e) (fun a e => slv_lt (R1.le' hl).tr a e)
 have C8 : RowsP σ22 p8 (lt - cntN lt (hasB bf)) (blkI t lt nx bf) := hF.p.le ((n19.trans n21).trans n22).le
 have Cb : RowsP σ22 pb lb bs := B1.le L22
 have W22 : WordsP σ22 pw lw ws := SlV.le (SlV.le hw.1 n1.le) L22
 have hL : lRoad_L1 pb lb cb pw lw cw σ.next σ21.next 0 σ22 (fun b _ => b = true) (fun _ => True) := by
  refine lRoad_loop1 (Inv := fun k i τ => ∃ s : Nat, i = s ∧ s + k = 2 ∧ Le σ22 τ) ?_ 2 0 σ22 ⟨0, rfl, by omega, Le.refl _⟩
  rintro k i τ ⟨s, rfl, hk, hle⟩
  by_cases hs : s < 2
  rotate_left
  ·exact lRoad_s1i trivial (by omega)
  have L1 := L22.trans hle
  by_cases hs0 : s = 0
  ·subst hs0
   obtain ⟨p5, c5, q6, d6, za, p11, c11, zb, p17, c17, zc, ts, p19, l19, c19, e, zd, a1, a2, a3, a4, na, nb, nc, nd, hbl, hf, hP⟩ := road_play (ce := ce) (ct := ct) (cc := c8) (cw := cw) (R1.le' L1) hv hth (C8.le hle) (SlV.le W22 hle) hw.2 (by omega) hFr
   have l22 : ∀ z, Le τ z → loadA Pg z 22 ⟨σ21.next, 0 + Int.toNat ((0 : Nat) : Int) * 1, none⟩ = some (.slice p8 (lt - cntN lt (hasB bf)) c8) := fun z hz => ((o22.le hle).le hz).ldI (P := Pg) (t := 22) (i := 0) agg22 rfl
   have Mb := na.trans nb
   have Md := (Mb.trans nc).trans nd
   rcases hP with ⟨h1, _, _⟩ | ⟨_, rfl, rfl, hW⟩
   ·rw [hcB] at h1; cases h1
   have Ld : Le σ1 zd := L1.trans Md.le
   have hx1 := bo τ L1
   have hx2 := bo2 τ hle
   have hyb : ∀ a, p8 = some a → a.block < za.next := fun a e => by obtain ⟨vs, g1, _⟩ := C8.le (hle.trans na.le); exact slv_lt g1 a e
   have hww : ∀ a, pw = some a → a.block < zb.next := fun a e => slv_lt (SlV.le W22 (hle.trans Mb.le)) a e
   exact lRoad_s1h (Pr := fun _ _ => False) (P2 := fun z => z = zd) (ldT _ L1) a1 (l22 _ na.le) a2 (ldT _ (L1.trans Mb.le)) a3 a4 (belowL_cons (bt _ L1) belowL_nil) (belowL_cons (belowB_ptr (bo2 _ (hle.trans na.le))) belowL_nil) (belowL_cons (belowB_sl hyb) belowL_nil) (belowL_cons (belowB_ptr (bo _ (L1.trans Mb.le))) belowL_nil) (belowL_cons (bt _ (L1.trans Mb.le)) (belowL_cons (belowB_sl hww) belowL_nil)) hbl (l22 _ (Le.refl _)) ⟨⟨bo2 _ (hle.trans na.le), rfl⟩, l22 _ na.le⟩ (ldT _ L1) ⟨⟨bo _ (L1.trans na.le), rfl⟩, ldT _ (L1.trans na.le)⟩ ⟨⟨bo _ (L1.trans Mb.le), rfl⟩, ldT _ (L1.trans Mb.le)⟩ (l22 _ Md.le)
    (road_rows (pe := pe) (le := le) (ct := ct) (lt := lt) (pt := pt) (t := t) (by omega) (R1.le' Ld) hv (by omega) hFr (ld23 _ Ld) (l22 _ Md.le) hW (C8.le (hle.trans Md.le)) hcB hf) (fun b z h => h.elim) (fun z h => lRoad_t2x2a ⟨k - 1, by omega, 0 + 1, by omega, by omega, by rw [h]; exact hle.trans Md.le⟩) (by omega) (by omega) (by omega) (by omega) (by omega) (by omega) (by omega)
  ·have e1 : s = 1 := by omega
   subst e1
   obtain ⟨p5, c5, q6, d6, za, p11, c11, zb, p17, c17, zc, ts, p19, l19, c19, e, zd, a1, a2, a3, a4, na, nb, nc, nd, hbl, hf, hP⟩ := road_play (ce := ce) (ct := ct) (cc := cb) (cw := cw) (R1.le' L1) hv hth (Cb.le hle) (SlV.le W22 hle) hw.2 (by omega) hrb'
   have l22 : ∀ z, Le τ z → loadA Pg z 22 ⟨σ21.next, 0 + Int.toNat ((1 : Nat) : Int) * 1, none⟩ = some (.slice pb lb cb) := fun z hz => ((o22.le hle).le hz).ldI (P := Pg) (t := 22) (i := 1) agg22 rfl
   have Mb := na.trans nb
   have Md := (Mb.trans nc).trans nd
   have Ld : Le σ1 zd := L1.trans Md.le
   have hx1 := bo τ L1
   have hx2 := bo2 τ hle
   have hyb : ∀ a, pb = some a → a.block < za.next := fun a e => by obtain ⟨vs, g1, _⟩ := Cb.le (hle.trans na.le); exact slv_lt g1 a e
   have hww : ∀ a, pw = some a → a.block < zb.next := fun a e => slv_lt (SlV.le W22 (hle.trans Mb.le)) a e
   obtain ⟨p26, c26, q27, d27, ze, a5, ne, ge⟩ := table_c (ce := ce) (ct := ct) (R1.le' Ld) (by omega) (by omega) bE
   obtain ⟨p31, c31, zf, a6, nf, gf⟩ := rowsF_c (c := cb) (Cb.le ((hle.trans Md.le).trans ne.le)) (by omega) (fun r hr => by have := hrb r hr; omega)
   have a7 := ProveCut_c (ce := c26) (ct := d27) (cb := c31) (ge.le' nf.le) (by omega) (by omega) bE gf.p (by omega) hrb'
   rw [decide_eq_true hz, Bool.true_and] at a7
   have Mf := (Md.trans ne).trans nf
   rcases hP with ⟨h1, rfl, rfl⟩ | ⟨h1, rfl, rfl, hW⟩
   ·rw [h1] at a7
    exact lRoad_s1d (ldT _ L1) a1 (l22 _ na.le) a2 (ldT _ (L1.trans Mb.le)) a3 a4 (belowL_cons (bt _ L1) belowL_nil) (belowL_cons (belowB_ptr (bo2 _ (hle.trans na.le))) belowL_nil) (belowL_cons (belowB_sl hyb) belowL_nil) (belowL_cons (belowB_ptr (bo _ (L1.trans Mb.le))) belowL_nil) (belowL_cons (bt _ (L1.trans Mb.le)) (belowL_cons (belowB_sl hww) belowL_nil)) hbl (l22 _ (Le.refl _)) ⟨⟨bo2 _ (hle.trans na.le), rfl⟩, l22 _ na.le⟩ (ldT _ L1) ⟨⟨bo _ (L1.trans na.le), rfl⟩, ldT _ (L1.trans na.le)⟩ ⟨⟨bo _ (L1.trans Mb.le), rfl⟩, ldT _ (L1.trans Mb.le)⟩ (ldT _ Ld) a5 a6 a7 rfl (by omega) (by omega) (by omega) (by omega) (by omega) (by omega)
   ·rw [h1] at a7
    have Lf := L1.trans Mf.le
    exact lRoad_s1c (Pr := fun _ _ => False) (P2 := fun z => z = zf) (ldT _ L1) a1 (l22 _ na.le) a2 (ldT _ (L1.trans Mb.le)) a3 a4 (belowL_cons (bt _ L1) belowL_nil) (belowL_cons (belowB_ptr (bo2 _ (hle.trans na.le))) belowL_nil) (belowL_cons (belowB_sl hyb) belowL_nil) (belowL_cons (belowB_ptr (bo _ (L1.trans Mb.le))) belowL_nil) (belowL_cons (bt _ (L1.trans Mb.le)) (belowL_cons (belowB_sl hww) belowL_nil)) hbl (l22 _ (Le.refl _)) ⟨⟨bo2 _ (hle.trans na.le), rfl⟩, l22 _ na.le⟩ (ldT _ L1) ⟨⟨bo _ (L1.trans na.le), rfl⟩, ldT _ (L1.trans na.le)⟩ ⟨⟨bo _ (L1.trans Mb.le), rfl⟩, ldT _ (L1.trans Mb.le)⟩ (ldT _ Ld) a5 a6 a7 (l22 _ Mf.le)
     (road_rows (pe := pe) (le := le) (ct := ct) (lt := lt) (pt := pt) (t := t) (by omega) (R1.le' Lf) hv (by omega) hrb' (ld23 _ Lf) (l22 _ Mf.le) (hW.le (ne.trans nf).le) (Cb.le (hle.trans Mf.le)) h1 hf) (fun b z h => h.elim) (fun z h => lRoad_t2x2a ⟨k - 1, by omega, 1 + 1, by omega, by omega, by rw [h]; exact hle.trans Mf.le⟩) (by omega) (by omega) (by omega) (by omega) (by omega) (by omega) (by omega)
 subst hσ1
 subst hσ22
 exact lRoad_rb c0 c1 k3 k4 (ldT _ M10.le) k6 k7 k8 hL (fun b τ h => lRoad_t1xra (by rw [h])) (fun τ _ => lRoad_t1x0a rfl)
end
end Go.Proofs.Ytmdopblmkkameaa
