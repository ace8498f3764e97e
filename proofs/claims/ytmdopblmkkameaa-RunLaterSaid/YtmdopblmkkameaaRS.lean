
import Derived.Test.YtmdopblmkkameaaRG
import Derived.Test.YtmdopblmkkameaaRQ
import Derived.Test.YtmdopblmkkameaaRR
import Derived.Test.YtmdopblmkkameaaXJ
namespace Go.Proofs.Ytmdopblmkkameaa
open Go Go.Lay
open Try renaming prog → Pg
set_option linter.unusedVariables false
set_option linter.unusedSimpArgs false
set_option maxRecDepth 20000
def shT (d : Int) (x : Trip) : Trip := ⟨x.fr, x.to, x.st + d, x.least, x.most, x.kind⟩
def latL (d : Int) (xs : List Trip) (i : Nat) : List Trip := (xs.take i).map (shT d) ++ xs.drop i
def latT (t : Tab) (d : Int) : Tab := ⟨t.places, t.layover, t.empty, t.trips.map (shT d)⟩
theorem latL_at {d : Int} {xs : List Trip} {i : Nat} {x : Trip} (h : xs[i]? = some x) : (latL d xs i)[i]? = some x := by
 have hi := (List.getElem?_eq_some_iff.1 h).1
 unfold latL
 rw [List.getElem?_append_right (by simp; omega)]
 simp only [List.length_map, List.length_take]
 rw [List.getElem?_drop, show i + (i - min i xs.length) = i by omega]; exact h
theorem latL_set {d : Int} {xs : List Trip} {i : Nat} {x : Trip} (h : xs[i]? = some x) : (latL d xs i).set i (shT d x) = latL d xs (i + 1) := by
 have hi := (List.getElem?_eq_some_iff.1 h).1
 unfold latL
 rw [take_snoc h, drop_at h, List.set_append_right _ _ (by simp; omega)]
 simp only [List.length_map, List.length_take]
 rw [show i - min i xs.length = 0 by omega]
 simp
theorem ref_cells (y : Trip) : (tripV y).cells.toList.length = 6 := rfl
theorem cells_ref (xs : List Trip) : (flat (xs.map tripV)).all cellB = true := by
 induction xs with
 | nil => rfl
 | cons x xs ih =>
  rw [List.map_cons, show (tripV x :: xs.map tripV) = [tripV x] ++ xs.map tripV from rfl, flat_append, List.all_append, ih]; rfl
section
variable {σ : St} {t : Tab} {pe pt : Option Addr} {le ce lt ct : Nat}
theorem appT_refs : AppT Pg 23 23 53 6 := appT_of (by kernel_rfl)
theorem elOk_trips (x : Trip) : elOk Pg 53 6 (tripV x) := .inr ⟨agg53, size53, _, rfl, rfl⟩
theorem own_trips {z : St} {b : Nat} {xs : List Trip} (o : Own z b (flat (xs.map tripV)) 6) : SlV Pg z 53 6 (some ⟨b, 0, none⟩) xs.length (xs.map tripV) :=
 ⟨⟨by rw [flat_cnt ref_cells], o.rw⟩, by simp, fun v hv => by obtain ⟨y, _, rfl⟩ := List.mem_map.1 hv; exact elOk_trips y⟩
theorem mayB_lat {d : Int} {a b : Trip} : mayB (latT t d) (shT d a) (shT d b) = mayB t a b := by
 unfold mayB shT
 show (decide (a.kind = b.kind) && decide (a.st + d + a.most + t.layover + emp t a.to.toNat b.fr.toNat ≤ b.st + d)) = _
 congr 1
 exact decide_eq_decide.2 (by omega)
theorem mayI_lat {d : Int} {i k : Nat} : mayI (latT t d) i k = mayI t i k := by
 unfold mayI
 have e : ∀ j : Nat, (latT t d).trips[j]? = (t.trips[j]?).map (shT d) := fun j => by show (t.trips.map (shT d))[j]? = _; rw [List.getElem?_map]
 rw [e i, e k]
 cases t.trips[i]? with
 | none => rfl
 | some a => cases t.trips[k]? with
  | none => rfl
  | some b => exact mayB_lat
theorem folL_lat {d : Int} {i n : Nat} : folL (latT t d) i n = folL t i n := by
 unfold folL
 congr 1
 funext k; exact mayI_lat
theorem lLater_top {by_ : Int} (h : RefP σ pe le pt lt t) (hby : 0 ≤ by_ ∧ by_ ≤ 65535) : TopQ Pg 17 7 [.agg ⟨tabL t pe le ce pt lt ct⟩, .int .u16 by_] σ fun v _ => v = .bool true := by
 obtain ⟨d, hd⟩ : ∃ d, d = Int.tmod by_ 500 := ⟨_, rfl⟩
 have hd0 : 0 ≤ d ∧ d < 500 := by
  rw [hd, Int.tmod_eq_emod_of_nonneg hby.1]; omega
 have hnt : t.nt = lt := h.len
 obtain ⟨σ1, hσ1⟩ : ∃ σ1, σ1 = σ.row (tabL t pe le ce pt lt ct) 4 := ⟨_, rfl⟩
 have n1 : New σ σ1 := by rw [hσ1]; exact New.row _ _ _
 have R1 := h.le' n1.le
 rcases lready_c (ce := ce) (ct := ct) R1 with c0 | ⟨hth, hv, c0⟩
 ·exact lLater_rb (by rw [← hσ1]; exact c0) rfl
 have bE : ∀ r ∈ t.empty, r.length ≤ 1073741824 := fun r hr => by have := hth.r r hr; omega
 have bl := hth.e
 have bn := hth.n
 obtain ⟨σ2, hσ2⟩ : ∃ σ2, σ2 = ((σ1.row [iV 0, iV 0, .slice none 0 0, .slice none 0 0] 4).own (σ.next + 1) (tabL t pe le ce pt lt ct) 4).row [] 6 := ⟨_, rfl⟩
 have nx1 : σ1.next = σ.next + 1 := by rw [hσ1]; rfl
 have N2 : New σ σ2 := by rw [hσ2]; exact ((n1.row').own (by omega)).row'
 have nx2 : σ2.next = σ.next + 3 := by rw [hσ2]; show σ1.next + 1 + 1 = _; omega
 have o1 : Own σ2 σ.next (tabL t pe le ce pt lt ct) 4 := by
  rw [hσ2, hσ1]
  exact (((own_new σ (tabL t pe le ce pt lt ct) 4).row).own (by omega)).row
 have ox : Own σ2 (σ.next + 1) (tabL t pe le ce pt lt ct) 4 := by
  rw [hσ2, ← nx1]
  exact (own_new σ1 [iV 0, iV 0, .slice none 0 0, .slice none 0 0] 4).put.row
 have oe : Own σ2 (σ.next + 2) [] 6 := by
  have e : ((σ1.row [iV 0, iV 0, .slice none 0 0, .slice none 0 0] 4).own (σ.next + 1) (tabL t pe le ce pt lt ct) 4).next = σ.next + 2 := by show σ1.next + 1 = _; omega
  rw [hσ2, ← e]; exact own_new _ _ _
 have R2 := h.le' N2.le
 obtain ⟨p3, c3, σ3, ap, hcase⟩ := copy_new (k := ct) (appT_refs) oe R2.tr.1 (by omega) (cells_ref _)
 obtain ⟨B, hp3, N3, oB, o13, ox3, hBb⟩ : ∃ B, p3 = some ⟨B, 0, none⟩ ∧ New σ2 σ3 ∧ Own σ3 B (flat (t.trips.map tripV)) 6 ∧ Own σ3 σ.next (tabL t pe le ce pt lt ct) 4 ∧ Own σ3 (σ.next + 1) (tabL t pe le ce pt lt ct) 4 ∧ σ.next + 2 ≤ B := by
  rcases hcase with ⟨h0, rfl, rfl⟩ | ⟨h0, rfl, rfl⟩
  ·refine ⟨_, rfl, New.refl _, ?_, o1, ox, Nat.le_refl _⟩
   have : t.trips = [] := List.eq_nil_of_length_eq_zero (by have : t.trips.length = lt := hnt; omega)
   rw [this]; exact oe
  ·exact ⟨_, rfl, New.row _ _ _, own_new _ _ _, o1.row, ox.row, by omega⟩
 subst hp3
 have st3 := ox3.store (P := Pg) (k := 3) (t := 23) (v := .slice (some ⟨B, 0, none⟩) lt c3) (vs := [.slice (some ⟨B, 0, none⟩) lt c3]) (ds := [iV t.places, iV t.layover, .slice pe le ce, .slice (some ⟨B, 0, none⟩) lt c3]) rfl size23 rfl (by simp) rfl
 obtain ⟨σ4, hσ4⟩ : ∃ σ4, σ4 = σ3.own (σ.next + 1) [iV t.places, iV t.layover, .slice pe le ce, .slice (some ⟨B, 0, none⟩) lt c3] 4 := ⟨_, rfl⟩
 have k4 : Only (· = σ.next + 1) σ3 σ4 := by rw [hσ4]; exact Only.own (.inr rfl)
 have N4 : New σ σ4 := (N2.trans N3).of_only k4 (by rintro b rfl; omega)
 have oB4 := k4.own' oB (by omega)
 have o14 := k4.own' o13 (by omega)
 have ox4 : Own σ4 (σ.next + 1) [iV t.places, iV t.layover, .slice pe le ce, .slice (some ⟨B, 0, none⟩) lt c3] 4 := by rw [hσ4]; exact ox3.put
 have hL1 : lLater_L1 by_ σ.next (σ.next + 1) 0 σ4 (fun τ => New σ τ ∧ Own τ σ.next (tabL t pe le ce pt lt ct) 4 ∧ Own τ (σ.next + 1) [iV t.places, iV t.layover, .slice pe le ce, .slice (some ⟨B, 0, none⟩) lt c3] 4 ∧ Own τ B (flat ((latT t d).trips.map tripV)) 6) := by
  refine lLater_loop1 (Inv := fun k i τ => ∃ s : Nat, i = s ∧ s + k = lt ∧ New σ τ ∧ Own τ σ.next (tabL t pe le ce pt lt ct) 4 ∧ Own τ (σ.next + 1) [iV t.places, iV t.layover, .slice pe le ce, .slice (some ⟨B, 0, none⟩) lt c3] 4 ∧ Own τ B (flat ((latL d t.trips s).map tripV)) 6) ?_ lt 0 σ4 ⟨0, rfl, by omega, N4, o14, ox4, by simpa [latL] using oB4⟩
  rintro k i τ ⟨s, rfl, hk, hN, w1, w2, w3⟩
  have ld : loadA Pg τ 23 ⟨σ.next + 1, 3, none⟩ = some (.slice (some ⟨B, 0, none⟩) lt c3) := w2.ldI (i := 3) agg23 rfl
  by_cases hs : s < lt
  rotate_left
  ·have : s = lt := by omega
   subst this
   refine lLater_s1b ld ⟨hN, w1, w2, ?_⟩ (by omega)
   have e : latL d t.trips s = (latT t d).trips := by
    have hl : t.trips.length = s := hnt
    unfold latL latT
    rw [List.take_of_length_le (by omega), List.drop_of_length_le (by omega), List.append_nil]
   rw [← e]; exact w3
  have hsl : s < t.trips.length := by have : t.trips.length = lt := hnt; omega
  have hx : t.trips[s]? = some t.trips[s] := List.getElem?_eq_getElem hsl
  obtain ⟨x, hx'⟩ : ∃ x, x = t.trips[s] := ⟨_, rfl⟩
  rw [← hx'] at hx
  have htv := hv.trip hx
  have hlx := latL_at (d := d) hx
  have hlen : (latL d t.trips s).length = lt := by unfold latL; simp; have : t.trips.length = lt := hnt; omega
  have hmul : s * 6 + 6 ≤ lt * 6 := by omega
  have hcnt := flat_cnt ref_cells (xs := latL d t.trips s)
  have ea : ∀ (j : Nat), aadd (⟨B, 0, none⟩ : Addr) ((Int.toNat (s : Int) * 6) + j) = ⟨B, s * 6 + j, none⟩ := fun j => by simp [aadd]
  have ld2 : loadA Pg τ 3 (aadd ⟨B, 0, none⟩ ((Int.toNat (s : Int) * 6) + 2)) = some (iV x.st) := by
   rw [ea]
   exact w3.ld rfl agg3 (flat_nth ref_cells (k := 2) (by omega) (v := iV x.st) rfl hlx)
  have st : effOp Pg (evL [.pointer (some (aadd ⟨B, 0, none⟩ ((Int.toNat (s : Int) * 6) + 2))), iV (x.st + Int.tmod by_ 500)]) τ (.store 3 (.tmp 0) (.tmp 1)) = some (undef, τ.own B (flat ((latL d t.trips (s + 1)).map tripV)) 6) := by
   rw [ea, ← hd, ← latL_set hx]
   exact w3.store (k := s * 6 + 2) (vs := [iV (x.st + d)]) rfl (by rw [size3]; rfl) (by simp [cellB]) (by rw [hcnt, hlen]; simp; omega) (flat_upd (x := x) (x' := shT d x) (v := iV (x.st + d)) ref_cells (k := 2) (by omega) rfl hlx)
  have kk : Only (· = B) τ (τ.own B (flat ((latL d t.trips (s + 1)).map tripV)) 6) := Only.own (.inr rfl)
  refine lLater_s1a ld ld2 st ⟨k - 1, by omega, s + 1, by omega, by omega, hN.own (by omega), kk.own' w1 (by omega), kk.own' w2 (by omega), w3.put⟩ (by omega) (by omega) (by omega) (by rw [← hd]; omega) (by omega)
 have hend : ∀ τ, (New σ τ ∧ Own τ σ.next (tabL t pe le ce pt lt ct) 4 ∧ Own τ (σ.next + 1) [iV t.places, iV t.layover, .slice pe le ce, .slice (some ⟨B, 0, none⟩) lt c3] 4 ∧ Own τ B (flat ((latT t d).trips.map tripV)) 6) → lLater_K1_0 by_ σ.next (σ.next + 1) τ (fun v _ => v = .bool true) := by
  rintro τ ⟨hN, w1, w2, w3⟩
  have Rt := h.le' hN.le
  have hxl : (latT t d).trips.length = lt := by show (t.trips.map (shT d)).length = lt; rw [List.length_map]; exact hnt
  have Rx : RefP τ pe le (some ⟨B, 0, none⟩) lt (latT t d) := ⟨h.em.le hN.le, by have := own_trips w3; rw [hxl] at this; exact this⟩
  have ldx : ∀ τ', Le τ τ' → loadA Pg τ' 25 ⟨σ.next + 1, 0, none⟩ = some (.agg ⟨tabL (latT t d) pe le ce (some ⟨B, 0, none⟩) lt c3⟩) := fun τ' hl => (w2.le hl).ldN agg25 size25 (k := 0) rfl rfl (by simp)
  have ldt : ∀ τ', Le τ τ' → loadA Pg τ' 25 ⟨σ.next, 0, none⟩ = some (.agg ⟨tabL t pe le ce pt lt ct⟩) := fun τ' hl => (w1.le hl).ldN agg25 size25 (k := 0) rfl rfl (by simp)
  have fx := rFault_c (ce := ce) (ct := c3) Rx (by omega) (by omega)
  by_cases hzx : checkZ (latT t d) = 0
  rotate_left
  ·exact lLater_t1x0a (ldx τ (Le.refl _)) fx rfl hzx
  rw [hzx] at fx
  have hvx := valid_of hzx
  obtain ⟨p5, c5, q5, d5, s5, k5, n5, g5⟩ := table_c (ce := ce) (ct := ct) Rt (by omega) (by omega) bE
  obtain ⟨pf, lf, cf, ef, s6, k6, n6, hf⟩ := Follows_c (ce := c5) (ct := d5) g5 (by omega) (by omega) bE
  rcases hf with ⟨hne, _⟩ | ⟨_, rfl, rfl, hF⟩
  ·exact absurd hv.check hne
  have M6 := n5.trans n6
  obtain ⟨p7, c7, q7, d7, s7, k7, n7, g7⟩ := table_c (ce := ce) (ct := c3) (Rx.le' M6.le) (by omega) (by omega) bE
  obtain ⟨pg, lg, cg, eg, s8, k8, n8, hg⟩ := Follows_c (ce := c7) (ct := d7) g7 (by omega) (by omega) bE
  rcases hg with ⟨hne, _⟩ | ⟨_, rfl, rfl, hG⟩
  ·exact absurd hvx.check hne
  have M8 := (M6.trans n7).trans n8
  obtain ⟨p9, c9, q9, d9, s9, k9, n9, g9⟩ := table_c (ce := ce) (ct := ct) (Rt.le' M8.le) (by omega) (by omega) bE
  obtain ⟨pc, lc, cc, ec, s10, k10, n10, hc⟩ := Cut_c (ce := c9) (ct := d9) g9 (by omega) (by omega) bE
  rcases hc with ⟨hne, _⟩ | ⟨_, rfl, nx, bf, Bc, hlc, hC⟩
  ·exact absurd hv.check hne
  have M10 := (M8.trans n9).trans n10
  obtain ⟨p11, c11, q11, d11, s11, k11, n11, g11⟩ := table_c (ce := ce) (ct := c3) (Rx.le' M10.le) (by omega) (by omega) bE
  obtain ⟨pd, ld', cd, ed, s12, k12, n12, hd'⟩ := Cut_c (ce := c11) (ct := d11) g11 (by omega) (by omega) bE
  rcases hd' with ⟨hne, _⟩ | ⟨_, rfl, nx', bf', Bd, hld, hD⟩
  ·exact absurd hvx.check hne
  have M12 := (M10.trans n11).trans n12
  have i1 := Bc.isMax (fun i k _ _ _ => rfl)
  have i2 := Bd.isMax (fun i k _ _ _ => rfl)
  have hcnt : cntN lg (hasB bf) = cntN lg (hasB bf') := by
   have hE : EdS (latT t d) (fun _ => true) = EdS t (fun _ => true) := by funext i k; unfold EdS; rw [mayI_lat]
   rw [hE] at i2
   exact i1.uniq i2
  have hrl : ∀ r ∈ blkI t lg nx bf, r.length ≤ 100000 := by
   intro r hr
   obtain ⟨l, hl, rfl⟩ := List.mem_map.1 hr
   obtain ⟨s, hs, rfl⟩ := List.mem_map.1 hl
   rw [natI_len]
   have h1 := ch_len nx (rkT t s + 1) s
   have h2 := rkT_le hv s
   unfold cq; omega
  have hcut : cutB (latT t d) (blkI t lg nx bf) = true := cut_blk hv Bc.mt (by show (t.trips.map (shT d)).length = lg; rw [List.length_map]; exact hnt) (fun i k hm => by rw [mayI_lat]; exact hm)
  have hL2 : lLater_L2 (σ.next + 1) pf lg cf pg lg cg pc lc cc 0 s12 (fun _ _ => False) (fun z => Le s12 z) := by
   refine lLater_loop2 (Inv := fun k i z => ∃ s : Nat, i = s ∧ s + k = lg ∧ Le s12 z) ?_ lg 0 s12 ⟨0, rfl, by omega, Le.refl _⟩
   rintro k i z ⟨s, rfl, hk, hz⟩
   by_cases hs : s < lg
   rotate_left
   ·exact lLater_s2c hz (by omega)
   obtain ⟨a, rfl, r, q, c, hr, hl1, hI⟩ := hF.p.row hs
   obtain ⟨a', rfl, r', q', c', hr', hl1', hI'⟩ := hG.p.row hs
   rw [folR_get hs] at hr hr'
   cases hr; cases hr'
   have L6 : Le s6 z := (((((n7.trans n8).trans n9).trans n10).trans n11).trans n12).le.trans hz
   have L8 : Le s8 z := (((n9.trans n10).trans n11).trans n12).le.trans hz
   have hin := ints_c (c := c) (d := c') (SlV.le hI L6) (SlV.le hI' L8) (by rw [natI_len]; have := folL_len (t := t) (i := s) (n := lg); omega)
   rw [folL_lat, decide_eq_true rfl] at hin
   exact lLater_s2a (hl1 z L6) (by have := hl1' z L8; rw [folL_lat] at this; exact this) hin ⟨k - 1, by omega, s + 1, by omega, by omega, hz⟩ (by omega) (by omega) (by omega)
  refine lLater_t1x0h (ldx τ (Le.refl _)) fx (ldt τ (Le.refl _)) k5 k6 (ldx _ M6.le) k7 k8 (ldt _ M8.le) k9 k10 (ldx _ M10.le) k11 k12 hL2 (fun _ _ hF => hF.elim) ?_ rfl rfl rfl rfl rfl rfl (by omega)
  intro z hz
  have Mz : Le τ z := M12.le.trans hz
  obtain ⟨p20, c20, q20, d20, s20, k20, n20, g20⟩ := table_c (ce := ce) (ct := c3) (Rx.le' Mz) (by omega) (by omega) bE
  have Lc : Le s10 s20 := ((n11.trans n12).le.trans hz).trans n20.le
  obtain ⟨p21, c21, s21, k21, n21, g21⟩ := rowsF_c (c := cc) (hC.p.le Lc) (by omega) (fun r hr => by have := hrl r hr; omega)
  have k22 := ProveCut_c (ce := c20) (ct := d20) (cb := c21) (g20.le' n21.le) (by omega) (by omega) bE g21.p (by omega) hrl
  rw [hzx, hcut] at k22
  exact lLater_t2x2a (ldx _ Mz) k20 k21 k22 rfl
 subst hσ4 hσ2 hσ1
 exact lLater_ra c0 ap st3 hL1 hend
end
end Go.Proofs.Ytmdopblmkkameaa
