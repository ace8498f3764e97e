
import Derived.Test.YtmdopblmkkameaaRL
namespace Go.Proofs.Ytmdopblmkkameaa
open Go Go.Lay
open Try renaming prog → Pg
set_option linter.unusedVariables false
set_option linter.unusedSimpArgs false
set_option maxRecDepth 20000
theorem appT_ref : AppT Pg 23 23 53 6 := appT_of (by kernel_rfl)
theorem elOk_ref (x : Trip) : zGY Pg 53 6 (xV x) := .inr ⟨agg53, zFW, _, rfl, rfl⟩
def vJ (t : Tab) (i : Nat) : Trip := (t.trips[i]?).getD ⟨0, 0, 0, 0, 0, 0⟩
def uZ (t : Tab) (ls : List Nat) : Tab := ⟨t.places, t.layover, t.empty, ls.map (vJ t)⟩
section
variable {σ : St} {t : Tab} {pe pt : Option Addr} {le ce lt ct : Nat}
theorem only_c {pl : Option Addr} {ll cl : Nat} {ls : List Nat} (h : RefP σ pe le pt lt t) (hl : yZ σ pl ll (wI ls)) (hls : ∀ i ∈ ls, i < lt) (hll : ll ≤ 100000) :
  ∃ p c σ', zD Pg 65 [.agg ⟨yE t pe le ce pt lt ct⟩, .slice pl ll cl] σ (.agg ⟨yE (uZ t ls) pe le ce p ll c⟩) σ' ∧ New σ σ' ∧ RefP σ' pe le p ll (uZ t ls) := by
 have hlsl : ls.length = ll := by have := hl.len; rw [zBL] at this; exact this
 suffices hmain : zN Pg 65 [.agg ⟨yE t pe le ce pt lt ct⟩, .slice pl ll cl] σ.re fun v s => New σ.re s ∧ ∃ p c, v = .agg ⟨yE (uZ t ls) pe le ce p ll c⟩ ∧ SlV Pg s 53 6 p ll ((uZ t ls).trips.map xV) by
  obtain ⟨v, σ', h1, h2, p, c, rfl, h3⟩ := zN.new hmain (by rintro v s s' ⟨p, c, rfl, q1⟩ hle; exact ⟨p, c, rfl, q1.le hle⟩) (by
   rintro v s hr ⟨p, c, rfl, q1⟩
   cases p with
   | none => exact ⟨none, c, rfl, zEO q1⟩
   | some a => cases pe <;> exact Bool.noConfusion (show false = true from hr))
  exact ⟨p, c, σ', h1, h2, h.em.le h2.le, h3⟩
 obtain ⟨σ1, hσ1⟩ : ∃ σ1, σ1 = (((((σ.re.row (yE t pe le ce pt lt ct) 4).row (tQ 0 0 none 0 0 none 0 0) 4).row (tQ 0 0 none 0 0 none 0 0) 4).own (σ.re.next + 2) (yE t pe le ce pt lt ct) 4).own (σ.re.next + 2) (tQ t.places t.layover pe le ce none 0 0) 4) := ⟨_, rfl⟩
 have N1 : New σ.re σ1 := by
  rw [hσ1]
  exact (((New.row _ _ _).row'.row').own (by omega)).own (by omega)
 have nx1 : σ1.next = σ.next + 3 := by rw [hσ1]; rfl
 have o3 : Own σ1 (σ.next + 2) (tQ t.places t.layover pe le ce none 0 0) 4 := by
  rw [hσ1]
  exact ((zC ((σ.re.row (yE t pe le ce pt lt ct) 4).row (tQ 0 0 none 0 0 none 0 0) 4) (tQ 0 0 none 0 0 none 0 0) 4).put (ds := yE t pe le ce pt lt ct)).put
 have o2 : Own σ1 (σ.next + 1) (tQ 0 0 none 0 0 none 0 0) 4 := by
  rw [hσ1]
  exact (((zC (σ.re.row (yE t pe le ce pt lt ct) 4) (tQ 0 0 none 0 0 none 0 0) 4).row).own (by show σ.next + 1 ≠ σ.next + 2; omega)).own (by show σ.next + 1 ≠ σ.next + 2; omega)
 have o1 : Own σ1 σ.next (yE t pe le ce pt lt ct) 4 := by
  rw [hσ1]
  exact ((((zC σ.re (yE t pe le ce pt lt ct) 4).row).row).own (by show σ.next ≠ σ.next + 2; omega)).own (by show σ.next ≠ σ.next + 2; omega)
 have R1 := (h.le' (le0 σ)).le' N1.le
 have I1 : yZ σ1 pl ll (wI ls) := SlV.le (SlV.le hl (le0 σ)) N1.le
 have hmid : only_L1 pl ll cl σ.next (σ.next + 1) (σ.next + 2) 0 σ1 (fun τ => ∃ p c, New σ.re τ ∧ Own τ (σ.next + 1) (tQ 0 0 none 0 0 none 0 0) 4 ∧ Own τ (σ.next + 2) (tQ t.places t.layover pe le ce p ll c) 4 ∧ Gr Pg τ σ1.next 53 6 p ll c ((uZ t ls).trips.map xV)) := by
  refine only_loop1 (Inv := fun k i τ => ∃ s : Nat, i = s ∧ s + k = ll ∧ ∃ p c, New σ.re τ ∧ (∀ y, y < σ.next → yP τ.heap y = yP σ.heap y) ∧ σ1.next ≤ τ.next ∧ Own τ σ.next (yE t pe le ce pt lt ct) 4 ∧ Own τ (σ.next + 1) (tQ 0 0 none 0 0 none 0 0) 4 ∧ Own τ (σ.next + 2) (tQ t.places t.layover pe le ce p s c) 4 ∧ Gr Pg τ σ1.next 53 6 p s c ((ls.take s).map fun i => xV (vJ t i))) ?_ ll 0 σ1
   ⟨0, rfl, by omega, none, 0, N1, fun y hy => N1.le.get y hy, Nat.le_refl _, o1, o2, o3, by simpa using Gr.nil⟩
  rintro k i τ ⟨s, rfl, hk, p, c, hN, hold, hnx, w1, w2, w3, hg⟩
  by_cases hs : s < ll
  rotate_left
  ·have : s = ll := by omega
   subst this
   refine only_s1b ⟨p, c, hN, w2, w3, ?_⟩ (by omega)
   rw [List.take_of_length_le (by omega)] at hg
   rw [show (uZ t ls).trips.map xV = ls.map fun i => xV (vJ t i) by simp [uZ, Function.comp]]; exact hg
  have Lτ : Le σ τ := ⟨by have := hN.nx; exact this, hold⟩
  obtain ⟨la, rfl, x, hx, ldx⟩ := uX (SlV.le hl Lτ) hs
  obtain ⟨k0, hk0, rfl⟩ := natI_get hx
  have hk0l := hls k0 (List.mem_of_getElem? hk0)
  obtain ⟨ta, rfl, y, hy, ldy⟩ := uX (h.le' Lτ).tr hk0l
  have ey : vJ t k0 = y := by unfold vJ; rw [hy]; rfl
  obtain ⟨p4, c4, τ2, g1, g2, g3, g4⟩ := grow1 (xV y) appT_ref hg (Le.refl τ) (elOk_ref _) (by omega) hnx (e := rfl) (hc := rfl)
  have lr := Le.row τ (zA y.fr y.to y.st y.least y.most y.kind) 6
  have hpb : ∀ b, AtP p b → σ1.next ≤ b := fun b hb => (hg.bd hb).1
  have hnp : ∀ b, b < σ1.next → ¬ AtP p b := fun b hb hp => by have := hpb b hp; omega
  have x1 := g3.own' (w1.le lr) (hnp _ (by omega))
  have x2 := g3.own' (w2.le lr) (hnp _ (by omega))
  have x3 := g3.own' (w3.le lr) (hnp _ (by omega))
  have st := x3.store (P := Pg) (k := 3) (t := 23) (v := .slice p4 (s + 1) c4) (vs := [.slice p4 (s + 1) c4]) (ds := [iV t.places, iV t.layover, .slice pe le ce, .slice p4 (s + 1) c4]) rfl size23 rfl (by simp) rfl
  have N2 : New σ.re τ2 := (hN.trans (New.row _ _ _)).of_only g3 (fun b hb => by have := hpb b hb; show σ.next ≤ b; omega)
  have hn2 := g3.next
  have hn2' : τ.next + 1 ≤ τ2.next := hn2
  have k4 : Only (· = σ.next + 2) τ2 (τ2.own (σ.next + 2) [iV t.places, iV t.layover, .slice pe le ce, .slice p4 (s + 1) c4] 4) := Only.own (.inr rfl)
  have b3 := w3.lt
  have hla := xZ (SlV.le hl Lτ) la rfl
  have hta := xZ (h.le' Lτ).tr ta rfl
  refine only_s1a (w3.ldI (i := 3) zCM rfl) (w1.ldI (i := 3) zCM rfl) ldx ldy g1 st ?_ ((w3.le lr).ldI (i := 3) zCM rfl) hg.app.lt ⟨k - 1, by omega, s + 1, by omega, by omega, p4, c4, N2.own (by show σ.next ≤ _; omega), fun z hz => ?_, by show σ1.next ≤ τ2.next; omega, k4.own' x1 (by omega), k4.own' x2 (by omega), x3.put, ?_⟩
  ·exact zF (zI (by show σ.next + 2 < τ2.next; omega)) (zF (wT fun a e => g2.app.lt a e) zG)
  ·rw [k4.get z (by omega) (by omega), g3.get z (by show z < τ.next + 1; omega) (hnp _ (by omega))]
   exact (lr.get z (by omega)).trans (hold z hz)
  ·rw [zBT hk0, List.map_append, List.map_singleton, ey]
   exact g2.only k4 (fun b hb e => by have e : b = σ.next + 2 := e; have := (g2.bd hb).1; omega)
 have hend : ∀ τ, (∃ p c, New σ.re τ ∧ Own τ (σ.next + 1) (tQ 0 0 none 0 0 none 0 0) 4 ∧ Own τ (σ.next + 2) (tQ t.places t.layover pe le ce p ll c) 4 ∧ Gr Pg τ σ1.next 53 6 p ll c ((uZ t ls).trips.map xV)) → only_K1_0 pl ll cl σ.next (σ.next + 1) (σ.next + 2) τ (fun v s => New σ.re s ∧ ∃ p c, v = .agg ⟨yE (uZ t ls) pe le ce p ll c⟩ ∧ SlV Pg s 53 6 p ll ((uZ t ls).trips.map xV)) := by
  rintro τ ⟨p, c, hN, w2, w3, hg⟩
  have st := w2.store (P := Pg) (k := 0) (t := 25) (v := .agg ⟨yE (uZ t ls) pe le ce p ll c⟩) (vs := yE (uZ t ls) pe le ce p ll c) (ds := yE (uZ t ls) pe le ce p ll c) rfl wV rfl (by simp) rfl
  have k4 : Only (· = σ.next + 1) τ (τ.own (σ.next + 1) (yE (uZ t ls) pe le ce p ll c) 4) := Only.own (.inr rfl)
  exact only_t1x0a (w3.ldN zAP wV (k := 0) rfl rfl (by simp)) st (w2.put.ldN zAP wV (k := 0) rfl rfl (by simp)) ⟨hN.own (by show σ.next ≤ _; omega), p, c, rfl, k4.slv' hg.slv (fun a e hb => by have hb : a.block = σ.next + 1 := hb; have := (hg.bd ⟨a, e, rfl⟩).1; omega)⟩
 subst hσ1
 exact only_ra hmid hend
theorem only_check {ls : List Nat} (hv : Valid t) (h : ∀ i ∈ ls, i < t.nt) (h12 : ls.length ≤ 12) : xR (uZ t ls) = 0 := by
 have h0 := hv.check
 unfold xR at h0 ⊢
 have hn : (uZ t ls).nt = ls.length := by simp [uZ, Tab.nt]
 rw [if_neg (by omega)]
 by_cases h1 : 12 < t.nt
 ·rw [if_pos h1] at h0; cases h0
 ·rw [if_neg h1] at h0
  by_cases hb : tabB t = true
  ·have : tabB (uZ t ls) = true := by
    unfold tabB at hb ⊢
    simp only [Bool.and_eq_true] at hb ⊢
    obtain ⟨⟨⟨⟨⟨a1, a2⟩, a3⟩, a4⟩, a5⟩, a6⟩ := hb
    refine ⟨⟨⟨⟨⟨a1, a2⟩, a3⟩, a4⟩, a5⟩, ?_⟩
    refine List.all_eq_true.2 fun x hx => ?_
    obtain ⟨i, hi, rfl⟩ := List.mem_map.1 hx
    have hil := h i hi
    have e : vJ t i = t.trips[i] := by unfold vJ; rw [List.getElem?_eq_getElem hil]; rfl
    show uY t.places (vJ t i) = true
    rw [e]
    exact List.all_eq_true.1 a6 _ (List.getElem_mem hil)
   rw [if_pos this]
  ·rw [if_neg hb] at h0; cases h0
theorem allL_lt {kind : Int} {ws : List Int} {n i : Nat} (h : i ∈ zFH t kind ws n) : i < n ∧ aB t kind ws i = true := by simpa [zFH] using h
theorem allL_len {kind : Int} {ws : List Int} {n : Nat} : (zFH t kind ws n).length ≤ n := by
 have := List.length_filter_le (aB t kind ws) (List.range n)
 rw [List.length_range] at this; exact this
def Fw (t : Tab) (ws : List Int) (n : Nat) (k : Nat) (v : Int) : Prop := ∃ m : Nat, IsMax (zFH t k ws n).length (EdS (uZ t (zFH t k ws n)) fun _ => true) m ∧ v = (((zFH t k ws n).length - m : Nat) : Int)
theorem fewest_c {pw : Option Addr} {lw cw : Nat} {ws : List Int} (h : RefP σ pe le pt lt t) (hv : Valid t) (hw : yZ σ pw lw ws) (hlw : lw ≤ 100000) :
  ∃ f : Nat → Int, zD Pg 33 [.agg ⟨yE t pe le ce pt lt ct⟩, .slice pw lw cw] σ (.tuple ⟨[.agg ⟨[iV (f 0), iV (f 1), iV (f 2)]⟩, .bool true]⟩) σ ∧ ∀ k, k < 3 → Fw t ws lt k (f k) := by
 have hnt : t.nt = lt := h.len
 have hz := hv.check
 have hn12 : lt ≤ 12 := by
  unfold xR at hz
  by_cases h12 : 12 < t.nt
  ·rw [if_pos h12] at hz; cases hz
  ·omega
 have hlee := hv.lee h.em
 have hpl := hv.parts.1
 have hrl : ∀ r ∈ t.empty, r.length ≤ 1073741824 := fun r hr => by have := (hv.parts.2.2.2.1 r hr).1; omega
 suffices hmain : zN Pg 33 [.agg ⟨yE t pe le ce pt lt ct⟩, .slice pw lw cw] σ.re fun v s => New σ.re s ∧ ∃ f : Nat → Int, v = .tuple ⟨[.agg ⟨[iV (f 0), iV (f 1), iV (f 2)]⟩, .bool true]⟩ ∧ ∀ k, k < 3 → Fw t ws lt k (f k) by
  obtain ⟨v, s, h1, h2, f, rfl, h3⟩ := hmain
  exact ⟨f, zN.pure ⟨_, s, h1, rfl, h2.lw⟩ rfl, h3⟩
 obtain ⟨σ1, hσ1⟩ : ∃ σ1, σ1 = ((σ.re.row (yE t pe le ce pt lt ct) 4).row [iV 0, iV 0, iV 0] 1).row [iV 0, iV 0, iV 0] 1 := ⟨_, rfl⟩
 have N1 : New σ.re σ1 := by rw [hσ1]; exact (New.row _ _ _).row'.row'
 have nx1 : σ1.next = σ.next + 3 := by rw [hσ1]; rfl
 have o1 : Own σ1 σ.next (yE t pe le ce pt lt ct) 4 := by rw [hσ1]; exact ((zC σ.re (yE t pe le ce pt lt ct) 4).row).row
 have o2 : Own σ1 (σ.next + 1) [iV 0, iV 0, iV 0] 1 := by rw [hσ1]; exact (zC (σ.re.row (yE t pe le ce pt lt ct) 4) [iV 0, iV 0, iV 0] 1).row
 have o3 : Own σ1 (σ.next + 2) (wP 3 fun _ => 0) 1 := by rw [hσ1]; exact zC ((σ.re.row (yE t pe le ce pt lt ct) 4).row [iV 0, iV 0, iV 0] 1) [iV 0, iV 0, iV 0] 1
 have hL : fewest_L1 pw lw cw σ.next (σ.next + 1) (σ.next + 2) 0 σ1 (fun _ _ => False) (fun τ => New σ.re τ ∧ Own τ (σ.next + 1) [iV 0, iV 0, iV 0] 1 ∧ ∃ f : Nat → Int, Own τ (σ.next + 2) (wP 3 f) 1 ∧ ∀ k, k < 3 → Fw t ws lt k (f k)) := by
  refine fewest_loop1 (Inv := fun k i τ => ∃ s : Nat, i = s ∧ s + k = 3 ∧ New σ.re τ ∧ Own τ σ.next (yE t pe le ce pt lt ct) 4 ∧ Own τ (σ.next + 1) [iV 0, iV 0, iV 0] 1 ∧ ∃ f : Nat → Int, Own τ (σ.next + 2) (wP 3 f) 1 ∧ ∀ k, k < s → Fw t ws lt k (f k)) ?_ 3 0 σ1 ⟨0, rfl, rfl, N1, o1, o2, _, o3, fun k hk => by omega⟩
  rintro k i τ ⟨s, rfl, hk, hN, w1, w2, f, w3, hf⟩
  by_cases hs : s < 3
  rotate_left
  ·have : s = 3 := by omega
   subst this
   exact fewest_s1c ⟨hN, w2, f, w3, hf⟩ (by omega)
  have Rτ := (h.le' (le0 σ)).le' hN.le
  have Wτ : yZ τ pw lw ws := SlV.le (SlV.le hw (le0 σ)) hN.le
  obtain ⟨p5, l5, c5, σ6, k2, n6, I6, f6⟩ := rAll_c (ce := ce) (ct := ct) (kind := (s : Int)) (cw := cw) Rτ Wτ (by omega) hlw
  have hlen5 : (zFH t (s : Int) ws lt).length = l5 := by have := I6.len; rw [zBL] at this; exact this
  have hal := allL_len (t := t) (kind := (s : Int)) (ws := ws) (n := lt)
  obtain ⟨p7, c7, σ11, k3, n11, R11⟩ := only_c (ce := ce) (ct := ct) (cl := c5) (Rτ.le' n6.le) I6 (fun i hi => (allL_lt hi).1) (by omega)
  obtain ⟨p8, c8, q8, d8, σ16, k4, n16, T16⟩ := table_c (ce := ce) (ct := c7) R11 (by omega) (by omega) hrl
  obtain ⟨p9, l9, c9, e9, σ19, k5, n19, hC⟩ := Cut_c (ce := c8) (ct := d8) T16 (by omega) (by omega) hrl
  have hck : xR (uZ t (zFH t (s : Int) ws lt)) = 0 := only_check hv (fun i hi => by rw [hnt]; exact (allL_lt hi).1) (by omega)
  rcases hC with ⟨hne, _⟩ | ⟨_, rfl, nx, bf, B, rfl, _⟩
  ·exact absurd hck hne
  have b1 := w1.lt; have b2 := w2.lt; have b3 := w3.lt
  have M19 := ((n6.trans n11).trans n16).trans n19
  have w3' := w3.le M19.le
  have hm := B.isMax (fun i k _ _ _ => rfl)
  obtain ⟨v, hv'⟩ : ∃ v : Int, v = (((l5 - yR l5 (xM bf) : Nat)) : Int) := ⟨_, rfl⟩
  have st := w3'.stI (P := Pg) (t := 3) (v := iV v) (i := s) rfl size3 rfl (by rw [wK]; exact hs)
  rw [vecL_set hs, hv'] at st
  have n6n := n6.nx; have n11n := n11.nx; have n16n := n16.nx
  have k6 : Only (· = σ.next + 2) σ19 (σ19.own (σ.next + 2) (wP 3 fun s' => if s' = s then v else f s') 1) := Only.own (.inr rfl)
  have ld1 : ∀ τ', Le τ τ' → zB Pg τ' 25 ⟨σ.next, 0, none⟩ = some (.agg ⟨yE t pe le ce pt lt ct⟩) := fun τ' hl => (w1.le hl).ldN zAP wV (k := 0) rfl rfl (by simp)
  refine fewest_s1b (ld1 τ (Le.refl _)) k2 k3 k4 k5 ?_ ?_ ?_ ?_ ⟨⟨(w1.le n6.le).lt, rfl⟩, ld1 _ n6.le⟩ st ⟨k - 1, by omega, s + 1, by omega, by omega, ?_, ?_, ?_, _, w3'.put, ?_⟩ (by omega) rfl (by omega)
  ·exact zF (uU (fun a e => Rτ.em.ltb a e) (fun a e => xZ Rτ.tr a e)) (zF rfl (zF (wT fun a e => xZ Wτ a e) zG))
  ·have R6 := Rτ.le' n6.le
   exact zF (uU (fun a e => R6.em.ltb a e) (fun a e => xZ R6.tr a e)) (zF (wT fun a e => xZ I6 a e) zG)
  ·exact zF (uU (fun a e => R11.em.ltb a e) (fun a e => xZ R11.tr a e)) zG
  ·exact zF (uU (fun a e => T16.em.ltb a e) (fun a e => xZ T16.tr a e)) zG
  ·exact (hN.trans M19).own (by show σ.next ≤ _; omega)
  ·rw [← hv']; exact k6.own' (w1.le M19.le) (by omega)
  ·rw [← hv']; exact k6.own' (w2.le M19.le) (by omega)
  ·intro k' hk'
   by_cases e : k' = s
   ·subst e
    simp only [if_true]
    exact ⟨_, by rw [hlen5]; exact hm, by rw [hlen5]⟩
   ·simp only [if_neg e]; exact hf k' (by omega)
 subst hσ1
 refine fewest_ra hL (fun _ _ hF => hF.elim) ?_
 rintro τ ⟨hN, w2, f, w3, hf⟩
 have w3x : Own τ (σ.next + 2) [iV (f 0), iV (f 1), iV (f 2)] 1 := w3
 have st := w2.store (P := Pg) (k := 0) (t := 56) (v := .agg ⟨[iV (f 0), iV (f 1), iV (f 2)]⟩) (vs := [iV (f 0), iV (f 1), iV (f 2)]) (ds := [iV (f 0), iV (f 1), iV (f 2)]) rfl zBQ rfl (by simp) rfl
 exact fewest_t1x0a (w3x.ldN agg56 zBQ (k := 0) rfl rfl (by simp)) st (w2.put.ldN agg56 zBQ (k := 0) rfl rfl (by simp)) ⟨hN.own (by show σ.next ≤ _; omega), f, rfl, hf⟩
end
end Go.Proofs.Ytmdopblmkkameaa
