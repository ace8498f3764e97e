
import Derived.Test.YtmdopblmkkameaaRA
namespace Go.Proofs.Ytmdopblmkkameaa
open Go Go.Lay
open Try renaming prog → Pg
set_option linter.unusedVariables false
set_option linter.unusedSimpArgs false
set_option maxRecDepth 20000
theorem appT_ints : AppT Pg 41 41 3 1 := appT_of (by kernel_rfl)
theorem appT_rows : AppT Pg 22 22 41 1 := appT_of (by kernel_rfl)
theorem appT_trips : AppT Pg 32 32 79 6 := appT_of (by kernel_rfl)
theorem zHA (x : Int) : zIK Pg 3 1 (wM x) := .inl ⟨yD, rfl, rfl⟩
theorem elOk_row (p : Option Addr) (l c : Nat) : zIK Pg 41 1 (.slice p l c) := .inl ⟨zBU, rfl, rfl⟩
theorem elOk_trip (x : Trip) : zIK Pg 79 6 (vB x) := .inr ⟨zCP, vQ, _, rfl, rfl⟩
section
variable {σ : St}
theorem short_c {p : Option Addr} {l c : Nat} {rs : List (List Int)} (h : wU σ p l rs) : zD Pg 16 [.slice p l c] σ (.bool (decide (l ≤ 15) && rs.all fun r => decide (r.length ≤ 15))) σ ∨ (15 < l ∧ zD Pg 16 [.slice p l c] σ (.bool false) σ) := by
 have hr : wU σ.re p l rs := h.le (le0 σ)
 have hlen := h.len
 have key : zN Pg 16 [.slice p l c] σ.re fun v s => s = σ.re ∧ ((v = .bool (decide (l ≤ 15) && rs.all fun r => decide (r.length ≤ 15))) ∨ (15 < l ∧ v = .bool false)) := by
  refine short_ra (short_loop1 (Inv := fun k i3 τ => τ = σ.re ∧ ∃ i : Nat, i3 = i ∧ i + k = l ∧ (rs.take i).all (fun r => decide (r.length ≤ 15)) = true) (Qr := fun x τ => τ = σ.re ∧ x = false ∧ rs.all (fun r => decide (r.length ≤ 15)) = false)
   (Q0 := fun τ => τ = σ.re ∧ (15 < l ∨ rs.all (fun r => decide (r.length ≤ 15)) = true)) ?_ l 0 σ.re ⟨rfl, 0, rfl, by omega, by simp⟩) ?_ ?_
  ·rintro k i3 τ ⟨rfl, i, rfl, hk, he⟩
   by_cases hi : i < l
   ·by_cases h9 : i < 16
    ·obtain ⟨a, rfl, r, q, d, hri, hld', hq⟩ := hr.row hi; have hld := hld' _ (Le.refl _)
     have hs := all_snoc hri he
     by_cases h15 : 15 < r.length
     ·exact short_s1a hld ⟨rfl, rfl, all_false (i := i + 1) (by rw [hs]; simp; omega)⟩
     ·exact short_s1b hld ⟨k - 1, by omega, rfl, i + 1, by omega, by omega, by rw [hs]; simp; omega⟩
    ·exact short_s1c ⟨rfl, .inl (by omega)⟩
   ·rw [List.take_of_length_le (by omega)] at he
    exact short_s1d ⟨rfl, .inr he⟩
  ·rintro x τ ⟨rfl, rfl, ha⟩
   exact short_t1xra ⟨rfl, .inl (by rw [ha]; simp)⟩
  ·rintro τ ⟨rfl, ha⟩
   by_cases h8 : l ≤ 15
   ·rcases ha with ha | ha
    ·omega
    ·exact short_t1x0a ⟨rfl, .inl (by rw [ha]; simp [h8])⟩
   ·exact short_t1x0b ⟨rfl, .inr ⟨by omega, rfl⟩⟩
 obtain ⟨v, s, h1, rfl, rfl | ⟨h2, rfl⟩⟩ := key
 ·exact .inl (zJD h1 (Nat.le_refl _) rfl)
 ·exact .inr ⟨h2, zJD h1 (Nat.le_refl _) rfl⟩
theorem list_c {p : Option Addr} {l c : Nat} {xs : List Int} (h : yU σ p l xs) (hl : l ≤ 1073741824) :
  ∃ p' c' σ', zD Pg 27 [.slice p l c] σ (.slice p' l c') σ' ∧ New σ σ' ∧ yU σ' p' l xs ∧ ∀ b, AtP p' b → σ.next ≤ b := by
 have hc : (wH (xs.map wM)).all cellB = true := by rw [flat_ints xs .i64]; simp [List.all_eq_true]; intro a _; rfl
 obtain ⟨p', c', σ', h1, h2, h3⟩ := append_copy (k := c) appT_ints h.re.1 hl hc
 exact zN.newSl (list_ra h1 ⟨New.of_keep h3, p', c', rfl, h2.slv (by simpa using h.2.1) h.2.2, fun b hb => by obtain ⟨a, e, rfl⟩ := hb; exact h2.ge a e⟩)
def zCM (σ : St) (n0 : Nat) (p : Option Addr) (l : Nat) (rs : List (List Int)) : Prop := ∃ vs : List Value, SlV Pg σ 41 1 p l vs ∧ rs.length = l ∧ (∀ b, AtP p b → n0 ≤ b) ∧ ∀ (i : Nat) (r : List Int), rs[i]? = some r → ∃ q c, vs[i]? = some (Value.slice q r.length c) ∧ yU σ q r.length r ∧ ∀ b, AtP q b → n0 ≤ b
theorem zCM.p {n0 : Nat} {p : Option Addr} {l : Nat} {rs : List (List Int)} (h : zCM σ n0 p l rs) : wU σ p l rs := by
 obtain ⟨vs, h1, h2, _, h3⟩ := h
 exact ⟨vs, h1, h2, fun i r hi => by obtain ⟨q, c, g1, g2, _⟩ := h3 i r hi; exact ⟨q, c, g1, g2⟩⟩
theorem zCM.le {σ' : St} {n0 : Nat} {p : Option Addr} {l : Nat} {rs : List (List Int)} (h : zCM σ n0 p l rs) (k : Le σ σ') : zCM σ' n0 p l rs := by
 obtain ⟨vs, h1, h2, h4, h3⟩ := h
 exact ⟨vs, h1.le k, h2, h4, fun i r hi => by obtain ⟨q, c, g1, g2, g3⟩ := h3 i r hi; exact ⟨q, c, g1, g2.le k, g3⟩⟩
theorem zCM.only {S : Nat → Prop} {σ' : St} {n0 : Nat} {p : Option Addr} {l : Nat} {rs : List (List Int)} (h : zCM σ n0 p l rs) (k : Only S σ σ') (hs : ∀ b, S b → b < n0) : zCM σ' n0 p l rs := by
 obtain ⟨vs, h1, h2, h4, h3⟩ := h
 exact ⟨vs, k.slv' h1 (fun a e x => by have := hs _ x; have := h4 _ ⟨a, e, rfl⟩; omega), h2, h4, fun i r hi => by
  obtain ⟨q, c, g1, g2, g3⟩ := h3 i r hi
  exact ⟨q, c, g1, k.slv' g2 (fun a e x => by have := hs _ x; have := g3 _ ⟨a, e, rfl⟩; omega), g3⟩⟩
theorem rowsF_c {p : Option Addr} {l c : Nat} {rs : List (List Int)} (h : wU σ p l rs) (hl : l ≤ 1073741823) (hr : ∀ r ∈ rs, r.length ≤ 1073741824) :
  ∃ p' c' σ', zD Pg 21 [.slice p l c] σ (.slice p' l c') σ' ∧ New σ σ' ∧ zCM σ' σ.next p' l rs := by
 have hlen := h.len
 have hr0 : wU σ.re p l rs := h.le (le0 σ)
 have key : zN Pg 21 [.slice p l c] σ.re fun v s => New σ.re s ∧ ∃ p' c', v = .slice p' l c' ∧ zCM s σ.re.next p' l rs := by
  refine rows_ra (rows_loop1 (Inv := fun k p3 l3 c3 i4 τ => New σ.re τ ∧ ∃ i : Nat, i4 = i ∧ i + k = l ∧ l3 = i ∧ ∃ vs : List Value, Gr Pg τ σ.re.next 41 1 p3 i c3 vs ∧
   ∀ (j : Nat) (r : List Int), j < i → rs[j]? = some r → ∃ q d, vs[j]? = some (Value.slice q r.length d) ∧ yU τ q r.length r ∧ ∀ b, AtP q b → ¬ AtP p3 b ∧ σ.re.next ≤ b)
   (Q0 := fun p3 l3 c3 τ => New σ.re τ ∧ l3 = l ∧ zCM τ σ.re.next p3 l rs ∧ (p3 = none → l = 0)) ?_ l none 0 0 0 σ.re ⟨New.refl _, 0, rfl, by omega, rfl, [], Gr.nil, fun j r hj => by omega⟩) ?_
  ·rintro k p3 l3 c3 i4 τ ⟨hN, i, rfl, hk, rfl, vs, hg, hrow⟩
   by_cases hi : l3 < l
   ·obtain ⟨a, rfl, r, q, d, hri, hld', hq⟩ := (hr0.le hN.le).row hi; have hld := hld' _ (Le.refl _)
    obtain ⟨q', d', τ1, c1, n1, s1, f1⟩ := list_c (c := d) hq (hr r (List.mem_of_getElem? hri))
    obtain ⟨p4, c4, τ2, g1, g2, g3, g4, g5⟩ := grow (.slice q' r.length d') appT_rows hg hN n1 (elOk_row _ _ _) (by omega)
    have s2 : yU τ2 q' r.length r := g4.slv' s1.row (fun a e hb => by
     have := f1 a.block ⟨a, e, rfl⟩; have := (hg.bd hb).2; omega)
    refine rows_s1a hld c1 g1 ⟨k - 1, by omega, g3, l3 + 1, by omega, by omega, rfl, _, g2, ?_⟩
    intro j x hj hx
    by_cases hjl : j = l3
    ·subst hjl
     rw [hri] at hx; cases hx
     refine ⟨q', d', by rw [List.getElem?_append_right (by rw [hg.len_eq]; omega)]; simp [hg.len_eq], s2, fun b hb => ⟨fun h4 => ?_, by have := f1 b hb; have := hN.nx; omega⟩⟩
     have hb1 := f1 b hb
     have hb2 : b < τ1.next := by obtain ⟨a, e, rfl⟩ := hb; exact uI s1 a e
     rcases g5 b h4 with h5 | h5
     ·have := (hg.bd h5).2; omega
     ·omega
    ·obtain ⟨q2, d2, e1, e2, e3⟩ := hrow j x (by omega) hx
     have e4 : ∀ b, AtP q2 b → b < τ.next := fun b hb => by obtain ⟨a, e, rfl⟩ := hb; exact uI e2 a e
     refine ⟨q2, d2, by rw [List.getElem?_append_left (by rw [hg.len_eq]; omega)]; exact e1, g4.slv' ((e2.le n1.le).row) (fun a e hb => (e3 a.block ⟨a, e, rfl⟩).1 hb), fun b hb => ⟨fun h4 => ?_, (e3 b hb).2⟩⟩
     rcases g5 b h4 with h5 | h5
     ·exact (e3 b hb).1 h5
     ·have := e4 b hb; have := n1.nx; omega
   ·have : l3 = l := by omega
    subst this
    refine rows_s1b ⟨hN, rfl, ⟨vs, hg.slv, hlen, fun b hb => (hg.bd hb).1, fun j r hj => ?_⟩, fun e => ?_⟩
    ·obtain ⟨q, d, e1, e2, e3⟩ := hrow j r (by have := (List.getElem?_eq_some_iff.1 hj).1; omega) hj
     exact ⟨q, d, e1, e2, fun b hb => (e3 b hb).2⟩
    ·subst e; have := hg.nil_len; have := hg.len_eq; simp_all
  ·rintro p3 l3 c3 τ ⟨hN, rfl, hR, hz⟩
   exact rows_t1x0a ⟨hN, p3, c3, rfl, hR⟩
 obtain ⟨v, σ', h1, h2, p', c', rfl, h3⟩ := zN.new (Q := fun v s => ∃ p' c', v = .slice p' l c' ∧ zCM s σ.re.next p' l rs) key (by rintro v s s' ⟨p', c', rfl, g⟩ hle; exact ⟨p', c', rfl, g.le hle⟩) (by
  rintro v s hv ⟨p', c', rfl, g⟩
  cases p' with
  | none =>
   obtain ⟨vs, g1, g2, _, g3⟩ := g
   have hl0 : l = 0 := by have := g1.1.2; simpa using this
   subst hl0
   refine ⟨none, c', rfl, vs, zGK g1, g2, fun b hb => (AtP.none hb).elim, fun i r hi => ?_⟩
   have : rs = [] := by simpa using g2
   subst this; simp at hi
  | some a => exact Bool.noConfusion (show false = true from hv))
 exact ⟨p', c', σ', h1, h2, h3⟩
end
structure RefP (σ : St) (pe : Option Addr) (le : Nat) (pt : Option Addr) (lt : Nat) (t : Tab) : Prop where
 em : wU σ pe le t.empty
 tr : SlV Pg σ 53 6 pt lt (t.trips.map vB)
structure TabP (σ : St) (pe : Option Addr) (le : Nat) (pt : Option Addr) (lt : Nat) (t : Tab) : Prop where
 em : wU σ pe le t.empty
 tr : SlV Pg σ 79 6 pt lt (t.trips.map vB)
abbrev yB (t : Tab) (pe : Option Addr) (le ce : Nat) (pt : Option Addr) (lt ct : Nat) : List Value := (tQ t.places t.layover pe le ce pt lt ct)
abbrev Tab.nt (t : Tab) : Nat := t.trips.length
section
variable {σ σ' : St} {t : Tab} {pe pt : Option Addr} {le ce lt ct : Nat}
theorem RefP.le' (h : RefP σ pe le pt lt t) (k : Le σ σ') : RefP σ' pe le pt lt t := ⟨h.em.le k, SlV.le h.tr k⟩
theorem TabP.le' (h : TabP σ pe le pt lt t) (k : Le σ σ') : TabP σ' pe le pt lt t := ⟨h.em.le k, SlV.le h.tr k⟩
theorem RefP.len (h : RefP σ pe le pt lt t) : t.nt = lt := by have := h.tr.2.1; simpa using this
theorem TabP.len (h : TabP σ pe le pt lt t) : t.nt = lt := by have := h.tr.2.1; simpa using this
def emp (t : Tab) (a b : Nat) : Int := (t.empty.getD a []).getD b 0
def zIJ (pl : Int) (r : List Int) : Bool := decide ((r.length : Int) = pl) && r.all fun x => inB x 0 600
def dgB (t : Tab) : Bool := (List.range t.places.toNat).all fun p => decide (emp t p p = 0)
def tabB (t : Tab) : Bool := inB t.places 1 6 && inB t.layover 0 600 && decide ((t.empty.length : Int) = t.places) && t.empty.all (zIJ t.places) && dgB t && t.trips.all (zAP t.places)
def vS (t : Tab) : Int := if 12 < t.nt then 3 else if tabB t then 0 else 1
structure Valid (t : Tab) : Prop where
 nt : t.nt ≤ 12
 ok : tabB t = true
theorem valid_of (h : vS t = 0) : Valid t := by
 unfold vS at h
 split at h
 ·omega
 ·split at h
  ·exact ⟨by omega, by assumption⟩
  ·omega
theorem Valid.parts (h : Valid t) : (1 ≤ t.places ∧ t.places ≤ 6) ∧ (0 ≤ t.layover ∧ t.layover ≤ 600) ∧ (t.empty.length : Int) = t.places ∧ (∀ r ∈ t.empty, (r.length : Int) = t.places ∧ ∀ x ∈ r, 0 ≤ x ∧ x ≤ 600) ∧ (∀ p : Nat, (p : Int) < t.places → emp t p p = 0) ∧ ∀ x ∈ t.trips, zAP t.places x = true := by
 have h1 := h.ok
 simp only [tabB, Bool.and_eq_true, decide_eq_true_eq, List.all_eq_true, zIJ, dgB] at h1
 obtain ⟨⟨⟨⟨⟨h1, h2⟩, h3⟩, h4⟩, h5⟩, h6⟩ := h1
 exact ⟨zAM.1 h1, zAM.1 h2, h3, fun r hr => ⟨(h4 r hr).1, fun x hx => zAM.1 ((h4 r hr).2 x hx)⟩, fun p hp => h5 p (by simp; omega), h6⟩
theorem emp_at {a b : Nat} {r : List Int} {x : Int} (h : t.empty[a]? = some r) (k : r[b]? = some x) : emp t a b = x := by simp [emp, List.getD_eq_getElem?_getD, h, k]
theorem Valid.emp (h : Valid t) (a b : Nat) : 0 ≤ emp t a b ∧ emp t a b ≤ 600 := by
 obtain ⟨_, _, _, h4, _, _⟩ := h.parts
 unfold Go.Proofs.Ytmdopblmkkameaa.emp
 rw [List.getD_eq_getElem?_getD (l := t.empty), List.getD_eq_getElem?_getD]
 cases hr : t.empty[a]? with
 | none => simp
 | some r =>
  cases hx : r[b]? with
  | none => simp [hx]
  | some x => simp only [Option.getD_some, hx]; exact (h4 r (List.mem_of_getElem? hr)).2 x (List.mem_of_getElem? hx)
theorem Valid.trip (h : Valid t) {i : Nat} {x : Trip} (hx : t.trips[i]? = some x) : 0 ≤ x.fr ∧ x.fr < t.places ∧ 0 ≤ x.to ∧ x.to < t.places ∧ 0 ≤ x.st ∧ x.st ≤ 2000 ∧ 1 ≤ x.least ∧ x.least ≤ x.most ∧ x.most ≤ 600 ∧ 0 ≤ x.kind ∧ x.kind ≤ 2 := tripB_iff (h.parts.2.2.2.2.2 x (List.mem_of_getElem? hx))
theorem place_c {n : Int} (hp : -100000 ≤ t.places ∧ t.places ≤ 100000) : zD Pg 90 [.agg ⟨yB t pe le ce pt lt ct⟩, iV n] σ (.bool (inB n 0 (t.places - 1))) σ := (place_ra zEU ⟨rfl, Nat.le_refl _⟩).pure
theorem trip_c {x : Trip} (hp : -100000 ≤ t.places ∧ t.places ≤ 100000) : zD Pg 77 [.agg ⟨yB t pe le ce pt lt ct⟩, vB x] σ (.bool (zAP t.places x)) σ := by
 obtain ⟨y, hy⟩ : ∃ y, y = (σ.re.row (yB t pe le ce pt lt ct) 4).row (zEW x) 6 := ⟨_, rfl⟩
 have u1 := place_c (σ := y) (t := t) (pe := pe) (le := le) (ce := ce) (pt := pt) (lt := lt) (ct := ct) (n := x.fr) hp
 have u2 := place_c (σ := y) (t := t) (pe := pe) (le := le) (ce := ce) (pt := pt) (lt := lt) (ct := ct) (n := x.to) hp
 have u3 := zEU (σ := y) (n := x.st) (lo := 0) (hi := 2000)
 have u4 := zEU (σ := y) (n := x.least) (lo := 1) (hi := x.most)
 have u5 := minutes_c (σ := y) (n := x.most)
 have u6 := zEU (σ := y) (n := x.kind) (lo := 0) (hi := 2)
 rw [hy] at u1 u2 u3 u4 u5 u6
 unfold zAP
 cases h1 : inB x.fr 0 (t.places - 1) with
 | false => rw [h1] at u1; exact (trip_rf u1 ⟨by simp, Nat.le_refl _⟩).pure
 | true =>
 rw [h1] at u1
 cases h2 : inB x.to 0 (t.places - 1) with
 | false => rw [h2] at u2; exact (trip_re u1 u2 ⟨by simp, Nat.le_refl _⟩).pure
 | true =>
 rw [h2] at u2
 cases h3 : inB x.st 0 2000 with
 | false => rw [h3] at u3; exact (trip_rd u1 u2 u3 ⟨by simp, Nat.le_refl _⟩).pure
 | true =>
 rw [h3] at u3
 cases h4 : inB x.least 1 x.most with
 | false => rw [h4] at u4; exact (trip_rc u1 u2 u3 u4 ⟨by simp, Nat.le_refl _⟩).pure
 | true =>
 rw [h4] at u4
 cases h5 : inB x.most 0 600 with
 | false => rw [h5] at u5; exact (trip_rb u1 u2 u3 u4 u5 ⟨by simp, Nat.le_refl _⟩).pure
 | true =>
  rw [h5] at u5
  exact (trip_ra u1 u2 u3 u4 u5 u6 ⟨by simp, Nat.le_refl _⟩).pure
theorem check1_c {b : Nat} {q : Option Addr} {c : Nat} {r : List Int} (h : yU σ q r.length r) (hl : r.length ≤ 1073741824) (o : Own σ b (yB t pe le ce pt lt ct) 4) : zD Pg 74 [.slice q r.length c, .pointer (some ⟨b, 0, none⟩)] σ (.bool (zIJ t.places r)) σ := by
 have o' := o.re
 have ld := o'.ld (P := Pg) rfl yD (k := 0) (v := iV t.places) rfl
 unfold zIJ
 by_cases e : (r.length : Int) = t.places
 ·have ca := allI_c (σ := σ.re) (g := 75) (gc := []) (f := fun x => inB x 0 600) (cap := c) h.re hl (fun x _ τ _ => minutes_c)
  exact (check1_ra ld ca ⟨by simp [e], Nat.le_refl _⟩).pure
 ·exact (check1_rb ld ⟨by simp [e], Nat.le_refl _⟩).pure
theorem dg_take {n : Nat} (f : Nat → Bool) (hn : n ≤ t.places.toNat) (h : (List.range n).all f = true) (hf : f n = false) (hlt : n < t.places.toNat) : (List.range t.places.toNat).all f = false := by
 rw [List.all_eq_false]
 exact ⟨n, by simpa using hlt, by simp [hf]⟩
theorem check_c (h : TabP σ pe le pt lt t) (hle : le ≤ 1073741824) (hlt : lt ≤ 1073741824) (hr : ∀ r ∈ t.empty, r.length ≤ 1073741824) : zD Pg 47 [.agg ⟨yB t pe le ce pt lt ct⟩] σ (iV (vS t)) σ := by
 have h1 := h.len; have h2 := h.em.len
 refine zN.pure ?_
 unfold vS
 by_cases hl : 12 < lt
 ·rw [if_pos (by omega)]; exact check_ra ⟨rfl, Nat.le_refl _⟩
 rw [if_neg (by omega)]
 obtain ⟨y, hy⟩ : ∃ y, y = σ.re.row (yB t pe le ce pt lt ct) 4 := ⟨_, rfl⟩
 have N1 : New σ.re y := by rw [hy]; exact New.row _ _ _
 have o : Own y σ.re.next (yB t pe le ce pt lt ct) 4 := by rw [hy]; exact zC _ _ _
 have hle' := (le0 σ).trans N1.le
 have hT := h.le' hle'
 have u1 := zEU (σ := y) (n := t.places) (lo := 1) (hi := 6)
 have u2 := minutes_c (σ := y) (n := t.layover)
 have u3 := allR_c (σ := y) (g := 74) (gc := [.pointer (some ⟨σ.re.next, 0, none⟩)]) (f := zIJ t.places) (cap := ce) hT.em hle (fun r hr' q c τ hτ hq => check1_c hq (hr r hr') (o.le hτ))
 rw [hy] at u1 u2 u3
 unfold tabB
 cases b1 : inB t.places 1 6 with
 | false => rw [b1] at u1; exact check_rf u1 ⟨by simp, Nat.le_refl _⟩
 | true =>
 rw [b1] at u1
 have b1 := zAM.1 b1
 cases b2 : inB t.layover 0 600 with
 | false => rw [b2] at u2; exact check_re u1 u2 ⟨by simp, Nat.le_refl _⟩
 | true =>
 rw [b2] at u2
 by_cases b3 : (le : Int) = t.places
 rotate_left
 ·exact check_rb u1 u2 ⟨by simp; intro h; omega, Nat.le_refl _⟩
 have b3' : (t.empty.length : Int) = t.places := by omega
 cases b4 : t.empty.all (zIJ t.places) with
 | false => rw [b4] at u3; exact check_rd u1 u2 u3 ⟨by simp, Nat.le_refl _⟩
 | true =>
 rw [b4] at u3
 simp only [Bool.true_and, b3', decide_true]
 have hrow : ∀ r ∈ t.empty, (r.length : Int) = t.places := fun r hr => by
  have := List.all_eq_true.1 b4 r hr
  simp only [zIJ, Bool.and_eq_true, decide_eq_true_eq] at this
  exact this.1
 refine check_rc u1 u2 u3 (Pr := fun n τ => n = 1 ∧ New σ.re τ ∧ dgB t = false) (P1 := fun τ => τ = y ∧ dgB t = true) ?_ ?_ ?_
 ·rw [← hy]
  refine check_loop1 (Inv := fun k i τ => ∃ j : Nat, i = j ∧ j + k = t.places.toNat ∧ τ = y ∧ (List.range j).all (fun p => decide (emp t p p = 0)) = true) ?_ t.places.toNat 0 y ⟨0, rfl, by omega, rfl, by simp⟩
  rintro k i τ ⟨j, rfl, hk, rfl, ha⟩
  by_cases hj : (j : Int) < t.places
  rotate_left
  ·have : j = t.places.toNat := by omega
   subst this
   exact check_s1c ⟨rfl, ha⟩
  obtain ⟨a, rfl, r, q, c, hri, hld, hq⟩ := hT.em.row (i := j) (by omega)
  have hrl := hrow r (List.mem_of_getElem? hri)
  obtain ⟨ar, rfl, x, hx, ldx⟩ := vP hq (i := j) (by omega)
  have ex := emp_at hri hx
  by_cases h0 : x = 0
  ·refine check_s1b (o.ld rfl zAN (k := 2) rfl) (hld _ (Le.refl _)) ldx ⟨k - 1, by omega, j + 1, by omega, by omega, rfl, ?_⟩
   rw [List.range_succ, List.all_append, ha]; simp [ex, h0]
  ·refine check_s1a (o.ld rfl zAN (k := 2) rfl) (hld _ (Le.refl _)) ldx ⟨rfl, N1, ?_⟩
   exact dg_take (fun p => decide (emp t p p = 0)) (by omega) ha (by simp [ex, h0]) (by omega)
 ·rintro n τ ⟨rfl, h1, h2⟩
  exact check_t1xra ⟨by rw [h2]; simp, h1.lw⟩
 ·rintro τ ⟨rfl, h2⟩
  rw [h2]
  have u4 := allT_c (σ := τ) (g := 77) (ga := [.agg ⟨yB t pe le ce pt lt ct⟩]) (gc := []) (f := zAP t.places) (cap := ct) hT.tr hlt (fun x hx τ' hτ' => trip_c (by omega))
  have l1 := o.ldN (P := Pg) wB yY (k := 0) (ds := yB t pe le ce pt lt ct) rfl rfl (by simp)
  cases b5 : t.trips.all (zAP t.places) with
  | true => rw [b5] at u4; exact check_t1x1a l1 (o.ld rfl zEB (k := 3) rfl) u4 ⟨by simp, N1.lw⟩
  | false => rw [b5] at u4; exact check_t1x1b l1 (o.ld rfl zEB (k := 3) rfl) u4 ⟨by simp, N1.lw⟩
end
end Go.Proofs.Ytmdopblmkkameaa
