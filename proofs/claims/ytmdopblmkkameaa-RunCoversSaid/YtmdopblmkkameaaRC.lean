
import Derived.Test.YtmdopblmkkameaaRB
namespace Go.Proofs.Ytmdopblmkkameaa
open Go Go.Lay
open Try renaming prog → Pg
set_option linter.unusedVariables false
set_option linter.unusedSimpArgs false
set_option maxRecDepth 20000
abbrev vH (l : List Nat) : List Int := l.map fun i : Nat => (i : Int)
theorem natI_get {l : List Nat} {j : Nat} {x : Int} (h : (vH l)[j]? = some x) : ∃ i : Nat, l[j]? = some i ∧ x = i := by
 rw [List.getElem?_map] at h
 cases hl : l[j]? with
 | none => rw [hl] at h; cases h
 | some i => rw [hl] at h; cases h; exact ⟨i, rfl, rfl⟩
theorem trip_eq {a b : Trip} {o1 o2 : Operand} : zIL Pg .eql 79 o1 o2 (vB a) (vB b) = some (.bool (decide (a = b))) := by
 have h : yT Pg (Op.equal 79 (vB a) (vB b)) = some (decide (a = b)) := by
  have h := pv_rec (P := Pg) (t := 79) (n := 6) (d := 9998) (by kernel_rfl) («as» := [a.fr, a.to, a.st, a.least, a.most, a.kind]) (bs := [b.fr, b.to, b.st, b.least, b.most, b.kind]) rfl rfl
  have e : decide (a = b) = decide ([a.fr, a.to, a.st, a.least, a.most, a.kind] = [b.fr, b.to, b.st, b.least, b.most, b.kind]) := decide_eq_decide.2 ⟨fun h => by rw [h], fun h => by
   simp at h; cases a; cases b; simp_all⟩
  rw [e]; exact h
 have e : ∀ (x1 x2 x3 x4 x5 x6 y1 y2 y3 y4 y5 y6 : Int), zIL Pg .eql 79 o1 o2 (.agg ⟨zA x1 x2 x3 x4 x5 x6⟩) (.agg ⟨zA y1 y2 y3 y4 y5 y6⟩) = (yT Pg (do eqGuard .eql 79 o1 o2 (.agg ⟨zA x1 x2 x3 x4 x5 x6⟩) (.agg ⟨zA y1 y2 y3 y4 y5 y6⟩); binOp .eql 79 (.agg ⟨zA x1 x2 x3 x4 x5 x6⟩) (.agg ⟨zA y1 y2 y3 y4 y5 y6⟩))).filter (zS RD) := fun _ _ _ _ _ _ _ _ _ _ _ _ => by kernel_rfl
 have e1 : ∀ (x1 x2 x3 x4 x5 x6 y1 y2 y3 y4 y5 y6 : Int), yT Pg (eqGuard .eql 79 o1 o2 (.agg ⟨zA x1 x2 x3 x4 x5 x6⟩) (.agg ⟨zA y1 y2 y3 y4 y5 y6⟩)) = some () := fun _ _ _ _ _ _ _ _ _ _ _ _ => by kernel_rfl
 have e2 : ∀ x y : List Value, binOp .eql 79 (.agg ⟨x⟩) (.agg ⟨y⟩) = (do let r ← Op.equal 79 (.agg ⟨x⟩) (.agg ⟨y⟩); pure (.bool r)) := fun _ _ => rfl
 rw [e, zBI, e1]
 simp only [Option.bind_some]
 rw [e2, zBI, h]
 rfl
def mayB (t : Tab) (a b : Trip) : Bool := decide (a.kind = b.kind) && decide (a.st + a.most + t.layover + emp t a.to.toNat b.fr.toNat ≤ b.st)
def xL (t : Tab) (i k : Nat) : Bool := match t.trips[i]?, t.trips[k]? with | some a, some b => mayB t a b | _, _ => false
theorem mayI_eq {t : Tab} {i k : Nat} {a b : Trip} (h : t.trips[i]? = some a) (h2 : t.trips[k]? = some b) : xL t i k = mayB t a b := by simp [xL, h, h2]
section
variable {σ σ' : St} {t : Tab} {pe pt : Option Addr} {le ce lt ct : Nat}
theorem mayB_self (hv : Valid t) {i : Nat} {a : Trip} (h : t.trips[i]? = some a) : mayB t a a = false := by
 have h1 := hv.trip h
 have h2 := hv.parts.2.1
 have h3 := hv.emp a.to.toNat a.fr.toNat
 simp only [mayB, decide_true, Bool.true_and, decide_eq_false_iff_not]
 omega
theorem mayI_self (hv : Valid t) (i : Nat) : xL t i i = false := by
 unfold xL
 cases h : t.trips[i]? with
 | none => rfl
 | some a => exact mayB_self hv h
theorem mayI_lt {i k : Nat} (h : xL t i k = true) : i < t.nt ∧ k < t.nt := by
 unfold xL at h
 cases h1 : t.trips[i]? with
 | none => rw [h1] at h; cases h
 | some a =>
  cases h2 : t.trips[k]? with
  | none => rw [h1, h2] at h; cases h
  | some b => exact ⟨(List.getElem?_eq_some_iff.1 h1).1, (List.getElem?_eq_some_iff.1 h2).1⟩
theorem rFault_c (h : RefP σ pe le pt lt t) (hle : le ≤ 1073741824) (hlt : lt ≤ 1073741824) : zD Pg 35 [.agg ⟨yB t pe le ce pt lt ct⟩] σ (iV (vS t)) σ := by
 have h1 := h.len; have h2 := h.em.len; have h1x : t.trips.length = lt := h1
 refine zN.pure ?_
 unfold vS
 by_cases hl : 12 < lt
 ·rw [if_pos (by omega)]; exact rFault_ra ⟨rfl, Nat.le_refl _⟩
 rw [if_neg (by omega)]
 obtain ⟨y, hy⟩ : ∃ y, y = σ.re.row (yB t pe le ce pt lt ct) 4 := ⟨_, rfl⟩
 obtain ⟨n0, hn0⟩ : ∃ n0, n0 = σ.re.next := ⟨_, rfl⟩
 have N1 : New σ.re y := by rw [hy]; exact New.row _ _ _
 have o : Own y n0 (yB t pe le ce pt lt ct) 4 := by rw [hy, hn0]; exact zC _ _ _
 have hle' := (le0 σ).trans N1.le
 have hT := h.le' hle'
 have u1 := rIn_c (σ := y) (n := t.places) (lo := 1) (hi := 6)
 have u2 := rIn_c (σ := y) (n := t.layover) (lo := 0) (hi := 600)
 rw [hy] at u1 u2
 unfold tabB
 cases b1 : inB t.places 1 6 with
 | false => rw [b1] at u1; exact rFault_re u1 ⟨by simp, Nat.le_refl _⟩
 | true =>
 rw [b1] at u1
 have b1 := zAM.1 b1
 cases b2 : inB t.layover 0 600 with
 | false => rw [b2] at u2; exact rFault_rd u1 u2 ⟨by simp, Nat.le_refl _⟩
 | true =>
 rw [b2] at u2
 by_cases b3 : (le : Int) = t.places
 rotate_left
 ·exact rFault_rb u1 u2 ⟨by simp; intro h; omega, Nat.le_refl _⟩
 have b3' : (t.empty.length : Int) = t.places := by omega
 simp only [Bool.true_and, b3', decide_true]
 have bad : ∀ (j : Nat) (r : List Int), t.empty[j]? = some r → zIJ t.places r = false → (t.empty.all (zIJ t.places) && dgB t && t.trips.all (zAP t.places)) = false := fun j r hr hb => by
  have : t.empty.all (zIJ t.places) = false := List.all_eq_false.2 ⟨r, List.mem_of_getElem? hr, by simp [hb]⟩
  rw [this]; rfl
 refine rFault_rc u1 u2 (Pr := fun n τ => n = 1 ∧ τ = y ∧ (t.empty.all (zIJ t.places) && dgB t && t.trips.all (zAP t.places)) = false) (P0 := fun τ => τ = y ∧ t.empty.all (zIJ t.places) = true ∧ dgB t = true) ?_ ?_ ?_
 ·rw [← hy, ← hn0]
  refine rFault_loop1 (Inv := fun k i τ => ∃ j : Nat, i = j ∧ j + k = le ∧ τ = y ∧ (t.empty.take j).all (zIJ t.places) = true ∧ (List.range j).all (fun p => decide (emp t p p = 0)) = true) ?_ le 0 y ⟨0, rfl, by omega, rfl, by simp, by simp⟩
  rintro k i τ ⟨j, rfl, hk, rfl, ha, hd⟩
  have lp := o.ld (P := Pg) rfl yD (k := 0) (v := iV t.places) rfl
  by_cases hj : (j : Int) < t.places
  rotate_left
  ·have : j = le := by omega
   subst this
   refine rFault_s1d lp ⟨rfl, by rwa [List.take_of_length_le (by omega)] at ha, ?_⟩
   unfold dgB
   rw [show t.places.toNat = j by omega]; exact hd
  have le22 := o.ld (P := Pg) rfl zAN (k := 2) (v := .slice pe le ce) rfl
  obtain ⟨a, rfl, r, q, c, hri, hld, hq⟩ := hT.em.row (i := j) (by omega)
  have hld := hld _ (Le.refl _)
  by_cases hrl : (r.length : Int) = t.places
  rotate_left
  ·exact rFault_s1a lp le22 hld ⟨rfl, rfl, bad j r hri (by simp [zIJ, hrl])⟩
  obtain ⟨ar, rfl, x, hx, ldx⟩ := vP hq (i := j) (by omega)
  have ex := emp_at hri hx
  by_cases h0 : x = 0
  rotate_left
  ·refine rFault_s1b lp le22 hld ldx ⟨rfl, rfl, ?_⟩
   have : dgB t = false := dg_take (fun p => decide (emp t p p = 0)) (by omega) hd (by simp [ex, h0]) (by omega)
   rw [this]; simp
  refine rFault_s1c lp le22 hld ldx (Pr := fun n τ' => n = 1 ∧ τ' = τ ∧ zIJ t.places r = false) (P2 := fun τ' => τ' = τ ∧ zIJ t.places r = true) ?_ ?_ ?_
  ·refine rFault_loop2 (Inv := fun k i τ' => ∃ b : Nat, i = b ∧ b + k = r.length ∧ τ' = τ ∧ (r.take b).all (fun x => inB x 0 600) = true) ?_ r.length 0 τ ⟨0, rfl, by omega, rfl, by simp⟩
   rintro k' i τ' ⟨b, rfl, hk', rfl, hb⟩
   by_cases hbl : (b : Int) < t.places
   rotate_left
   ·exact rFault_s2c lp ⟨rfl, by simp only [zIJ, hrl, decide_true, Bool.true_and]; rwa [List.take_of_length_le (by omega)] at hb⟩
   obtain ⟨_, e, x, hx, ldx⟩ := vP hq (i := b) (by omega)
   cases e
   have ci := rIn_c (σ := τ') (n := x) (lo := 0) (hi := 600)
   have hs := all_snoc (f := fun x => inB x 0 600) hx hb
   cases hbb : inB x 0 600 with
   | true => rw [hbb] at ci hs; exact rFault_s2a lp le22 hld ldx ci ⟨k' - 1, by omega, b + 1, by omega, by omega, rfl, hs⟩
   | false =>
    rw [hbb] at ci hs
    refine rFault_s2b lp le22 hld ldx ci ⟨rfl, rfl, ?_⟩
    have := all_false (i := b + 1) hs
    simp only [zIJ, this, Bool.and_false]
  ·rintro n τ' ⟨rfl, rfl, hb⟩
   exact rFault_t2xra ⟨rfl, rfl, bad j r hri hb⟩
  ·rintro τ' ⟨rfl, hb⟩
   exact rFault_t2x2a ⟨k - 1, by omega, j + 1, by omega, by omega, rfl, by rw [all_snoc hri ha]; exact hb, by rw [List.range_succ, List.all_append, hd]; simp [ex, h0]⟩
 ·rintro n τ ⟨rfl, rfl, hb⟩
  exact rFault_t1xra ⟨by rw [hb]; simp, N1.lw⟩
 ·rintro τ ⟨rfl, hA, hB⟩
  rw [hA, hB, ← hn0]
  simp only [Bool.true_and]
  refine rFault_t1x0a (Pr := fun n τ' => n = 1 ∧ New σ.re τ' ∧ t.trips.all (zAP t.places) = false) (P4 := fun τ' => New σ.re τ' ∧ t.trips.all (zAP t.places) = true) ?_ ?_ ?_
  rotate_left
  ·rintro n τ' ⟨rfl, h1, h2⟩
   exact rFault_t3xra ⟨by rw [h2]; simp, h1.lw⟩
  ·rintro τ' ⟨h1, h2⟩
   exact rFault_t3x4a ⟨by rw [h2]; simp, h1.lw⟩
  refine rFault_loop3 (Inv := fun k i τ' => ∃ j : Nat, i = j ∧ j + k = lt ∧ New σ.re τ' ∧ Own τ' n0 (yB t pe le ce pt lt ct) 4 ∧ (t.trips.take j).all (zAP t.places) = true) ?_ lt 0 τ ⟨0, rfl, by omega, N1, o, by simp⟩
  rintro k i τ' ⟨j, rfl, hk, k1, o', ha⟩
  by_cases hj : j < lt
  rotate_left
  ·exact rFault_s3h (o'.ld rfl wE (k := 3) rfl) ⟨k1, by rwa [List.take_of_length_le (by omega)] at ha⟩
  obtain ⟨a, rfl, x, hx, ldx⟩ := vP (h.le' ((le0 σ).trans k1.le)).tr hj
  have n2 : New τ' ((τ'.row (zA 0 0 0 0 0 0) 6).own τ'.next (zEW x) 6) := (New.row _ _ _).own (Nat.le_refl _)
  have o2 := o'.le n2.le
  have hs := all_snoc (f := zAP t.places) hx ha
  have lp := o2.ld (P := Pg) rfl yD (k := 0) (v := iV t.places) rfl
  have l23 := o'.ld (P := Pg) rfl wE (k := 3) (v := .slice (some a) lt ct) rfl
  have v1 := rIn_c (σ := (τ'.row (zA 0 0 0 0 0 0) 6).own τ'.next (zEW x) 6) (n := x.fr) (lo := 0) (hi := t.places - 1)
  have v2 := rIn_c (σ := (τ'.row (zA 0 0 0 0 0 0) 6).own τ'.next (zEW x) 6) (n := x.to) (lo := 0) (hi := t.places - 1)
  have v3 := rIn_c (σ := (τ'.row (zA 0 0 0 0 0 0) 6).own τ'.next (zEW x) 6) (n := x.st) (lo := 0) (hi := 2000)
  have v4 := rIn_c (σ := (τ'.row (zA 0 0 0 0 0 0) 6).own τ'.next (zEW x) 6) (n := x.least) (lo := 1) (hi := x.most)
  have v5 := rIn_c (σ := (τ'.row (zA 0 0 0 0 0 0) 6).own τ'.next (zEW x) 6) (n := x.kind) (lo := 0) (hi := 2)
  have ex : zAP t.places x = false → t.trips.all (zAP t.places) = false := fun e => by rw [e] at hs; exact all_false (i := j + 1) hs
  cases c1 : inB x.fr 0 (t.places - 1) with
  | false => rw [c1] at v1; exact rFault_s3g l23 ldx lp v1 ⟨rfl, k1.trans n2, ex (by simp [zAP, c1])⟩
  | true =>
  rw [c1] at v1
  cases c2 : inB x.to 0 (t.places - 1) with
  | false => rw [c2] at v2; exact rFault_s3f l23 ldx lp v1 v2 ⟨rfl, k1.trans n2, ex (by simp [zAP, c2])⟩
  | true =>
  rw [c2] at v2
  cases c3 : inB x.st 0 2000 with
  | false => rw [c3] at v3; exact rFault_s3e l23 ldx lp v1 v2 v3 ⟨rfl, k1.trans n2, ex (by simp [zAP, c3])⟩
  | true =>
  rw [c3] at v3
  cases c4 : inB x.least 1 x.most with
  | false => rw [c4] at v4; exact rFault_s3d l23 ldx lp v1 v2 v3 v4 ⟨rfl, k1.trans n2, ex (by simp [zAP, c4])⟩
  | true =>
  rw [c4] at v4
  have c4' := zAM.1 c4
  by_cases c5 : 600 < x.most
  ·have : inB x.most 0 600 = false := by simp [inB]; omega
   exact rFault_s3a l23 ldx lp v1 v2 v3 v4 ⟨rfl, k1.trans n2, ex (by simp [zAP, this])⟩
  have c5' : inB x.most 0 600 = true := zAM.2 (by omega)
  cases c6 : inB x.kind 0 2 with
  | false => rw [c6] at v5; exact rFault_s3c l23 ldx lp v1 v2 v3 v4 v5 ⟨rfl, k1.trans n2, ex (by simp [zAP, c6])⟩
  | true =>
   rw [c6] at v5
   exact rFault_s3b l23 ldx lp v1 v2 v3 v4 v5 ⟨k - 1, by omega, j + 1, by omega, by omega, k1.trans n2, o2, by rw [hs]; simp [zAP, c1, c2, c3, c4, c5', c6]⟩
theorem fault_c (h : RefP σ pe le pt lt t) (hle : le ≤ 1073741824) (hlt : lt ≤ 1073741824) : zD Pg 22 [.agg ⟨yB t pe le ce pt lt ct⟩] σ (iV (vS t)) σ :=
 (fault_ra (rFault_c (h.le' ((le0 σ).trans (Le.row _ _ _))) hle hlt) ⟨rfl, Nat.le_refl _⟩).pure
structure ThinT (t : Tab) (le lt : Nat) : Prop where
 e : le ≤ 15
 r : ∀ r ∈ t.empty, r.length ≤ 15
 n : lt ≤ 15
theorem short_cases {p : Option Addr} {l c : Nat} {rs : List (List Int)} (h : wU σ p l rs) : zD Pg 16 [.slice p l c] σ (.bool false) σ ∨ (l ≤ 15 ∧ (∀ r ∈ rs, r.length ≤ 15) ∧ zD Pg 16 [.slice p l c] σ (.bool true) σ) := by
 rcases short_c (c := c) h with h1 | h1
 ·cases hb : (decide (l ≤ 15) && rs.all fun r => decide (r.length ≤ 15)) with
  | false => rw [hb] at h1; exact .inl h1
  | true =>
   rw [hb] at h1
   simp only [Bool.and_eq_true, decide_eq_true_eq, List.all_eq_true] at hb
   exact .inr ⟨hb.1, hb.2, h1⟩
 ·exact .inl h1.2
theorem thin_c (h : RefP σ pe le pt lt t) : zD Pg 36 [.agg ⟨yB t pe le ce pt lt ct⟩] σ (.bool false) σ ∨ (ThinT t le lt ∧ zD Pg 36 [.agg ⟨yB t pe le ce pt lt ct⟩] σ (.bool true) σ) := by
 rcases short_cases (c := ce) (h.em.le ((le0 σ).trans (Le.row σ.re (yB t pe le ce pt lt ct) 4))) with h1 | ⟨h1, h2, h3⟩
 ·exact .inl (thin_rc h1 ⟨rfl, Nat.le_refl _⟩).pure
 ·by_cases hn : lt ≤ 15
  ·exact .inr ⟨⟨h1, h2, hn⟩, (thin_ra h3 ⟨rfl, Nat.le_refl _⟩).pure⟩
  ·exact .inl (thin_rb h3 ⟨rfl, Nat.le_refl _⟩).pure
theorem few_c (h : RefP σ pe le pt lt t) : zD Pg 15 [.agg ⟨yB t pe le ce pt lt ct⟩] σ (.bool false) σ ∨ (ThinT t le lt ∧ zD Pg 15 [.agg ⟨yB t pe le ce pt lt ct⟩] σ (.bool true) σ) := by
 have hR := h.le' ((le0 σ).trans (Le.row σ.re (yB t pe le ce pt lt ct) 4))
 rcases thin_c (ce := ce) (ct := ct) hR with h1 | ⟨h1, h2⟩
 ·exact .inl (few_rd h1 ⟨rfl, Nat.le_refl _⟩).pure
 ·have h3 := rFault_c (ce := ce) (ct := ct) hR (by have := h1.e; omega) (by have := h1.n; omega)
  by_cases hz : vS t = 0
  ·rw [hz] at h3
   by_cases h7 : lt ≤ 7
   ·exact .inr ⟨h1, (few_rb h2 h3 ⟨rfl, Nat.le_refl _⟩).pure⟩
   ·exact .inl (few_rc h2 h3 ⟨rfl, Nat.le_refl _⟩).pure
  ·exact .inr ⟨h1, (few_ra h2 h3 ⟨rfl, Nat.le_refl _⟩).pure⟩
end
end Go.Proofs.Ytmdopblmkkameaa
