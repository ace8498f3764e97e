
import Derived.Test.YtmdopblmkkameaaRC
namespace Go.Proofs.Ytmdopblmkkameaa
open Go Go.Lay
open Try renaming prog → Pg
set_option linter.unusedVariables false
set_option linter.unusedSimpArgs false
set_option maxRecDepth 20000
theorem zBX {n : Nat} {t : Tab} {pe pt : Option Addr} {le ce lt ct : Nat} (h1 : ∀ a, pe = some a → a.block < n) (h2 : ∀ a, pt = some a → a.block < n) : xF RD n (.agg ⟨yB t pe le ce pt lt ct⟩) = true := by
 cases pe with
 | none => cases pt with
  | none => rfl
  | some b => show (true && (true && (true && (Nat.blt b.block n && true)))) = true; rw [(yO _ _).2 (h2 b rfl)]; rfl
 | some a => cases pt with
  | none => show (true && (true && (Nat.blt a.block n && (true && true)))) = true; rw [(yO _ _).2 (h1 a rfl)]; rfl
  | some b => show (true && (true && (Nat.blt a.block n && (Nat.blt b.block n && true)))) = true; rw [(yO _ _).2 (h1 a rfl), (yO _ _).2 (h2 b rfl)]; rfl
section
variable {σ σ' : St} {t : Tab} {pe pt : Option Addr} {le ce lt ct : Nat}
theorem wU.ltb (h : wU σ pe le t.empty) : ∀ a, pe = some a → a.block < σ.next := by
 obtain ⟨vs, h1, _⟩ := h
 exact uI h1
theorem Valid.lee (hv : Valid t) (h : wU σ pe le t.empty) : (le : Int) = t.places := by have := hv.parts.2.2.1; have := h.len; omega
theorem rReady_c (h : RefP σ pe le pt lt t) (hv : Valid t) {i : Nat} {x : Trip} (hx : t.trips[i]? = some x) {takes : Int} (ht : 0 ≤ takes ∧ takes ≤ 100000) {pl : Nat} (hp : (pl : Int) < t.places) :
  zD Pg 68 [.agg ⟨yB t pe le ce pt lt ct⟩, iV (i : Int), iV takes, iV (pl : Int)] σ (iV (x.st + takes + t.layover + emp t x.to.toNat pl)) σ := by
 have hl : t.trips.length = lt := h.len
 have hi : i < lt := by have := (List.getElem?_eq_some_iff.1 hx).1; omega
 have hB := hv.trip hx
 obtain ⟨hpl, hlay, _, hrows, _, _⟩ := hv.parts
 have hle := hv.lee h.em
 obtain ⟨y1, hy1⟩ : ∃ y, y = σ.re.row (yB t pe le ce pt lt ct) 4 := ⟨_, rfl⟩
 have N1 : New σ.re y1 := by rw [hy1]; exact New.row _ _ _
 obtain ⟨y2, hy2⟩ : ∃ y, y = (y1.row (zA 0 0 0 0 0 0) 6).own (σ.re.next + 1) (zEW x) 6 := ⟨_, rfl⟩
 have nx1 : y1.next = σ.re.next + 1 := by rw [hy1]; rfl
 have N2 : New y1 y2 := by rw [hy2]; exact (New.row _ _ _).own (by omega)
 obtain ⟨at_, rfl, x', hx', ldx⟩ := vP (h.le' ((le0 σ).trans N1.le)).tr hi
 rw [hx] at hx'; cases hx'
 obtain ⟨n, hn⟩ : ∃ n : Nat, x.to = n := ⟨x.to.toNat, by omega⟩
 obtain ⟨ae, rfl, r, q, c, hr, hld, hq⟩ := h.em.row (i := n) (by omega)
 have hrl := (hrows r (List.mem_of_getElem? hr)).1
 have N12 := N1.trans N2
 have hle2 := (le0 σ).trans N12.le
 obtain ⟨aq, rfl, v, hv', ldv⟩ := vP (SlV.le hq hle2) (i := pl) (by omega)
 have ev : emp t x.to.toNat pl = v := by rw [hn]; exact emp_at hr hv'
 have hev := hv.emp x.to.toNat pl
 rw [ev] at hev ⊢
 have ld2 := hld _ hle2
 rw [← hn] at ld2
 rw [hy1] at ldx
 rw [hy2, hy1] at ld2 ldv N12
 exact (rReady_ra ldx ld2 ldv ⟨rfl, N12.lw⟩).pure
theorem rMay_c (h : RefP σ pe le pt lt t) (hv : Valid t) {i k : Nat} (hi : i < lt) (hk : k < lt) : zD Pg 52 [.agg ⟨yB t pe le ce pt lt ct⟩, iV (i : Int), iV (k : Int)] σ (.bool (xL t i k)) σ := by
 have hl : t.trips.length = lt := h.len
 refine zN.pure ?_
 have hlx : t.trips.length = lt := hl
 obtain ⟨a, ha⟩ : ∃ a, t.trips[i]? = some a := ⟨t.trips[i], by simp⟩
 obtain ⟨b, hb⟩ : ∃ b, t.trips[k]? = some b := ⟨t.trips[k], by simp⟩
 have hA := hv.trip ha; have hB := hv.trip hb
 obtain ⟨y1, hy1⟩ : ∃ y, y = σ.re.row (yB t pe le ce pt lt ct) 4 := ⟨_, rfl⟩
 obtain ⟨y2, hy2⟩ : ∃ y, y = y1.row (zA 0 0 0 0 0 0) 6 := ⟨_, rfl⟩
 obtain ⟨y3, hy3⟩ : ∃ y, y = y2.row (zA 0 0 0 0 0 0) 6 := ⟨_, rfl⟩
 obtain ⟨y4, hy4⟩ : ∃ y, y = y3.own (σ.re.next + 1) (zEW a) 6 := ⟨_, rfl⟩
 obtain ⟨y5, hy5⟩ : ∃ y, y = y4.own (σ.re.next + 2) (zEW b) 6 := ⟨_, rfl⟩
 have N1 : New σ.re y1 := by rw [hy1]; exact New.row _ _ _
 have nx1 : y1.next = σ.re.next + 1 := by rw [hy1]; rfl
 have N2 : New σ.re y2 := by rw [hy2]; exact N1.row'
 have N3 : New σ.re y3 := by rw [hy3]; exact N2.row'
 have N4 : New σ.re y4 := by rw [hy4]; exact N3.own (by omega)
 have N5 : New σ.re y5 := by rw [hy5]; exact N4.own (by omega)
 have o1 : Own y1 σ.re.next (yB t pe le ce pt lt ct) 4 := by rw [hy1]; exact zC _ _ _
 have o2 : Own y2 σ.re.next (yB t pe le ce pt lt ct) 4 := by rw [hy2]; exact o1.row
 have o3 : Own y3 σ.re.next (yB t pe le ce pt lt ct) 4 := by rw [hy3]; exact o2.row
 have o4 : Own y4 σ.re.next (yB t pe le ce pt lt ct) 4 := by rw [hy4]; exact o3.own (by omega)
 have ld : ∀ {y}, New σ.re y → ∃ at_, pt = some at_ ∧ zB Pg y 53 (zH at_ (Int.toNat (i : Int) * 6)) = some (vB a) ∧ zB Pg y 53 (zH at_ (Int.toNat (k : Int) * 6)) = some (vB b) := fun hN => by
  obtain ⟨at_, e, x, hx, l1⟩ := vP (h.le' ((le0 σ).trans hN.le)).tr hi
  obtain ⟨at2, e2, x2, hx2, l2⟩ := vP (h.le' ((le0 σ).trans hN.le)).tr hk
  rw [e] at e2; cases e2
  rw [ha] at hx; cases hx; rw [hb] at hx2; cases hx2
  exact ⟨at_, e, l1, l2⟩
 obtain ⟨at_, rfl, a1, b1⟩ := ld N1
 obtain ⟨_, e, a2, b2⟩ := ld N2; cases e
 obtain ⟨_, e, a3, b3⟩ := ld N3; cases e
 obtain ⟨_, e, a4, b4⟩ := ld N4; cases e
 have lat : at_.block < σ.re.next := uI h.tr _ rfl
 have l2 := o2.ld (P := Pg) rfl wE (k := 3) (v := .slice (some at_) lt ct) rfl
 have l3 := o3.ld (P := Pg) rfl wE (k := 3) (v := .slice (some at_) lt ct) rfl
 have l4 := o4.ld (P := Pg) rfl wE (k := 3) (v := .slice (some at_) lt ct) rfl
 obtain ⟨bf, hbf⟩ : ∃ n : Nat, b.fr = n := ⟨b.fr.toNat, by omega⟩
 have kr := rReady_c (ce := ce) (ct := ct) (h.le' ((le0 σ).trans N5.le)) hv ha (takes := a.most) (by omega) (pl := bf) (by omega)
 have er : emp t a.to.toNat b.fr.toNat = emp t a.to.toNat bf := by rw [hbf]; rfl
 rw [← hbf] at kr
 have hm : xL t i k = (decide (a.kind = b.kind) && decide (a.st + a.most + t.layover + emp t a.to.toNat bf ≤ b.st)) := by rw [mayI_eq ha hb, mayB, er]
 have bl : zI y5.next [.agg ⟨yB t pe le ce (some at_) lt ct⟩, iV (i : Int), iV a.most, iV b.fr] := by
  have n5 := N5.le.next
  refine zF (zBX (fun x e => ?_) (fun x e => ?_)) (zF (xS rfl) (zF (xS rfl) (zF (xS rfl) zG)))
  ·have := wU.ltb h.em x e; have : σ.re.next = σ.next := rfl; omega
  ·cases e; omega
 have lw5 := N5.lw
 have lw3 := N3.lw
 subst hy5 hy4 hy3 hy2 hy1
 by_cases hik : i = k
 ·subst hik
  rw [mayI_self hv]
  exact rMay_rd a1 b1 l2 l3 a2 a3 l4 b2 b3 b4 ⟨rfl, lw5⟩
 by_cases hkd : a.kind = b.kind
 rotate_left
 ·rw [hm]
  exact rMay_rc a1 b1 l2 l3 a2 a3 l4 b2 b3 b4 ⟨by simp [hkd], lw5⟩
 by_cases hst : a.st + a.most + t.layover + emp t a.to.toNat bf ≤ b.st
 ·rw [hm]
  exact rMay_ra a1 b1 l2 l3 a2 a3 l4 b2 b3 b4 kr bl ⟨by simp [hkd, hst], lw5⟩
 ·rw [hm]
  exact rMay_rb a1 b1 l2 l3 a2 a3 l4 b2 b3 b4 kr bl ⟨by simp [hst], lw5⟩
theorem most_c {x : Trip} : zD Pg 94 [vB x] σ (iV x.most) σ := (most_ra ⟨rfl, Nat.le_refl _⟩).pure
theorem ready_c (h : TabP σ pe le pt lt t) (hv : Valid t) {i : Nat} {x : Trip} (hx : t.trips[i]? = some x) {takes : Int} (ht : 0 ≤ takes ∧ takes ≤ 100000) {pl : Nat} (hp : (pl : Int) < t.places) {g : FuncId} {gc : List Value}
  (hc : ∀ τ, Le σ τ → zD Pg g (vB x :: gc) τ (iV takes) τ) (hb : ∀ n, σ.next ≤ n → xF RD n (.func (.func g) ⟨[]⟩ ⟨gc⟩) = true) :
  zD Pg 67 [.agg ⟨yB t pe le ce pt lt ct⟩, vB x, .agg ⟨[.func (.func g) ⟨[]⟩ ⟨gc⟩]⟩, iV (pl : Int)] σ (iV (x.st + takes + t.layover + emp t x.to.toNat pl)) σ := by
 have hB := hv.trip hx
 obtain ⟨hpl, hlay, _, hrows, _, _⟩ := hv.parts
 have hle := hv.lee h.em
 obtain ⟨y, hy⟩ : ∃ y, y = ((σ.re.row (yB t pe le ce pt lt ct) 4).row (zEW x) 6).row [.func (.func g) ⟨[]⟩ ⟨gc⟩] 1 := ⟨_, rfl⟩
 have N1 : New σ.re y := by rw [hy]; exact ((New.row _ _ _).row').row'
 have hle2 := (le0 σ).trans N1.le
 obtain ⟨n, hn⟩ : ∃ n : Nat, x.to = n := ⟨x.to.toNat, by omega⟩
 obtain ⟨ae, rfl, r, q, c, hr, hld, hq⟩ := h.em.row (i := n) (by omega)
 have hrl := (hrows r (List.mem_of_getElem? hr)).1
 obtain ⟨aq, rfl, v, hv', ldv⟩ := vP (SlV.le hq hle2) (i := pl) (by omega)
 have ev : emp t x.to.toNat pl = v := by rw [hn]; exact emp_at hr hv'
 have hev := hv.emp x.to.toNat pl
 rw [ev] at hev ⊢
 have ld2 := hld _ hle2
 rw [← hn] at ld2
 have k1 := hc y hle2
 have n1 := N1.le.next
 have zr : σ.re.next = σ.next := rfl
 have bl : zI y.next [.func (.func g) ⟨[]⟩ ⟨gc⟩, vB x] := zF (hb _ (by omega)) (zF (xS rfl) zG)
 have b1 : ae.block < σ.re.next := wU.ltb h.em _ rfl
 have b2 : aq.block < σ.re.next := uI hq _ rfl
 rw [hy] at k1 ld2 ldv N1 bl
 exact (ready_ra k1 ld2 ldv bl ⟨rfl, N1.lw⟩).pure
theorem may_c (h : TabP σ pe le pt lt t) (hv : Valid t) {i k : Nat} {a b : Trip} (ha : t.trips[i]? = some a) (hb : t.trips[k]? = some b) : zD Pg 81 [.agg ⟨yB t pe le ce pt lt ct⟩, vB a, vB b] σ (.bool (mayB t a b)) σ := by
 refine zN.pure ?_
 have hA := hv.trip ha; have hB := hv.trip hb
 have eq := trip_eq (a := a) (b := b) (o1 := .tmp 7) (o2 := .tmp 8)
 by_cases hab : a = b
 ·subst hab
  rw [decide_eq_true rfl] at eq
  rw [mayB_self hv ha]
  exact may_ra eq ⟨rfl, Nat.le_refl _⟩
 rw [decide_eq_false hab] at eq
 by_cases hkd : a.kind = b.kind
 rotate_left
 ·exact may_rb eq ⟨by simp [mayB, hkd], Nat.le_refl _⟩
 obtain ⟨y, hy⟩ : ∃ y, y = ((σ.re.row (yB t pe le ce pt lt ct) 4).row (zEW a) 6).row (zEW b) 6 := ⟨_, rfl⟩
 have N1 : New σ.re y := by rw [hy]; exact ((New.row _ _ _).row').row'
 have hle2 := (le0 σ).trans N1.le
 obtain ⟨bf, hbf⟩ : ∃ n : Nat, b.fr = n := ⟨b.fr.toNat, by omega⟩
 have kr := ready_c (ce := ce) (ct := ct) (h.le' hle2) hv ha (takes := a.most) (by omega) (pl := bf) (by omega) (g := 94) (gc := []) (fun τ _ => most_c) (fun n _ => rfl)
 rw [← hbf] at kr
 have er : emp t a.to.toNat b.fr.toNat = emp t a.to.toNat bf := by rw [hbf]; rfl
 have n1 := N1.le.next
 have zr : σ.re.next = σ.next := rfl
 have bl : zI y.next [.agg ⟨yB t pe le ce pt lt ct⟩, vB a, .agg ⟨[.func (.func 94) ⟨[]⟩ ⟨[]⟩]⟩, iV b.fr] := by
  refine zF (zBX (fun x e => ?_) (fun x e => ?_)) (zF (xS rfl) (zF (xS rfl) (zF (xS rfl) zG)))
  ·have := wU.ltb h.em x e; omega
  ·have := uI h.tr x e; omega
 have lw := N1.lw
 rw [hy] at kr bl lw
 by_cases hst : a.st + a.most + t.layover + emp t a.to.toNat bf ≤ b.st
 ·exact may_rc eq kr bl ⟨by rw [mayB, er]; simp [hkd, hst], lw⟩
 ·exact may_rd eq kr bl ⟨by rw [mayB, er]; simp [hst], lw⟩
def zHY (t : Tab) (i n : Nat) : List Nat := (List.range n).filter (xL t i)
theorem zDG {P : Nat → Bool} {i : Nat} : (List.range (i + 1)).filter P = (List.range i).filter P ++ if P i then [i] else [] := by
 rw [List.range_succ, List.filter_append]
 cases h : P i <;> simp [h]
theorem wU.only {S : Nat → Prop} {p : Option Addr} {l : Nat} {rs : List (List Int)} (h : wU σ p l rs) (k : Only S σ σ') (h1 : ∀ b, AtP p b → ¬ S b) (h2 : ∀ b, b < σ.next → S b → False) : wU σ' p l rs := by
 obtain ⟨vs, a1, a2, a3⟩ := h
 exact ⟨vs, k.slv' a1 (fun a e => h1 _ ⟨a, e, rfl⟩), a2, fun i r hi => by
  obtain ⟨q, c, g1, g2⟩ := a3 i r hi
  exact ⟨q, c, g1, k.slv' g2 (fun a e hs => h2 _ (uI g2 a e) hs)⟩⟩
theorem rows_none {l : Nat} {rs : List (List Int)} (h : wU σ none l rs) : wU σ' none l rs := by
 obtain ⟨vs, h1, h2, h3⟩ := h
 have : rs = [] := List.eq_nil_of_length_eq_zero (by have := h1.1.2; omega)
 subst this
 exact ⟨vs, zGK h1, h2, fun i r hi => by simp at hi⟩
theorem table_c (h : RefP σ pe le pt lt t) (hle : le ≤ 1073741823) (hlt : lt ≤ 1073741823) (hr : ∀ r ∈ t.empty, r.length ≤ 1073741824) :
  ∃ p' c' q' d' σ', zD Pg 19 [.agg ⟨yB t pe le ce pt lt ct⟩] σ (.agg ⟨yB t p' le c' q' lt d'⟩) σ' ∧ New σ σ' ∧ TabP σ' p' le q' lt t := by
 have hl : t.trips.length = lt := h.len
 obtain ⟨B, hB⟩ : ∃ B, B = σ.re.next := ⟨_, rfl⟩
 have zr : σ.re.next = σ.next := rfl
 obtain ⟨y, hy⟩ : ∃ y, y = (σ.re.row (yB t pe le ce pt lt ct) 4).row (tQ 0 0 none 0 0 none 0 0) 4 := ⟨_, rfl⟩
 have N1 : New σ.re y := by rw [hy]; exact (New.row _ _ _).row'
 have o1 : Own y B (yB t pe le ce pt lt ct) 4 := by rw [hy, hB]; exact (zC σ.re _ _).row
 have o2 : Own y (B + 1) (tQ 0 0 none 0 0 none 0 0) 4 := by rw [hy, hB]; exact zC (σ.re.row (yB t pe le ce pt lt ct) 4) _ _
 have hle1 := (le0 σ).trans N1.le
 obtain ⟨q1, c1, σ2, k1, n1, r1⟩ := rowsF_c (c := ce) (h.em.le hle1) hle hr
 have ny : y.next = B + 2 := by rw [hy, hB]; rfl
 obtain ⟨y3, hy3⟩ : ∃ y, y = (σ2.row (tQ 0 0 none 0 0 none 0 0) 4).own σ2.next (tQ t.places t.layover q1 le c1 none 0 0) 4 := ⟨_, rfl⟩
 have N3 : New σ2 y3 := by rw [hy3]; exact (New.row _ _ _).own (Nat.le_refl _)
 have M3 : New σ.re y3 := (N1.trans n1).trans N3
 have p1 := (o1.le n1.le)
 have p2 := (o2.le n1.le)
 have P1 := p1
 have P2 := p2
 have lt1 := p1.lt
 have lt2 := p2.lt
 have o3 : Own y3 σ2.next (tQ t.places t.layover q1 le c1 none 0 0) 4 := by rw [hy3]; exact Own.cp _ _ _ _
 have key : zN Pg 19 [.agg ⟨yB t pe le ce pt lt ct⟩] σ.re fun v s => New σ.re s ∧ ∃ p' c' q' d', v = .agg ⟨yB t p' le c' q' lt d'⟩ ∧ TabP s p' le q' lt t := by
  have n2 : (σ2.row (tQ 0 0 none 0 0 none 0 0) 4).next = σ2.next + 1 := rfl
  have r2 := (New.row σ2 (tQ 0 0 none 0 0 none 0 0) 4).le
  have p1r := p1.le r2
  have ldp := p1.ld (P := Pg) rfl yD (k := 0) (v := iV t.places) rfl
  have ldp' := p1r.ld (P := Pg) rfl yD (k := 0) (v := iV t.places) rfl
  have ldl := p1.ld (P := Pg) rfl yD (k := 1) (v := iV t.layover) rfl
  have ldl' := p1r.ld (P := Pg) rfl yD (k := 1) (v := iV t.layover) rfl
  have lde := p1.ld (P := Pg) rfl zAN (k := 2) (v := .slice pe le ce) rfl
  have lde' := p1r.ld (P := Pg) rfl zAN (k := 2) (v := .slice pe le ce) rfl
  have be : ∀ a, pe = some a → a.block < σ.re.next := fun a e => wU.ltb h.em a e
  have q1b : ∀ a, q1 = some a → a.block < σ2.next := by obtain ⟨vs, v1, _⟩ := r1.p; exact uI v1
  have bl : zI (σ2.row (tQ 0 0 none 0 0 none 0 0) 4).next [.pointer (some ⟨σ2.next, 0, none⟩), .agg ⟨tQ t.places t.layover q1 le c1 none 0 0⟩] := by
   rw [n2]
   exact zF (zM (by simp)) (zF (zBX (pt := none) (fun a e => by have := q1b a e; omega) (fun a e => by cases e)) zG)
  have gs : zJ RD (.slice pe le ce) = true := by cases pe <;> rfl
  rw [hB] at p1 ldp ldp' ldl ldl' lde lde' lt1
  have k1' := k1
  rw [hy] at k1'
  refine table_ra k1' bl ⟨⟨lt1, rfl⟩, ldp⟩ ⟨⟨Nat.lt_succ_of_lt lt1, rfl⟩, ldp'⟩ ⟨⟨lt1, rfl⟩, ldl⟩ ⟨⟨Nat.lt_succ_of_lt lt1, rfl⟩, ldl'⟩ ⟨⟨lt1, gs⟩, lde⟩ ⟨⟨Nat.lt_succ_of_lt lt1, gs⟩, lde'⟩ be
   (P0 := fun τ => New σ2 τ ∧ ∃ q' d', Own τ σ2.next (tQ t.places t.layover q1 le c1 q' lt d') 4 ∧ SlV Pg τ 79 6 q' lt (t.trips.map vB) ∧ ∀ b, AtP q' b → σ2.next + 1 ≤ b) ?_ ?_
  ·rw [← hy3, ← hB]
   refine table_loop1 (Inv := fun k i τ => ∃ j : Nat, i = j ∧ j + k = lt ∧ New σ2 τ ∧ ∃ q' d', Own τ σ2.next (tQ t.places t.layover q1 le c1 q' j d') 4 ∧ Gr Pg τ (σ2.next + 1) 79 6 q' j d' ((t.trips.take j).map vB)) ?_ lt 0 y3
    ⟨0, rfl, by omega, N3, none, 0, o3, by simpa using Gr.nil⟩
   rintro k i τ ⟨j, rfl, hk, hN, q', d', w3, hg⟩
   have w1 := P1.le hN.le
   by_cases hj : j < lt
   rotate_left
   ·have : j = lt := by omega
    subst this
    rw [List.take_of_length_le (Nat.le_of_eq hl)] at hg
    exact table_s1b (w1.ld rfl wE (k := 3) rfl) ⟨hN, q', d', w3, hg.slv, fun b hb => (hg.bd hb).1⟩
   obtain ⟨a, rfl, x, hx, ldx⟩ := vP (h.le' ((le0 σ).trans ((N1.trans n1).trans hN).le)).tr hj
   obtain ⟨y4, hy4⟩ : ∃ y, y = (τ.row (zA 0 0 0 0 0 0) 6).own τ.next (zEW x) 6 := ⟨_, rfl⟩
   have n4 : New τ y4 := by rw [hy4]; exact (New.row _ _ _).own (Nat.le_refl _)
   have t3 := w3.lt
   obtain ⟨p4, c4, y5, g1, g2, g3, g4⟩ := grow1 (n0 := σ2.next + 1) (σ := τ) (τ := y4) (vB x) appT_trips hg n4.le (elOk_trip x) (by omega) (by omega)
   have hbd : ∀ b, AtP q' b → σ2.next + 1 ≤ b ∧ b < τ.next := fun b hb => hg.bd hb
   have hO : Only (AtP q') τ y5 := ((n4.row').only (S := AtP q')).trans' g3 (fun b _ h => .inl h)
   have x3 := hO.own' w3 (fun hb => by have := hbd _ hb; omega)
   have hN5 : New σ2 y5 := hN.of_only hO (fun b hb => by have := hbd b hb; omega)
   have l3 := (w3.le n4.le).ld (P := Pg) rfl zEB (k := 3) (v := .slice q' j d') rfl
   have st : zX Pg (evL [.pointer (some ⟨σ2.next, 3, none⟩), .slice p4 (j + 1) c4]) y5 (.store 32 (.tmp 0) (.tmp 1)) = some (undef, y5.own σ2.next [iV t.places, iV t.layover, .slice q1 le c1, .slice p4 (j + 1) c4] 4) :=
    x3.store (k := 3) (t := 32) (v := .slice p4 (j + 1) c4) (vs := [.slice p4 (j + 1) c4]) rfl size32 rfl (by simp) rfl
   rw [hy4] at l3 g1
   refine table_s1a (w1.ld rfl wE (k := 3) rfl) ldx l3 g1 st ⟨k - 1, by omega, j + 1, by omega, by omega, hN5.own (Nat.le_refl _), p4, c4, x3.put, ?_⟩
   rw [uS hx, List.map_append]
   exact g2.only (S := (· = σ2.next)) (Only.own (.inr rfl)) (by rintro b hb rfl; have := (g2.bd hb).1; omega)
  rintro τ ⟨hN, q', d', w3, hs, hq⟩
  have w2 := P2.le hN.le
  have t3 := w3.lt
  rw [hB] at w2 lt2
  have l1 := w3.ldN (P := Pg) wB yY (k := 0) (ds := yB t q1 le c1 q' lt d') rfl rfl (by simp)
  have st : zX Pg (evL [.pointer (some ⟨σ.re.next + 1, 0, none⟩), .agg ⟨yB t q1 le c1 q' lt d'⟩]) τ (.store 34 (.tmp 0) (.tmp 1)) = some (undef, τ.own (σ.re.next + 1) (yB t q1 le c1 q' lt d') 4) :=
   w2.store (k := 0) (t := 34) (v := .agg ⟨yB t q1 le c1 q' lt d'⟩) (vs := yB t q1 le c1 q' lt d') rfl yY rfl (by simp) rfl
  have l2 := (w2.put (ds := yB t q1 le c1 q' lt d')).ldN (P := Pg) wB yY (k := 0) (ds := yB t q1 le c1 q' lt d') rfl rfl (by simp)
  have kO : Only (· = σ.re.next + 1) τ (τ.own (σ.re.next + 1) (yB t q1 le c1 q' lt d') 4) := Only.own (.inr rfl)
  exact table_t1x0a l1 st l2 ⟨((N1.trans n1).trans hN).own (by omega), q1, c1, q', d', rfl, ((r1.le hN.le).only kO (fun b e => by omega)).p, kO.slv' hs (fun a e he => by have := hq _ ⟨a, e, rfl⟩; omega)⟩
 obtain ⟨v, σ', h1, h2, p', c', q', d', rfl, h3⟩ := zN.new (Q := fun v s => ∃ p' c' q' d', v = .agg ⟨yB t p' le c' q' lt d'⟩ ∧ TabP s p' le q' lt t) key (by rintro v s s' ⟨p', c', q', d', rfl, g⟩ hle; exact ⟨p', c', q', d', rfl, g.le' hle⟩) (by
  rintro v s hv ⟨p', c', q', d', rfl, g⟩
  cases p' with
  | some a => exact Bool.noConfusion (show false = true from hv)
  | none =>
   cases q' with
   | some a => exact Bool.noConfusion (show false = true from hv)
   | none => exact ⟨none, c', none, d', rfl, ⟨rows_none g.em, zGK g.tr⟩⟩)
 exact ⟨p', c', q', d', σ', h1, h2, h3⟩
end
end Go.Proofs.Ytmdopblmkkameaa
