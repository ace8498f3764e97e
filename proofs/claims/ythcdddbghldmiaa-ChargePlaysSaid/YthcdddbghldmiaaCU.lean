
import Derived.Test.YthcdddbghldmiaaCR
import Derived.Test.YthcdddbghldmiaaCQ2
import Derived.Test.YthcdddbghldmiaaCV
namespace Go.Proofs.Ythcdddbghldmiaa
open Go Go.Lay
open Try renaming prog → Pg
set_option linter.unusedVariables false
set_option linter.unusedSimpArgs false
set_option maxRecDepth 20000
def outL (g : Gar) (rs : List (List Int)) (hs : List Int) (n : Nat) : List Int := (List.range n).map (outI g rs hs)
def leftL (g : Gar) (rs : List (List Int)) (hs us : List Int) (n : Nat) : List Int := (List.range n).map fun i => outI g rs hs i - us.getD i 0
def PlayQ (g : Gar) (rs : List (List Int)) (hs us : List Int) (p1 : Option Addr) (l1 c1 : Nat) (p2 : Option Addr) (l2 c2 : Nat) (z e : Int) (s : St) : Prop :=
 (checkZ g ≠ 0 ∧ p1 = none ∧ l1 = 0 ∧ c1 = 0 ∧ p2 = none ∧ l2 = 0 ∧ c2 = 0 ∧ z = 0 ∧ e = checkZ g) ∨ (Valid g ∧ ¬ (PlanOK g rs ∧ TruthOK g hs us) ∧ p1 = none ∧ l1 = 0 ∧ c1 = 0 ∧ p2 = none ∧ l2 = 0 ∧ c2 = 0 ∧ z = 0 ∧ e = 2) ∨
 (Valid g ∧ PlanOK g rs ∧ TruthOK g hs us ∧ e = 0 ∧ z = paidZ g rs hs ∧ IntsP s p1 l1 (outL g rs hs g.nb) ∧ IntsP s p2 l2 (leftL g rs hs us g.nb))
section
variable {σ τ : St} {g : Gar} {p q pp hp up : Option Addr} {c d lp cp lh ch lu cu : Nat} {rs : List (List Int)} {hs us : List Int}
theorem play_c (hg : GarP σ p g.ns q g.nb g) (hr : RowsP σ pp lp rs) (hh : IntsP σ hp lh hs) (hu : IntsP σ up lu us) : ∃ p1 l1 c1 p2 l2 c2 z e σ', CallsA Pg 34 [.agg ⟨garL p g.ns c q g.nb d⟩, .slice pp lp cp, .agg ⟨[.slice hp lh ch, .slice up lu cu]⟩] σ (.tuple ⟨[.slice p1 l1 c1, .slice p2 l2 c2, iV z, iV e]⟩) σ' ∧ New σ σ' ∧ PlayQ g rs hs us p1 l1 c1 p2 l2 c2 z e σ' := by
 suffices key : RunsQ Pg 34 [.agg ⟨garL p g.ns c q g.nb d⟩, .slice pp lp cp, .agg ⟨[.slice hp lh ch, .slice up lu cu]⟩] σ.re fun v s => New σ.re s ∧ ∃ p1 l1 c1 p2 l2 c2 z e, v = .tuple ⟨[.slice p1 l1 c1, .slice p2 l2 c2, iV z, iV e]⟩ ∧ PlayQ g rs hs us p1 l1 c1 p2 l2 c2 z e s by
  obtain ⟨v, s, h1, h2, p1, l1, c1, p2, l2, c2, z, e, rfl, h3⟩ := RunsQ.new (Q := fun v s => ∃ p1 l1 c1 p2 l2 c2 z e, v = .tuple ⟨[.slice p1 l1 c1, .slice p2 l2 c2, iV z, iV e]⟩ ∧ PlayQ g rs hs us p1 l1 c1 p2 l2 c2 z e s) key
   (by
    rintro v s s' ⟨p1, l1, c1, p2, l2, c2, z, e, rfl, h⟩ hle
    exact ⟨p1, l1, c1, p2, l2, c2, z, e, rfl, h.imp id (Or.imp id (fun ⟨h1, h2, h3, h4, h5, h7, h8⟩ => ⟨h1, h2, h3, h4, h5, h7.le hle, h8.le hle⟩))⟩)
   (by
    rintro v s hr ⟨p1, l1, c1, p2, l2, c2, z, e, rfl, h⟩
    have e1 : p1 = none := by
     cases p1 with
     | none => rfl
     | some a => exact Bool.noConfusion (show false = true from hr)
    subst e1
    have e2 : p2 = none := by
     cases p2 with
     | none => rfl
     | some a => exact Bool.noConfusion (show false = true from hr)
    subst e2
    exact ⟨none, l1, c1, none, l2, c2, z, e, rfl, h.imp id (Or.imp id (fun ⟨h1, h2, h3, h4, h5, h7, h8⟩ => ⟨h1, h2, h3, h4, h5, slv_none h7, slv_none h8⟩))⟩)
  exact ⟨p1, l1, c1, p2, l2, c2, z, e, s, h1, h2, h3⟩
 have hlh := hh.len; have hlu := hu.len
 obtain ⟨n0, hn0⟩ : ∃ n0, n0 = σ.re.next := ⟨_, rfl⟩
 have hn0' : n0 = σ.next := hn0
 let FB : St → Int → Prop := fun z n => GarP z p g.ns q g.nb g ∧ RowsP z pp lp rs ∧ IntsP z hp lh hs ∧ IntsP z up lu us ∧ Own z n0 (garL p g.ns c q g.nb d) 2 ∧ Own z (n0 + 1) [.slice pp lp cp] 1 ∧ Own z (n0 + 2) [.slice hp lh ch, .slice up lu cu] 2 ∧ Own z (n0 + 3) [iV n] 1 ∧ Le σ z
 obtain ⟨τ1, hτ1⟩ : ∃ τ1, τ1 = (((σ.re.row (garL p g.ns c q g.nb d) 2).row [.slice pp lp cp] 1).row [.slice hp lh ch, .slice up lu cu] 2).row [iV 0] 1 := ⟨_, rfl⟩
 have N1 : New σ.re τ1 := by rw [hτ1]; exact (((New.row _ _ _).row').row').row'
 have hl := (le0 σ).trans N1.le
 have f1 : FB τ1 0 := by
  refine ⟨hg.le hl, hr.le hl, SlV.le hh hl, SlV.le hu hl, ?_, ?_, ?_, ?_, hl⟩ <;> rw [hτ1, hn0]
  ·exact (own_new _ _ _).row.row.row
  ·exact (own_new (σ.re.row (garL p g.ns c q g.nb d) 2) _ _).row.row
  ·exact (own_new ((σ.re.row (garL p g.ns c q g.nb d) 2).row [.slice pp lp cp] 1) _ _).row
  ·exact own_new (((σ.re.row (garL p g.ns c q g.nb d) 2).row [.slice pp lp cp] 1).row [.slice hp lh ch, .slice up lu cu] 2) _ _
 have c0 := check_c (c := c) (d := d) f1.1
 have N2 : New σ.re (τ1.own (σ.re.next + 3) [iV 0] 1) := N1.own (by omega)
 by_cases hz : checkZ g = 0
 rotate_left
 ·exact play_ra (by rw [← hτ1]; exact c0) ⟨by rw [← hτ1]; exact N2, none, 0, 0, none, 0, 0, 0, checkZ g, rfl, .inl ⟨hz, rfl, rfl, rfl, rfl, rfl, rfl, rfl, rfl⟩⟩
 have hv := valid_of hz
 rw [hz] at c0
 obtain ⟨b, k1, hb⟩ := planned_c (c := c) (d := d) (cp := cp) f1.1 f1.2.1 hv
 have no : ¬ (PlanOK g rs ∧ TruthOK g hs us) → ∀ s, PlayQ g rs hs us none 0 0 none 0 0 0 2 s := fun h s => .inr (.inl ⟨hv, h, rfl, rfl, rfl, rfl, rfl, rfl, rfl, rfl⟩)
 cases b with
 | false => exact play_re (by rw [← hτ1]; exact c0) (by rw [← hτ1]; exact k1) ⟨by rw [← hτ1]; exact N2, none, 0, 0, none, 0, 0, 0, 2, rfl, no (fun h => by have := hb.2 h.1; cases this) _⟩
 | true =>
 have hP := hb.1 rfl
 by_cases e1 : lh = g.nb
 rotate_left
 ·exact play_rb (by rw [← hτ1]; exact c0) (by rw [← hτ1]; exact k1) ⟨by rw [← hτ1]; exact N2, none, 0, 0, none, 0, 0, 0, 2, rfl, no (fun h => e1 (hlh.symm.trans h.2.1)) _⟩
 by_cases e2 : lu = g.nb
 rotate_left
 ·exact play_rc (by rw [← hτ1]; exact c0) (by rw [← hτ1]; exact k1) ⟨by rw [← hτ1]; exact N2, none, 0, 0, none, 0, 0, 0, 2, rfl, no (fun h => e2 (hlu.symm.trans h.2.2.1)) _⟩
 have hns := hv.ns; have hnb := hv.nb
 subst e1 e2
 have fsame : ∀ {z z' n}, FB z n → Same n0 z z' → FB z' n := by
  rintro z z' n ⟨a1, a2, a3, a4, a5, a6, a7, a8, a9⟩ h
  have hl : Le σ z' := ⟨Nat.le_trans a9.next h.next, fun y hy => (h.old y (by omega)).trans (a9.get y hy)⟩
  exact ⟨hg.le hl, hr.le hl, SlV.le hh hl, SlV.le hu hl, h.own a5, h.own a6, h.own a7, h.own a8, hl⟩
 have fset : ∀ {z n n'}, FB z n → New σ.re z → FB (z.own (n0 + 3) [iV n'] 1) n' ∧ New σ.re (z.own (n0 + 3) [iV n'] 1) := by
  rintro z n n' ⟨a1, a2, a3, a4, a5, a6, a7, a8, a9⟩ h
  have k : Only (· = n0 + 3) z (z.own (n0 + 3) [iV n'] 1) := Only.own (.inr rfl)
  have hl : Le σ (z.own (n0 + 3) [iV n'] 1) := ⟨Nat.le_trans a9.next k.next, fun y hy => (k.get y (Nat.lt_of_lt_of_le hy a9.next) (by omega)).trans (a9.get y hy)⟩
  exact ⟨⟨hg.le hl, hr.le hl, SlV.le hh hl, SlV.le hu hl, k.own' a5 (by omega), k.own' a6 (by omega), k.own' a7 (by omega), a8.put, hl⟩, h.own (by rw [← hn0]; omega)⟩
 have fle : ∀ {z z' n}, FB z n → Le z z' → n0 ≤ z.next → FB z' n := fun h k hn => fsame h (Same.of_le k hn)
 have fonly : ∀ {z z' n} {S : Nat → Prop}, FB z n → Only S z z' → (∀ b, S b → n0 + 4 ≤ b) → FB z' n := by
  rintro z z' n S ⟨a1, a2, a3, a4, a5, a6, a7, a8, a9⟩ k hS
  have hl : Le σ z' := ⟨Nat.le_trans a9.next k.next, fun y hy => (k.get y (Nat.lt_of_lt_of_le hy a9.next) (fun h => by have := hS y h; omega)).trans (a9.get y hy)⟩
  exact ⟨hg.le hl, hr.le hl, SlV.le hh hl, SlV.le hu hl, k.own' a5 (fun h => by have := hS _ h; omega), k.own' a6 (fun h => by have := hS _ h; omega), k.own' a7 (fun h => by have := hS _ h; omega), k.own' a8 (fun h => by have := hS _ h; omega), hl⟩
 refine play_rd (by rw [← hτ1]; exact c0) (by rw [← hτ1]; exact k1)
  (Pr := fun p6 l6 c6 p7 l7 c7 e τ => p6 = none ∧ l6 = 0 ∧ c6 = 0 ∧ p7 = none ∧ l7 = 0 ∧ c7 = 0 ∧ e = 2 ∧ ¬ TruthOK g hs us ∧ New σ.re τ ∧ FB τ 0)
  (P0 := fun p6 l6 c6 p7 l7 c7 τ => p6 = none ∧ l6 = 0 ∧ c6 = 0 ∧ p7 = none ∧ l7 = 0 ∧ c7 = 0 ∧ TruthOK g hs us ∧ New σ.re τ ∧ FB τ 0) ?_ ?_ ?_
 ·rw [← hτ1, ← hn0]
  refine play_loop1 (Inv := fun k p6 l6 c6 p7 l7 c7 i τ => p6 = none ∧ l6 = 0 ∧ c6 = 0 ∧ p7 = none ∧ l7 = 0 ∧ c7 = 0 ∧ ∃ j : Nat, i = j ∧ j + k = g.nb ∧ New σ.re τ ∧ FB τ 0 ∧ ∀ i' b, i' < j → g.buses[i']? = some b → inB (hs.getD i' 0) b.hlo b.hhi = true ∧ inB (us.getD i' 0) b.ulo b.uhi = true) ?_ g.nb none 0 0 none 0 0 0 τ1
   ⟨rfl, rfl, rfl, rfl, rfl, rfl, 0, rfl, by omega, N1, f1, fun i' b h => by omega⟩
  rintro k p6 l6 c6 p7 l7 c7 i τ ⟨rfl, rfl, rfl, rfl, rfl, rfl, j, rfl, hk, h1, h2, h3⟩
  by_cases hj : j < g.nb
  rotate_left
  ·exact play_s1d ⟨rfl, rfl, rfl, rfl, rfl, rfl, ⟨hlh, hlu, fun i b hb => h3 i b (by have := (List.getElem?_eq_some_iff.1 hb).1; have : i < g.nb := this; omega) hb⟩, h1, h2⟩
  have fn := h1.nx
  obtain ⟨a, rfl, bus, hbus, ldb⟩ := slv_at h2.1.bu hj
  obtain ⟨τ2, hτ2⟩ : ∃ τ2, τ2 = (τ.row (ints9 0 0 0 0 0 0 0 0 0) 9).own τ.next (busL bus) 9 := ⟨_, rfl⟩
  have n2 : New τ τ2 := by rw [hτ2]; exact (New.row _ _ _).own (Nat.le_refl _)
  have h22 := fle h2 n2.le (by rw [hn0]; exact fn)
  obtain ⟨a1, a2, a3, a4, a5, a6, a7, a8, a9⟩ := id h22
  obtain ⟨ah, rfl, x, hx, ldx⟩ := slv_at a3 hj
  obtain ⟨au, rfl, y, hy, ldy⟩ := slv_at a4 hj
  have ex : hs.getD j 0 = x := by simp [hx]
  have ey : us.getD j 0 = y := by simp [hy]
  have ca := has_c (σ := τ2) (lo := bus.hlo) (hi := bus.hhi) (n := x)
  have cb := has_c (σ := τ2) (lo := bus.ulo) (hi := bus.uhi) (n := y)
  have N3 : New σ.re τ2 := h1.trans n2
  have st := a8.store (P := Pg) (k := 0) (t := 3) (v := iV 0) (vs := [iV 0]) (ds := [iV 0]) rfl size3 rfl (by simp) rfl
  have bad : ∀ (h : ¬ TruthOK g hs us), New σ.re (τ2.own (n0 + 3) [iV 0] 1) ∧ FB (τ2.own (n0 + 3) [iV 0] 1) 0 := fun _ => (fset h22 N3).symm
  cases h4 : inB x bus.hlo bus.hhi with
  | false =>
   have hn : ¬ TruthOK g hs us := fun h => by have := (h.2.2 j bus hbus).1; rw [ex, h4] at this; cases this
   rw [h4, hτ2] at ca
   exact play_s1c ldb (by rw [← hτ2]; exact a7.ld rfl agg59 (k := 0) rfl) (by rw [← hτ2]; exact ldx) ca (by rw [← hτ2]; exact st) ⟨rfl, rfl, rfl, rfl, rfl, rfl, rfl, hn, bad hn⟩
  | true =>
   rw [h4, hτ2] at ca
   cases h5 : inB y bus.ulo bus.uhi with
   | false =>
    have hn : ¬ TruthOK g hs us := fun h => by have := (h.2.2 j bus hbus).2; rw [ey, h5] at this; cases this
    rw [h5, hτ2] at cb
    exact play_s1b ldb (by rw [← hτ2]; exact a7.ld rfl agg59 (k := 0) rfl) (by rw [← hτ2]; exact ldx) ca (by rw [← hτ2]; exact a7.ld rfl agg59 (k := 1) rfl) (by rw [← hτ2]; exact ldy) cb (by rw [← hτ2]; exact st) ⟨rfl, rfl, rfl, rfl, rfl, rfl, rfl, hn, bad hn⟩
   | true =>
    rw [h5, hτ2] at cb
    refine play_s1a ldb (by rw [← hτ2]; exact a7.ld rfl agg59 (k := 0) rfl) (by rw [← hτ2]; exact ldx) ca (by rw [← hτ2]; exact a7.ld rfl agg59 (k := 1) rfl) (by rw [← hτ2]; exact ldy) cb ?_
    rw [← hτ2]
    refine ⟨k - 1, by omega, rfl, rfl, rfl, rfl, rfl, rfl, j + 1, by omega, by omega, N3, h22, fun i' b hi hb => ?_⟩
    by_cases e : i' = j
    ·subst e; rw [hbus] at hb; cases hb; rw [ex, ey]; exact ⟨h4, h5⟩
    ·exact h3 i' b (by omega) hb
 ·rintro p6 l6 c6 p7 l7 c7 e τ ⟨rfl, rfl, rfl, rfl, rfl, rfl, rfl, hn, h1, h2⟩
  rw [← hn0]
  exact play_t1xra (h2.2.2.2.2.2.2.2.1.ld rfl agg3 (k := 0) rfl) ⟨h1, none, 0, 0, none, 0, 0, 0, 2, rfl, no (fun h => hn h.2) _⟩
 rintro p6 l6 c6 p7 l7 c7 τ ⟨rfl, rfl, rfl, rfl, rfl, rfl, hT, h1, h2⟩
 rw [← hn0]
 have hcap : ∀ i b, g.buses[i]? = some b → 0 ≤ hs.getD i 0 ∧ hs.getD i 0 ≤ b.full ∧ b.full ≤ 1000 ∧ 0 ≤ us.getD i 0 ∧ us.getD i 0 ≤ 1000 := fun i b hb => by
  have h3 := hT.2.2 i b hb
  have h4 := inB_iff.1 h3.1; have h5 := inB_iff.1 h3.2
  have := busB_iff (hv.b hb)
  omega
 have hamt : ∀ i b s, g.buses[i]? = some b → i < g.nb → s < g.ns → 0 ≤ amt b.full (cell rs i) (hs.getD i 0) s ∧ amt b.full (cell rs i) (hs.getD i 0) s ≤ 1000 := fun i b s hb hi hs' => by
  have h3 := amt_bd (f := cell rs i) (s := s) (hcap i b hb).2.1 (fun s' h => (hP.cell_bd hv hi (Nat.lt_of_le_of_lt h hs')).1)
  have := (hP.cell_bd hv hi hs').2
  omega
 have hterm : ∀ i b s, g.buses[i]? = some b → i < g.nb → s < g.ns → 0 ≤ amt b.full (cell rs i) (hs.getD i 0) s * prS g s ∧ amt b.full (cell rs i) (hs.getD i 0) s * prS g s ≤ 1000000 := fun i b s hb hi hs' => by
  have h3 := hamt i b s hb hi hs'; have h4 := hv.pr s
  have := mulS_bd (A := 1000) (C := 1000) h3.1 h3.2 (by omega) h4.2 (by omega)
  exact ⟨Int.mul_nonneg h3.1 h4.1, by omega⟩
 have hpI : ∀ i n, i < g.nb → n ≤ g.ns → 0 ≤ paidI g rs hs i n ∧ paidI g rs hs i n ≤ 12000000 := fun i n hi hn => by
  obtain ⟨b, hb⟩ := bus_at hi
  rw [paidI_eq hb]
  have := sumN_bd (n := n) (B := 1000000) (f := fun s => amt b.full (cell rs i) (hs.getD i 0) s * prS g s) (fun s hs' => hterm i b s hb hi (by omega))
  omega
 have hpS : ∀ j, j ≤ g.nb → 0 ≤ sumN j (fun i => paidI g rs hs i g.ns) ∧ sumN j (fun i => paidI g rs hs i g.ns) ≤ 60000000 := fun j hj => by
  have := sumN_bd (n := j) (B := 12000000) (f := fun i => paidI g rs hs i g.ns) (fun i hi => hpI i _ (by omega) (Nat.le_refl _))
  omega
 refine play_t1x0a (P2 := fun p6 l6 c6 p7 l7 c7 ms τ => New σ.re τ ∧ FB τ (paidZ g rs hs) ∧ Gr Pg τ (n0 + 4) 3 1 p6 l6 c6 ((outL g rs hs g.nb).map intV) ∧ Gr Pg τ (n0 + 4) 3 1 p7 l7 c7 ((leftL g rs hs us g.nb).map intV) ∧ (∀ m ∈ ms, getB τ.heap m = some .defd) ∧ ms.Nodup ∧ ∀ m ∈ ms, n0 ≤ m) (h2.2.2.2.2.1.ld rfl agg33 (k := 1) rfl) ?_ ?_
 ·refine play_loop2 (Inv := fun k p6 l6 c6 p7 l7 c7 i ms τ => ∃ j : Nat, i = j ∧ j + k = g.nb ∧ l6 = j ∧ l7 = j ∧ New σ.re τ ∧ FB τ (sumN j (fun i => paidI g rs hs i g.ns)) ∧ Gr Pg τ (n0 + 4) 3 1 p6 l6 c6 ((outL g rs hs j).map intV) ∧ Gr Pg τ (n0 + 4) 3 1 p7 l7 c7 ((leftL g rs hs us j).map intV) ∧ (∀ b, AtP p6 b → ¬ AtP p7 b) ∧ (∀ m ∈ ms, getB τ.heap m = some .defd ∧ m < τ.next) ∧ ms.Nodup ∧ ∀ m ∈ ms, n0 ≤ m) ?_ g.nb none 0 0 none 0 0 0 [] τ
   ⟨0, rfl, by omega, rfl, rfl, h1, by simpa [sumN] using h2, Gr.nil, Gr.nil, fun b hb => (AtP.none hb).elim, by simp, by simp, by simp⟩
  rintro k p6 l6 c6 p7 l7 c7 i ms τ ⟨j, rfl, hk, rfl, rfl, h1, h2, h3, h4, h5, h6, h7, h8⟩
  by_cases hj : l7 < g.nb
  rotate_left
  ·have : l7 = g.nb := by omega
   subst this
   exact play_s2b ⟨h1, h2, h3, h4, fun m hm => (h6 m hm).1, h7, h8⟩
  have fn' : n0 ≤ τ.next := by rw [hn0]; exact h1.nx
  have b8 := h2.2.2.2.2.2.2.2.1.lt
  obtain ⟨a, rfl, bus, hbus, ldb⟩ := slv_at h2.1.bu hj
  obtain ⟨τ2, hτ2⟩ : ∃ τ2, τ2 = (((τ.row [iV 0] 1).row (ints9 0 0 0 0 0 0 0 0 0) 9).own τ.next [iV (l7 : Int)] 1).own (τ.next + 1) (busL bus) 9 := ⟨_, rfl⟩
  have n2 : New τ τ2 := by rw [hτ2]; exact (((New.row _ _ _).row').own (Nat.le_refl _)).own (by omega)
  have oi : Own τ2 τ.next [iV (l7 : Int)] 1 := by rw [hτ2]; exact ((own_new τ _ _).row.put).own (by omega)
  have ob : Own τ2 (τ.next + 1) (busL bus) 9 := by rw [hτ2]; exact ((own_new (τ.row [iV 0] 1) _ _).own (ds := [iV (l7 : Int)]) (m := 1) (show τ.next + 1 ≠ τ.next by omega)).put
  have nx2 : τ2.next = τ.next + 2 := by rw [hτ2]; rfl
  have h22 := fle h2 n2.le fn'
  obtain ⟨a1, a2, a3, a4, a5, a6, a7, a8, a9⟩ := id h22
  obtain ⟨ah, rfl, x, hx, ldx⟩ := slv_at a3 hj
  have ex : hs.getD l7 0 = x := by simp [hx]
  obtain ⟨τ3, hτ3⟩ : ∃ τ3, τ3 = (τ2.row [iV 0] 1).own (τ.next + 2) [iV x] 1 := ⟨_, rfl⟩
  have n3 : New τ2 τ3 := by rw [hτ3, ← nx2]; exact (New.row _ _ _).own (Nat.le_refl _)
  have ol : Own τ3 (τ.next + 2) [iV x] 1 := by rw [hτ3, ← nx2]; exact Own.cp _ _ _ _
  have h33 := fle h22 n3.le (by omega)
  obtain ⟨z1, z2, τ4, q1, q2, q3, q4⟩ := stay_c (σ := τ3) (p := p) (l := g.ns) (c := c) (q := some a) (m := g.nb) (d := d) (b := bus)
  have f4 := fle h33 q2.le (by have := n3.nx; omega)
  have N4 : New τ τ4 := (n2.trans n3).trans q2
  have oi4 := (oi.le n3.le).le q2.le
  have ob4 := (ob.le n3.le).le q2.le
  have ol4 := ol.le q2.le
  let J : Nat → St → Prop := fun s z => FB z (sumN l7 (fun i => paidI g rs hs i g.ns) + paidI g rs hs l7 s) ∧ n0 ≤ z.next ∧ Own z τ.next [iV (l7 : Int)] 1 ∧ Own z (τ.next + 1) (busL bus) 9 ∧ Own z (τ.next + 2) [iV (lev bus.full (cell rs l7) x s)] 1 ∧
   Gr Pg z (n0 + 4) 3 1 p6 l7 c6 ((outL g rs hs l7).map intV) ∧ Gr Pg z (n0 + 4) 3 1 p7 l7 c7 ((leftL g rs hs us l7).map intV) ∧ ∀ m ∈ ms, getB z.heap m = some .defd ∧ m < z.next
  have hm4 : ∀ m ∈ ms, getB τ4.heap m = some .defd ∧ m < τ4.next := fun m hm => ⟨(N4.le.get m (h6 m hm).2).trans (h6 m hm).1, Nat.lt_of_lt_of_le (h6 m hm).2 N4.nx⟩
  refine play_s2a (Pn := fun z => New σ.re z ∧ J g.ns z ∧ getB z.heap τ4.next = some .defd ∧ τ4.next < z.next) ldb (by rw [← hτ2]; exact a7.ld rfl agg59 (k := 0) rfl) (by rw [← hτ2]; exact ldx)
   (by rw [← hτ2, ← hτ3]; exact h33.2.2.2.2.1.ldN agg35 size35 (k := 0) rfl rfl (by simp)) (by rw [← hτ2, ← hτ3]; exact q1) ?_ ?_
  ·have hlp : lp = g.nb := by rw [← hr.len]; exact hP.len
   have hc := hcap l7 bus hbus
   rw [ex] at hc
   have hf : ∀ s, s < g.ns → 0 ≤ cell rs l7 s := fun s hs' => (hP.cell_bd hv hj hs').1
   have hN4 := N4.nx
   have b6 : ∀ b, AtP p6 b → n0 + 4 ≤ b ∧ b < τ.next := fun b hb => h3.bd hb
   have b7 : ∀ b, AtP p7 b → n0 + 4 ≤ b ∧ b < τ.next := fun b hb => h4.bd hb
   refine stay_range (n0 := n0) (J := J) (bus := bus) (fun g0 => by kernel_rfl) (hv.b hbus) q3 q4 (by omega) (by omega) ⟨?_, by omega, oi4, ob4, ol4, h3.le N4.le, h4.le N4.le, hm4⟩ ?_ ?_ ?_ ?_
   ·rw [show paidI g rs hs l7 0 = 0 by rw [paidI_eq hbus]; rfl, Int.add_zero]; exact f4
   ·rintro s z z' ⟨j1, j2, j3, j4, j5, j6, j7, j8⟩ h
    exact ⟨fsame j1 h, Nat.le_trans j2 h.next, h.own j3, h.own j4, h.own j5, h.gr j6, h.gr j7, fun m hm => ⟨(h.get m (j8 m hm).2 (fun _ _ _ _ _ _ _ e => by rw [(j8 m hm).1] at e; cases e)).trans (j8 m hm).1, Nat.lt_of_lt_of_le (j8 m hm).2 h.next⟩⟩
   ·rintro s z hs' ht ⟨j1, j2, j3, j4, j5, j6, j7, j8⟩
    have hz0 : cell rs l7 s = 0 := by
     have h1 := hP.cap l7 bus hbus s hs'
     rcases Int.lt_or_le 0 (cell rs l7 s) with h | h
     ·have := h1.2.2 h; rw [ht] at this; cases this
     ·omega
    have hle := (lev_bd (n := s) hc.2.1 (fun s' h => hf s' (by omega))).2
    have ha : amt bus.full (cell rs l7) x s = 0 := by unfold amt; rw [hz0]; omega
    have e1 : paidI g rs hs l7 (s + 1) = paidI g rs hs l7 s := by rw [paidI_eq hbus, paidI_eq hbus, sumN, ex, ha]; omega
    have e2 : lev bus.full (cell rs l7) x (s + 1) = lev bus.full (cell rs l7) x s := by rw [lev_succ, ha]; omega
    exact ⟨by rw [e1]; exact j1, j2, j3, j4, by rw [e2]; exact j5, j6, j7, j8⟩
   ·rintro s z zz lo g0 db hs' ht hl hzz ⟨j1, j2, j3, j4, j5, j6, j7, j8⟩ hnz
    obtain ⟨c1, c2, c3, c4, c5, c6, c7, c8, c9⟩ := id j1
    obtain ⟨ar, rfl, r, qr, cr, hr1, ldr, ir⟩ := c2.get (i := l7) (by omega)
    have hrl := hP.row r (List.mem_of_getElem? hr1)
    obtain ⟨ai, rfl, v, hvs, ldv⟩ := slv_at ir (i := s) (by omega)
    have ev : cell rs l7 s = v := by simp [cell, hr1, hvs]
    obtain ⟨w2, hw2⟩ : ∃ w2, w2 = (zz.row [iV v, iV (bus.full - lev bus.full (cell rs l7) x s)] 1).own (τ.next + 2) [iV (lev bus.full (cell rs l7) x (s + 1))] 1 := ⟨_, rfl⟩
    have kk : Only (fun b => b = τ.next + 2 ∨ b = n0 + 3) zz w2 := by
     rw [hw2]
     exact (New.row _ _ _).only.trans' (Only.own (S := fun b => b = τ.next + 2 ∨ b = n0 + 3) (.inr (.inl rfl))) (fun b _ h => .inl h)
    have kk0 : Only (fun b => b = τ.next + 2) zz w2 := by
     rw [hw2]
     exact (New.row _ _ _).only.trans' (Only.own (S := fun b => b = τ.next + 2) (.inr rfl)) (fun b _ h => .inl h)
    have j5r := j5.le (New.row zz [iV v, iV (bus.full - lev bus.full (cell rs l7) x s)] 1).le
    have c8w := kk0.own' c8 (by omega)
    have c5w := kk0.own' c5 (by omega)
    have hpl : ∀ a, p = some a → a.block < n0 := fun a e => by rw [hn0']; exact slv_lt hg.sl a e
    have slw := kk0.slv' c1.sl (fun a e => by have := hpl a e; omega)
    obtain ⟨asl, rfl, xs, hxs, _, ldp⟩ := pw_at slw hs'
    have epr : prS g s = xs.pr := by simp [prS, hxs]
    have hle := lev_bd (n := s) hc.2.1 (fun s' h => hf s' (by omega))
    have hle' := lev_bd (n := s + 1) hc.2.1 (fun s' h => hf s' (by omega))
    have hL : lev bus.full (cell rs l7) x (s + 1) = lev bus.full (cell rs l7) x s + min v (bus.full - lev bus.full (cell rs l7) x s) := by rw [lev_succ, amt, ev]
    have hA : amt bus.full (cell rs l7) x s = min v (bus.full - lev bus.full (cell rs l7) x s) := by rw [amt, ev]
    have ht1 := hterm l7 bus s hbus hj hs'
    rw [ex, hA, epr] at ht1
    have hP1 := hpI l7 s hj (by omega)
    have hP2 := hpI l7 (s + 1) hj (by omega)
    have hP3 := hpS l7 (by omega)
    have hV : paidI g rs hs l7 (s + 1) = paidI g rs hs l7 s + min v (bus.full - lev bus.full (cell rs l7) x s) * xs.pr := by
     rw [paidI_eq hbus, paidI_eq hbus, sumN, ex, hA, epr]
    have hvb : 0 ≤ v := by rw [← ev]; exact hf s hs'
    obtain ⟨w3, hw3⟩ : ∃ w3, w3 = w2.own (n0 + 3) [iV (sumN l7 (fun i => paidI g rs hs i g.ns) + paidI g rs hs l7 (s + 1))] 1 := ⟨_, rfl⟩
    have k3 : Only (fun b => b = τ.next + 2 ∨ b = n0 + 3) zz w3 := by
     rw [hw3]
     exact kk.trans' (Only.own (S := fun b => b = τ.next + 2 ∨ b = n0 + 3) (.inr (.inr rfl))) (fun b _ h => .inl h)
    have hl9 : Le σ w3 := ⟨Nat.le_trans c9.next k3.next, fun y hy => (k3.get y (Nat.lt_of_lt_of_le hy c9.next) (by omega)).trans (c9.get y hy)⟩
    refine ⟨w3, play_y3a hl hzz (c6.ld rfl agg28 (k := 0) rfl) (j3.ld rfl agg3 (k := 0) rfl) ldr ldv (j4.ld rfl agg3 (k := 3) rfl) (j5.ld rfl agg3 (k := 0) rfl) lesser2_c (j5r.ld rfl agg3 (k := 0) rfl)
     (by have := j5r.store (P := Pg) (k := 0) (t := 3) (v := iV (lev bus.full (cell rs l7) x (s + 1))) (vs := [iV (lev bus.full (cell rs l7) x (s + 1))]) (ds := [iV (lev bus.full (cell rs l7) x (s + 1))]) rfl size3 rfl (by simp) rfl; rw [← hw2, hL] at this; exact this)
     (c8w.ld rfl agg3 (k := 0) rfl) (c5w.ld rfl agg32 (k := 0) rfl) ldp
     (by have := c8w.store (P := Pg) (k := 0) (t := 3) (v := iV (sumN l7 (fun i => paidI g rs hs i g.ns) + paidI g rs hs l7 (s + 1))) (vs := [iV (sumN l7 (fun i => paidI g rs hs i g.ns) + paidI g rs hs l7 (s + 1))]) (ds := [iV (sumN l7 (fun i => paidI g rs hs i g.ns) + paidI g rs hs l7 (s + 1))]) rfl size3 rfl (by simp) rfl; rw [← hw3, hV, ← Int.add_assoc] at this; exact this) rfl, ⟨?_, Nat.le_trans j2 k3.next, k3.own' j3 (by omega), k3.own' j4 (by omega), ?_, j6.only k3 (fun b hb => by have := b6 b hb; omega), j7.only k3 (fun b hb => by have := b7 b hb; omega), ?_⟩, _, k3, ?_⟩
    ·exact ⟨hg.le hl9, hr.le hl9, SlV.le hh hl9, SlV.le hu hl9, k3.own' c5 (by omega), k3.own' c6 (by omega), k3.own' c7 (by omega), by rw [hw3]; exact c8w.put, hl9⟩
    ·rw [hw3, hw2]; exact (j5r.put).own (by omega)
    ·intro m hm
     have := j8 m hm
     exact ⟨(k3.get m this.2 (fun e => by
      rcases e with e | e
      ·rw [e, j5.get] at this; cases this.1
      ·rw [e, c8.get] at this; cases this.1)).trans this.1, Nat.lt_of_lt_of_le this.2 k3.next⟩
    ·rintro y (rfl | rfl)
     ·exact ⟨by omega, fun _ => ⟨_, _, _, _, _, j5.get⟩⟩
     ·exact ⟨by omega, fun _ => ⟨_, _, _, _, _, c8.get⟩⟩
   ·rintro z ⟨j1, j2, j3, j4, j5, j6, j7, j8⟩ hd hlt hlow
    have N5 := h1.trans N4
    exact ⟨⟨j1.2.2.2.2.2.2.2.2.re, fun m h1 h2 => hlow m (by rw [hn0]; exact h2) (N5.low m h1 h2)⟩, ⟨j1, j2, j3, j4, j5, j6, j7, j8⟩, hd, hlt⟩
  ·rintro z ⟨N5, ⟨j1, j2, j3, j4, j5, j6, j7, j8⟩, zd, zlt⟩
   obtain ⟨d1, d2, d3, d4, d5, d6, d7, d8, d9⟩ := id j1
   obtain ⟨au, rfl, y, hy, ldy⟩ := slv_at d4 hj
   have ey : us.getD l7 0 = y := by simp [hy]
   have hc := hcap l7 bus hbus
   rw [ex, ey] at hc
   have hf : ∀ s, s < g.ns → 0 ≤ cell rs l7 s := fun s hs' => (hP.cell_bd hv hj hs').1
   have hlv := lev_bd (n := g.ns) hc.2.1 hf
   have hn4 : n0 + 4 ≤ z.next := by have := d8.lt; omega
   obtain ⟨p', c', y1, g1, g2, g3, g4⟩ := grow1 (n0 := n0 + 4) (σ := z) (τ := z) (intV (lev bus.full (cell rs l7) x g.ns)) appT_ints j6 (Le.refl _) (.inl ⟨agg3, rfl, rfl⟩) (by omega) hn4
   have hzy : Only (AtP p6) z y1 := (New.row _ _ _).only.trans' g3 (fun b _ h => .inl h)
   have b6 : ∀ b, AtP p6 b → n0 + 4 ≤ b ∧ b < τ.next := fun b hb => h3.bd hb
   have b7 : ∀ b, AtP p7 b → n0 + 4 ≤ b ∧ b < τ.next := fun b hb => h4.bd hb
   have f5 := fonly j1 hzy (fun b hb => (b6 b hb).1)
   have oi5 := hzy.own' j3 (fun hb => by have := (b6 _ hb).2; omega)
   have ol5 := hzy.own' j5 (fun hb => by have := (b6 _ hb).2; omega)
   have r7 := j7.only hzy (fun b hb h => h5 b h hb)
   obtain ⟨e1, e2', e3, e4, e5, e6, e7, e8, e9⟩ := id f5
   have hy1 := hzy.next
   obtain ⟨p'', c'', y2, i1, i2, i3, i4⟩ := grow1 (n0 := n0 + 4) (σ := y1) (τ := y1) (intV (lev bus.full (cell rs l7) x g.ns - y)) appT_ints r7 (Le.refl _) (.inl ⟨agg3, rfl, rfl⟩) (by omega) (by omega)
   have hzy2 : Only (AtP p7) y1 y2 := (New.row _ _ _).only.trans' i3 (fun b _ h => .inl h)
   have hy2 := hzy2.next
   have f6 := fonly f5 hzy2 (fun b hb => (b7 b hb).1)
   have nτ : τ.next ≤ z.next := by have := j3.lt; omega
   have ldL : ∀ {w}, Own w (τ.next + 2) [iV (lev bus.full (cell rs l7) x g.ns)] 1 → loadA Pg w 3 ⟨τ.next + 2, 0, none⟩ = some (iV (lev bus.full (cell rs l7) x g.ns)) := fun h => h.ld rfl agg3 (k := 0) rfl
   have kzr : Le z (z.row [iV (lev bus.full (cell rs l7) x g.ns)] 1) := (New.row _ _ _).le
   obtain ⟨au', ea, y', hy', ldy1⟩ := slv_at e4 hj
   cases ea; rw [hy] at hy'; cases hy'
   obtain ⟨au', ea, y', hy', ldy2⟩ := slv_at (SlV.le d4 kzr) hj
   cases ea; rw [hy] at hy'; cases hy'
   have l3 : τ.next + 2 < y1.next := ol5.lt
   have lu : au.block < y1.next := slv_lt e4 _ rfl
   have c3lt := e7.lt
   have c1lt := oi5.lt
   have p7lt : ∀ a, p7 = some a → a.block < y1.next := fun a e => by have := b7 a.block ⟨a, e, rfl⟩; omega
   have hpu := hpI l7 g.ns hj (Nat.le_refl _)
   refine play_t3xna (ldL j5) g1 (ldL ol5) (e7.ld rfl agg59 (k := 1) rfl) (oi5.ld rfl agg3 (k := 0) rfl) ldy1 i1 (belowL_cons (belowB_ptr l3) belowL_nil) (belowL_cons (belowB_ptr c3lt) belowL_nil) (belowL_cons (belowB_ptr c1lt) belowL_nil) (belowL_cons (belowB_ptr lu) belowL_nil)
    (belowL_cons (belowB_sl (fun a e => by have := p7lt a e; simp; omega)) (belowL_cons (belowB_sl1 (by simp)) belowL_nil))
    ⟨⟨l3, rfl⟩, ldL ol5⟩ ⟨⟨by simp; omega, rfl⟩, ldL ol5.row⟩ (ldL j5) (ldL j5.row) ⟨⟨l3, rfl⟩, ldL ol5⟩ (d7.ld rfl agg59 (k := 1) rfl) (d7.row.ld rfl agg59 (k := 1) rfl) ⟨⟨c3lt, rfl⟩, e7.ld rfl agg59 (k := 1) rfl⟩ (j3.ld rfl agg3 (k := 0) rfl) (j3.row.ld rfl agg3 (k := 0) rfl) ⟨⟨c1lt, rfl⟩, oi5.ld rfl agg3 (k := 0) rfl⟩ ldy ldy2 ⟨⟨lu, rfl⟩, ldy1⟩ (fun a e => by have := b6 a.block ⟨a, e, rfl⟩; omega)
    ⟨k - 1, by omega, l7 + 1, by omega, by omega, rfl, rfl, ?_, ?_, ?_, ?_, ?_, ?_, ?_, ?_⟩ (b_BG := j5.lt) (b_BC := d7.lt) (b_BH := j3.lt) (b_qE_a_block := slv_lt d4 _ rfl)
   ·exact ((N5.row').of_only g3 (fun b hb => by have := b6 b hb; rw [hn0] at this; omega)).row'.of_only i3 (fun b hb => by have := b7 b hb; rw [hn0] at this; omega)
   ·rw [sumN]; exact f6
   ·have : outL g rs hs (l7 + 1) = outL g rs hs l7 ++ [lev bus.full (cell rs l7) x g.ns] := by
     simp only [outL, List.range_succ, List.map_append, List.map_cons, List.map_nil, outI_eq hbus, ex]
    rw [this, List.map_append]
    refine g2.only hzy2 (fun b hb h => ?_)
    rcases g4 b hb with h' | h'
    ·exact h5 b h' h
    ·have := b7 b h; omega
   ·have : leftL g rs hs us (l7 + 1) = leftL g rs hs us l7 ++ [lev bus.full (cell rs l7) x g.ns - y] := by
     simp only [leftL, List.range_succ, List.map_append, List.map_cons, List.map_nil, outI_eq hbus, ex, ey]
    rw [this, List.map_append]
    exact i2
   ·intro b hb h
    have hlt := (g2.bd hb).2
    rcases i4 b h with h' | h'
    ·rcases g4 b hb with h'' | h''
     ·exact h5 b h'' h'
     ·have := b7 b h'; omega
    ·omega
   ·have hd : ∀ m, m < z.next → getB z.heap m = some .defd → getB y2.heap m = some .defd := fun m hm e => by
     have e1 := (hzy.get m hm (fun hb => gr_not_defd j6 e hb)).trans e
     exact (hzy2.get m (by omega) (fun hb => gr_not_defd r7 e1 hb)).trans e1
    intro m hm
    rcases List.mem_cons.1 hm with rfl | hm
    ·exact ⟨hd _ zlt zd, by omega⟩
    ·have := j8 m hm; exact ⟨hd m this.2 this.1, by omega⟩
   ·exact List.nodup_cons.2 ⟨fun hm => by have := (h6 _ hm).2; have := N4.nx; omega, h7⟩
   ·intro m hm
    rcases List.mem_cons.1 hm with rfl | hm
    ·have := N4.nx; omega
    ·exact h8 m hm
 ·rintro p6 l6 c6 p7 l7 c7 ms τ ⟨h1, h2, h3, h4, h5, h6, h7⟩
  obtain ⟨h8, h9⟩ := fset (n' := paidZ g rs hs) h2 h1
  have o3 := h2.2.2.2.2.2.2.2.1
  have hne : ∀ m ∈ ms, m ≠ n0 + 3 := fun m hm e => by have := h5 m hm; rw [e, o3.get] at this; cases this
  have hd : ∀ m ∈ ms, getB (τ.own (n0 + 3) [iV (paidZ g rs hs)] 1).heap m = some .defd := fun m hm => by
   show getB (τ.put _ _).heap m = _
   rw [St.put_get, if_neg (hne m hm)]; exact h5 m hm
  obtain ⟨s_end, e1, e2, e3, e4⟩ := shut_all (σ := τ.own (n0 + 3) [iV (paidZ g rs hs)] 1) (ms := ms) hd h6
  have k0 : Only (· = n0 + 3) τ (τ.own (n0 + 3) [iV (paidZ g rs hs)] 1) := Only.own (.inr rfl)
  have k3 := h3.only k0 (fun b hb e => by have := (h3.bd hb).1; omega)
  have k4 := h4.only k0 (fun b hb e => by have := (h4.bd hb).1; omega)
  have hO : Only (· ∈ ms) (τ.own (n0 + 3) [iV (paidZ g rs hs)] 1) s_end := ⟨by rw [e2]; exact Nat.le_refl _, fun b _ hb => e3 b hb, fun m q1 q2 q3 => e4 m q1 (fun x hx => by
   by_cases hxl : x < (τ.own (n0 + 3) [iV (paidZ g rs hs)] 1).next
   ·exact q3 x hxl hx
   ·omega)⟩
  have m3 := k3.only hO (fun b hb hm => gr_not_defd k3 (hd b hm) hb)
  have m4 := k4.only hO (fun b hb hm => gr_not_defd k4 (hd b hm) hb)
  have hN : New σ.re s_end := h9.of_only hO (fun b hb => by have := h7 b hb; rw [← hn0]; omega)
  exact play_t2x2a (o3.ld rfl agg3 (k := 0) rfl) (o3.store (k := 0) (t := 3) (v := iV (paidZ g rs hs)) (vs := [iV (paidZ g rs hs)]) (ds := [iV (paidZ g rs hs)]) rfl size3 rfl (by simp) rfl) e1 (((o3.put (ds := [iV (paidZ g rs hs)])).at_ (e3 _ (fun hm => hne _ hm rfl)) (by rw [e2]; exact Nat.le_refl _)).ld rfl agg3 (k := 0) rfl)
   ⟨hN, p6, l6, c6, p7, l7, c7, paidZ g rs hs, 0, rfl, .inr (.inr ⟨hv, hP, hT, rfl, rfl, m3.slv, m4.slv⟩)⟩
end
end Go.Proofs.Ythcdddbghldmiaa
