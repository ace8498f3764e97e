
import Derived.Test.YthcdddbghldmiaaCP
import Derived.Test.YthcdddbghldmiaaCQ
namespace Go.Proofs.Ythcdddbghldmiaa
open Go Go.Lay
set_option linter.unusedVariables false
set_option linter.unusedSimpArgs false
set_option maxRecDepth 20000
theorem sumN_bdC {f : Nat → Int} {C : Int} : ∀ {n : Nat}, (∀ i, i < n → -C ≤ f i ∧ f i ≤ C) → -(C * (n : Int)) ≤ sumN n f ∧ sumN n f ≤ C * (n : Int)
 | 0, _ => by simp [sumN]
 | n + 1, h => by
  have h1 := sumN_bdC (n := n) (fun i hi => h i (by omega))
  have h2 := h n (by omega)
  rw [sumN, show ((n + 1 : Nat) : Int) = (n : Int) + 1 by omega, Int.mul_add, Int.mul_one]
  omega
theorem mulS_bd {a b A C : Int} (h1 : 0 ≤ a) (h2 : a ≤ A) (h3 : -C ≤ b) (h4 : b ≤ C) (hC : 0 ≤ C) : -(A * C) ≤ a * b ∧ a * b ≤ A * C := by
 have e1 : a * b ≤ a * C := Int.mul_le_mul_of_nonneg_left h4 h1
 have e2 : a * C ≤ A * C := Int.mul_le_mul_of_nonneg_right h2 hC
 have e3 : a * (-C) ≤ a * b := Int.mul_le_mul_of_nonneg_left h3 h1
 rw [Int.mul_neg] at e3
 omega
section
variable {σ τ : St} {g : Gar} {p q wp up : Option Addr} {c d cw cu : Nat} {ws us : List Int}
def bndI (g : Gar) (w t : Nat → Int) (i n : Nat) : Int := needI g i * w i - sumN n fun s => rateI g i s * max 0 (w i - prS g s - t s)
theorem bound_c (hg : GarP σ p g.ns q g.nb g) (hv : Valid g) (hw : IntsP σ wp g.nb ws) (hu : IntsP σ up g.ns us) (hwb : ∀ i, -100000 ≤ ws.getD i 0 ∧ ws.getD i 0 ≤ 100000) (hub : ∀ i, 0 ≤ us.getD i 0 ∧ us.getD i 0 ≤ 100000) :
  CallsA Try.prog 67 [.agg ⟨garL p g.ns c q g.nb d⟩, .slice wp g.nb cw, .slice up g.ns cu] σ (iV (boundZ g (fun i => ws.getD i 0) (fun s => us.getD s 0))) σ := by
 have hns := hv.ns; have hnb := hv.nb
 obtain ⟨w, hwd⟩ : ∃ w : Nat → Int, w = fun i => ws.getD i 0 := ⟨_, rfl⟩
 obtain ⟨t, htd⟩ : ∃ t : Nat → Int, t = fun s => us.getD s 0 := ⟨_, rfl⟩
 have hwb' : ∀ i, -100000 ≤ w i ∧ w i ≤ 100000 := fun i => by rw [hwd]; exact hwb i
 have hub' : ∀ s, 0 ≤ t s ∧ t s ≤ 100000 := fun i => by rw [htd]; exact hub i
 rw [← hwd, ← htd]
 have b1 : ∀ s, -100000000 ≤ pwS g s * t s ∧ pwS g s * t s ≤ 100000000 := fun s => by
  have h1 := hv.pw s; have h2 := hub' s
  have := mulS_bd (A := 1000) (C := 100000) h1.1 h1.2 (by omega) h2.2 (by omega); omega
 have b2 : ∀ i, -100000000 ≤ needI g i * w i ∧ needI g i * w i ≤ 100000000 := fun i => by
  have h1 := needI_nn (g := g) i
  have h2 : needI g i ≤ 1000 := by
   by_cases hi : i < g.nb
   ·obtain ⟨b, hb⟩ := bus_at hi
    rw [needI_eq hb]
    have := busB_iff (hv.b hb); unfold needZ; omega
   ·have : g.buses[i]? = none := List.getElem?_eq_none (by unfold Gar.nb at hi; omega)
    simp [needI, this]
  have h3 := hwb' i
  have := mulS_bd (A := 1000) (C := 100000) h1 h2 h3.1 h3.2 (by omega); omega
 have b3 : ∀ i s, -100000000 ≤ rateI g i s * max 0 (w i - prS g s - t s) ∧ rateI g i s * max 0 (w i - prS g s - t s) ≤ 100000000 := fun i s => by
  have h1 := hv.rate i s
  have h2 : rateI g i s ≤ 1000 := by
   by_cases hi : i < g.nb
   ·obtain ⟨b, hb⟩ := bus_at hi
    rw [rateI_eq hb]
    have := busB_iff (hv.b hb); split <;> omega
   ·have : g.buses[i]? = none := List.getElem?_eq_none (by unfold Gar.nb at hi; omega)
    simp [rateI, this]
  have h3 := hwb' i; have h4 := hub' s; have h5 := hv.pr s
  have := mulS_bd (A := 1000) (C := 100000) (b := max 0 (w i - prS g s - t s)) h1 h2 (by omega) (by omega) (by omega); omega
 have s1 : ∀ j, j ≤ g.ns → -1200000000 ≤ sumN j (fun s => pwS g s * t s) ∧ sumN j (fun s => pwS g s * t s) ≤ 1200000000 := fun j hj => by
  have := sumN_bdC (n := j) (C := 100000000) (f := fun s => pwS g s * t s) (fun i _ => b1 i); omega
 have s2 : ∀ i j, j ≤ g.ns → -1300000000 ≤ bndI g w t i j ∧ bndI g w t i j ≤ 1300000000 := fun i j hj => by
  have h1 := sumN_bdC (n := j) (C := 100000000) (f := fun s => rateI g i s * max 0 (w i - prS g s - t s)) (fun s _ => b3 i s)
  have h2 := b2 i
  unfold bndI; omega
 have s3 : ∀ j, j ≤ g.nb → -6500000000 ≤ sumN j (fun i => bndI g w t i g.ns) ∧ sumN j (fun i => bndI g w t i g.ns) ≤ 6500000000 := fun j hj => by
  have := sumN_bdC (n := j) (C := 1300000000) (f := fun i => bndI g w t i g.ns) (fun i _ => s2 i _ (Nat.le_refl _)); omega
 obtain ⟨n0, hn0⟩ : ∃ n0, n0 = σ.re.next := ⟨_, rfl⟩
 have hn0' : n0 = σ.next := hn0
 obtain ⟨S0, hS0⟩ : ∃ S0, S0 = sumN g.ns (fun s => pwS g s * t s) := ⟨_, rfl⟩
 have hS0b := s1 g.ns (Nat.le_refl _)
 rw [← hS0] at hS0b
 have hres : boundZ g w t = sumN g.nb (fun i => bndI g w t i g.ns) - S0 := by rw [hS0]; rfl
 let FB : St → Int → Prop := fun z n => GarP z p g.ns q g.nb g ∧ IntsP z wp g.nb ws ∧ IntsP z up g.ns us ∧ Own z n0 (garL p g.ns c q g.nb d) 2 ∧ Own z (n0 + 1) [.slice wp g.nb cw] 1 ∧ Own z (n0 + 2) [.slice up g.ns cu] 1 ∧ Own z (n0 + 3) [iV n] 1
 have fsame : ∀ {z z' n}, FB z n → Same n0 z z' → FB z' n := by
  rintro z z' n ⟨a1, a2, a3, a4, a5, a6, a7⟩ h
  exact ⟨⟨h.slv a1.sl, h.slv a1.bu⟩, h.slv a2, h.slv a3, h.own a4, h.own a5, h.own a6, h.own a7⟩
 have hpl : ∀ {z : St} {t n len : Nat} {x : Option Addr} {vs : List Value}, SlV Try.prog σ t n x len vs → ∀ a, x = some a → a.block < n0 := by
  intro z t n len x vs h a e; rw [hn0']; exact slv_lt h a e
 have fset : ∀ {z n n'}, FB z n → New σ.re z → FB (z.own (n0 + 3) [iV n'] 1) n' ∧ New σ.re (z.own (n0 + 3) [iV n'] 1) := by
  rintro z n n' ⟨a1, a2, a3, a4, a5, a6, a7⟩ h
  have k : Only (· = n0 + 3) z (z.own (n0 + 3) [iV n'] 1) := Only.own (.inr rfl)
  exact ⟨⟨⟨k.slv' a1.sl (fun a e => by have := hpl (z := z) hg.sl a e; omega), k.slv' a1.bu (fun a e => by have := hpl (z := z) hg.bu a e; omega)⟩, k.slv' a2 (fun a e => by have := hpl (z := z) hw a e; omega), k.slv' a3 (fun a e => by have := hpl (z := z) hu a e; omega),
   k.own' a4 (by omega), k.own' a5 (by omega), k.own' a6 (by omega), a7.put⟩, h.own (by rw [← hn0]; omega)⟩
 have fle : ∀ {z z' n}, FB z n → Le z z' → n0 ≤ z.next → FB z' n := fun h k hn => fsame h (Same.of_le k hn)
 refine RunsQ.pure ?_
 refine bound_ra (P0 := fun τ => New σ.re τ ∧ FB τ (0 - S0)) ?_ ?_
 ·show bound_L1 σ.re.next _ _ _ _ _ _ 0 _ _
  rw [← hn0]
  refine bound_loop1 (Inv := fun k i τ => ∃ j : Nat, i = j ∧ j + k = g.ns ∧ New σ.re τ ∧ FB τ (0 - sumN j (fun s => pwS g s * t s))) ?_ g.ns 0 _ ⟨0, rfl, by omega, (((New.row _ _ _).row').row').row', ?_⟩
  rotate_left
  ·have hN : New σ.re ((((σ.re.row (garL p g.ns c q g.nb d) 2).row [.slice wp g.nb cw] 1).row [.slice up g.ns cu] 1).row [iV 0] 1) := (((New.row _ _ _).row').row').row'
   have hl := (le0 σ).trans hN.le
   refine ⟨hg.le hl, SlV.le hw hl, SlV.le hu hl, ?_, ?_, ?_, ?_⟩ <;> rw [hn0]
   ·exact (own_new _ _ _).row.row.row
   ·exact (own_new (σ.re.row (garL p g.ns c q g.nb d) 2) _ _).row.row
   ·exact (own_new ((σ.re.row (garL p g.ns c q g.nb d) 2).row [.slice wp g.nb cw] 1) _ _).row
   ·exact own_new (((σ.re.row (garL p g.ns c q g.nb d) 2).row [.slice wp g.nb cw] 1).row [.slice up g.ns cu] 1) _ _
  rintro k i τ ⟨j, rfl, hk, f1, f2⟩
  by_cases hj : j < g.ns
  rotate_left
  ·have : j = g.ns := by omega
   subst this
   exact bound_s1b ⟨f1, by rw [hS0]; exact f2⟩
  obtain ⟨a, rfl, x, hx, ldx⟩ := slv_at f2.1.sl hj
  obtain ⟨τ2, hτ2⟩ : ∃ τ2, τ2 = (τ.row [iV 0, iV 0] 2).own τ.next (slotL x) 2 := ⟨_, rfl⟩
  have n2 : New τ τ2 := by rw [hτ2]; exact (New.row _ _ _).own (Nat.le_refl _)
  have fn := f1.nx
  have f22 := fle f2 n2.le (by rw [hn0]; exact fn)
  obtain ⟨a1, a2, a3, a4, a5, a6, a7⟩ := id f22
  obtain ⟨au, rfl, y, hy, ldy⟩ := slv_at a3 hj
  have ey : t j = y := by rw [htd]; simp [hy]
  have epw : pwS g j = x.pw := by simp [pwS, hx]
  have hb := b1 j
  rw [ey, epw] at hb
  have hs := s1 j (by omega)
  have hs' := s1 (j + 1) (by omega)
  rw [sumN] at hs'
  have e2 : pwS g j * t j = x.pw * y := by rw [ey, epw]
  rw [e2] at hs'
  obtain ⟨f3, f4⟩ := fset (n' := 0 - sumN j (fun s => pwS g s * t s) - x.pw * y) f22 (f1.trans n2)
  refine bound_s1a ldx (by rw [← hτ2]; exact a7.ld rfl agg3 (k := 0) rfl) (by rw [← hτ2]; exact a6.ld rfl agg59 (k := 0) rfl) (by rw [← hτ2]; exact ldy) (by rw [← hτ2]; exact a7.store (k := 0) (t := 3) (v := iV (0 - sumN j (fun s => pwS g s * t s) - x.pw * y)) (vs := [iV (0 - sumN j (fun s => pwS g s * t s) - x.pw * y)]) (ds := [iV (0 - sumN j (fun s => pwS g s * t s) - x.pw * y)]) rfl size3 rfl (by simp) rfl)
   ⟨k - 1, by omega, j + 1, by omega, by omega, f4, ?_⟩
  rw [sumN, e2, show 0 - (sumN j (fun s => pwS g s * t s) + x.pw * y) = 0 - sumN j (fun s => pwS g s * t s) - x.pw * y by omega]; exact f3
 rintro τ ⟨f1, f2⟩
 rw [← hn0]
 have fn0 := f1.nx
 refine bound_t1x0a (P2 := fun ms τ => New σ.re τ ∧ FB τ (boundZ g w t) ∧ (∀ m ∈ ms, getB τ.heap m = some .defd) ∧ ms.Nodup ∧ ∀ m ∈ ms, n0 ≤ m) (f2.2.2.2.1.ld rfl agg33 (k := 1) rfl) ?_ ?_
 rotate_left
 ·rintro ms τ ⟨h1, h2, h3, h4, h5⟩
  obtain ⟨h6, h7⟩ := fset (n' := boundZ g w t) h2 h1
  have o3 := h2.2.2.2.2.2.2
  have hne : ∀ m ∈ ms, m ≠ n0 + 3 := fun m hm e => by have := h3 m hm; rw [e, o3.get] at this; cases this
  obtain ⟨s_end, e1, e2, e3, e4⟩ := shut_all (σ := τ.own (n0 + 3) [iV (boundZ g w t)] 1) (ms := ms) (fun m hm => by
   show getB (τ.put _ _).heap m = _
   rw [St.put_get, if_neg (hne m hm)]; exact h3 m hm) h4
  refine bound_t2x2a (o3.ld rfl agg3 (k := 0) rfl) (o3.store (k := 0) (t := 3) (v := iV (boundZ g w t)) (vs := [iV (boundZ g w t)]) (ds := [iV (boundZ g w t)]) rfl size3 rfl (by simp) rfl) e1 (((o3.put (ds := [iV (boundZ g w t)])).at_ (e3 _ (fun hm => hne _ hm rfl)) (by rw [e2]; exact Nat.le_refl _)).ld rfl agg3 (k := 0) rfl) ⟨rfl, ?_⟩
  exact e4 _ (h7.low _ (Nat.le_refl _) (Nat.le_refl _)) (fun m hm => by have := h5 m hm; show σ.next ≤ m; omega)
 refine bound_loop2 (Inv := fun k i ms τ => ∃ j : Nat, i = j ∧ j + k = g.nb ∧ New σ.re τ ∧ FB τ (sumN j (fun i => bndI g w t i g.ns) - S0) ∧ (∀ m ∈ ms, getB τ.heap m = some .defd ∧ m < τ.next) ∧ ms.Nodup ∧ ∀ m ∈ ms, n0 ≤ m) ?_ g.nb 0 [] τ ⟨0, rfl, by omega, f1, by simpa [sumN] using f2, by simp, by simp, by simp⟩
 rintro k i ms τ ⟨j, rfl, hk, h1, h2, h3, h4, h5⟩
 by_cases hj : j < g.nb
 rotate_left
 ·have : j = g.nb := by omega
  subst this
  exact bound_s2b ⟨h1, by rw [hres]; exact h2, fun m hm => (h3 m hm).1, h4, h5⟩
 have fn := h1.nx
 have fn' : n0 ≤ τ.next := by rw [hn0]; exact fn
 obtain ⟨a, rfl, bus, hbus, ldb⟩ := slv_at h2.1.bu hj
 obtain ⟨τ2, hτ2⟩ : ∃ τ2, τ2 = (((τ.row [iV 0] 1).row (ints9 0 0 0 0 0 0 0 0 0) 9).own τ.next [iV (j : Int)] 1).own (τ.next + 1) (busL bus) 9 := ⟨_, rfl⟩
 have n2 : New τ τ2 := by rw [hτ2]; exact (((New.row _ _ _).row').own (Nat.le_refl _)).own (by omega)
 have oi : Own τ2 τ.next [iV (j : Int)] 1 := by rw [hτ2]; exact ((own_new τ _ _).row.put).own (by omega)
 have ob : Own τ2 (τ.next + 1) (busL bus) 9 := by rw [hτ2]; exact ((own_new (τ.row [iV 0] 1) _ _).own (ds := [iV (j : Int)]) (m := 1) (show τ.next + 1 ≠ τ.next by omega)).put
 have h22 := fle h2 n2.le fn'
 obtain ⟨a1, a2, a3, a4, a5, a6, a7⟩ := id h22
 obtain ⟨aw, rfl, y, hy, ldy⟩ := slv_at a2 hj
 have ey : w j = y := by rw [hwd]; simp [hy]
 have en := needI_eq hbus
 have hb := b2 j
 rw [ey, en] at hb
 have hs := s3 j (by omega)
 have h3l := a7.lt
 obtain ⟨f3, f4⟩ := fset (n' := sumN j (fun i => bndI g w t i g.ns) - S0 + needZ bus * y) h22 (h1.trans n2)
 obtain ⟨τ3, hτ3⟩ : ∃ τ3, τ3 = τ2.own (n0 + 3) [iV (sumN j (fun i => bndI g w t i g.ns) - S0 + needZ bus * y)] 1 := ⟨_, rfl⟩
 rw [← hτ3] at f3 f4
 have k3 : Only (· = n0 + 3) τ2 τ3 := by rw [hτ3]; exact Only.own (.inr rfl)
 have nx2 : τ2.next = τ.next + 2 := by rw [hτ2]; rfl
 have nx3 : τ3.next = τ2.next := by rw [hτ3]; rfl
 have b3l := h2.2.2.2.2.2.2.lt
 have oi3 := k3.own' oi (by omega)
 have ob3 := k3.own' ob (by omega)
 obtain ⟨z1, z2, τ4, q1, q2, q3, q4⟩ := stay_c (σ := τ3) (p := p) (l := g.ns) (c := c) (q := some a) (m := g.nb) (d := d) (b := bus)
 have f5 := fle f3 q2.le (by omega)
 have N5 : New σ.re τ4 := f4.trans q2
 have oi4 := oi3.le q2.le
 have ob4 := ob3.le q2.le
 have hm4 : ∀ m ∈ ms, getB τ4.heap m = some .defd := fun m hm => by
  have h := h3 m hm
  rw [q2.le.get m (by omega), k3.get m (by omega) (fun e => by have h6 := h2.2.2.2.2.2.2.get; have e : m = n0 + 3 := e; rw [← e, h.1] at h6; cases h6), n2.le.get m h.2]
  exact h.1
 have q2n := q2.nx
 have haw := hpl (z := σ) hw aw rfl
 refine bound_s2a (Pn := fun z => New σ.re z ∧ FB z (sumN (j + 1) (fun i => bndI g w t i g.ns) - S0) ∧ (∀ m ∈ ms, getB z.heap m = some .defd) ∧ getB z.heap τ4.next = some .defd ∧ τ4.next < z.next) ldb (by rw [← hτ2]; exact a7.ld rfl agg3 (k := 0) rfl)
  (by rw [← hτ2]; exact need_c (hv.b hbus)) (by rw [← hτ2]; exact a5.ld rfl agg59 (k := 0) rfl) (by rw [← hτ2]; exact ldy)
  (by rw [← hτ2]; have := a7.store (P := Try.prog) (k := 0) (t := 3) (v := iV (sumN j (fun i => bndI g w t i g.ns) - S0 + needZ bus * y)) (vs := [iV (sumN j (fun i => bndI g w t i g.ns) - S0 + needZ bus * y)]) (ds := [iV (sumN j (fun i => bndI g w t i g.ns) - S0 + needZ bus * y)]) rfl size3 rfl (by simp) rfl; rw [← hτ3] at this; exact this)
  (f3.2.2.2.1.ldN agg35 size35 (k := 0) rfl rfl (by simp)) (ob3.ldN agg97 size97 (k := 0) rfl rfl (by simp)) q1 ?_ ?_
 rotate_left
 ·rintro z ⟨z1, z2, z3, z4, z5⟩
  have hz4 : n0 ≤ τ4.next := by omega
  refine bound_t3xna ⟨k - 1, by omega, j + 1, by omega, by omega, z1, z2, ?_, ?_, ?_⟩
  ·intro m hm
   rcases List.mem_cons.1 hm with rfl | hm
   ·exact ⟨z4, z5⟩
   ·have := h3 m hm; exact ⟨z3 m hm, by omega⟩
  ·exact List.nodup_cons.2 ⟨fun hm => by have := (h3 _ hm).2; omega, h4⟩
  ·intro m hm
   rcases List.mem_cons.1 hm with rfl | hm
   ·exact hz4
   ·exact h5 m hm
 let V : Nat → Int := fun s => sumN j (fun i => bndI g w t i g.ns) - S0 + bndI g w t j s
 let J : Nat → St → Prop := fun s z => (∀ y, y < n0 → getB z.heap y = getB σ.re.heap y) ∧ n0 ≤ z.next ∧ FB z (V s) ∧ Own z τ.next [iV (j : Int)] 1 ∧ Own z (τ.next + 1) (busL bus) 9 ∧ ∀ m ∈ ms, getB z.heap m = some .defd ∧ m < z.next
 have hV0 : sumN j (fun i => bndI g w t i g.ns) - S0 + needZ bus * y = V 0 := by
  show _ = _ + (needI g j * w j - 0); rw [en, ey]; omega
 rw [hV0] at f5
 refine stay_range (n0 := n0) (J := J) (bus := bus) (fun g0 => by kernel_rfl) (hv.b hbus) q3 q4 (by omega) (by omega) ⟨fun y hy => N5.le.get y (by rw [← hn0]; exact hy), by omega, f5, oi4, ob4, fun m hm => ⟨hm4 m hm, by have := (h3 m hm).2; omega⟩⟩ ?_ ?_ ?_ ?_
 ·rintro s z z' ⟨j1, j2, j3, j4, j5, j6⟩ hs
  exact ⟨fun y hy => (hs.old y hy).trans (j1 y hy), Nat.le_trans j2 hs.next, fsame j3 hs, hs.own j4, hs.own j5, fun m hm => ⟨(hs.get m (j6 m hm).2 (fun _ _ _ _ _ _ _ e => by rw [(j6 m hm).1] at e; cases e)).trans (j6 m hm).1, Nat.lt_of_lt_of_le (j6 m hm).2 hs.next⟩⟩
 ·rintro s z hs ht ⟨j1, j2, j3, j4, j5, j6⟩
  have : V (s + 1) = V s := by
   show _ + (needI g j * w j - sumN (s + 1) _) = _ + (needI g j * w j - sumN s _)
   rw [sumN, rateI_eq hbus, if_neg (by simp [ht])]; omega
  exact ⟨j1, j2, by rw [this]; exact j3, j4, j5, j6⟩
 ·rintro s z zz lo g0 db hs ht hl hzz ⟨j1, j2, j3, j4, j5, j6⟩ hnz
  obtain ⟨c1, c2, c3, c4, c5, c6, c7⟩ := id j3
  obtain ⟨aw', e, y', hy', ldy'⟩ := slv_at c2 hj
  cases e
  rw [hy] at hy'; cases hy'
  obtain ⟨asl, rfl, x, hx, _, ldp⟩ := pw_at c1.sl hs
  obtain ⟨au, rfl, u, hu', ldu⟩ := slv_at c3 hs
  have eu : t s = u := by rw [htd]; simp [hu']
  have epr : prS g s = x.pr := by simp [prS, hx]
  have er : rateI g j s = bus.rate := by rw [rateI_eq hbus, if_pos ht]
  have hpr := hv.pr s
  have hus := hub' s
  have hyb := hwb' j
  have hb3 := b3 j s
  have hs2 := s2 j s (by omega)
  have hs2' := s2 j (s + 1) (by omega)
  have hVs : V (s + 1) = V s - bus.rate * max 0 (y - x.pr - u) := by
   show _ + (needI g j * w j - sumN (s + 1) _) = _ + (needI g j * w j - sumN s _) - _
   rw [sumN, er, ey, epr, eu]; omega
  have hVb : -10000000000 ≤ V s ∧ V s ≤ 10000000000 := by show -10000000000 ≤ _ + _ ∧ _ + _ ≤ (10000000000 : Int); omega
  rw [er, ey, epr, eu] at hb3
  rw [epr] at hpr; rw [eu] at hus; rw [ey] at hyb
  have kr : Le zz (zz.row [iV 0, iV (y - x.pr - u)] 1) := (New.row _ _ _).le
  have c7r := c7.le kr
  have j5r := j5.le kr
  obtain ⟨f6, _⟩ : FB ((zz.row [iV 0, iV (y - x.pr - u)] 1).own (n0 + 3) [iV (V s - bus.rate * max 0 (y - x.pr - u))] 1) (V s - bus.rate * max 0 (y - x.pr - u)) ∧ True := by
   obtain ⟨d1, d2, d3, d4, d5, d6, d7⟩ := fle j3 kr j2
   have k : Only (· = n0 + 3) (zz.row [iV 0, iV (y - x.pr - u)] 1) ((zz.row [iV 0, iV (y - x.pr - u)] 1).own (n0 + 3) [iV (V s - bus.rate * max 0 (y - x.pr - u))] 1) := Only.own (.inr rfl)
   exact ⟨⟨⟨k.slv' d1.sl (fun a e => by have := hpl (z := z) hg.sl a e; omega), k.slv' d1.bu (fun a e => by have := hpl (z := z) hg.bu a e; omega)⟩, k.slv' d2 (fun a e => by have := hpl (z := z) hw a e; omega), k.slv' d3 (fun a e => by have := hpl (z := z) hu a e; omega),
    k.own' d4 (by omega), k.own' d5 (by omega), k.own' d6 (by omega), d7.put⟩, trivial⟩
  have kk : Only (· = n0 + 3) zz ((zz.row [iV 0, iV (y - x.pr - u)] 1).own (n0 + 3) [iV (V s - bus.rate * max 0 (y - x.pr - u))] 1) := (New.row _ _ _).only.trans' (Only.own (S := (· = n0 + 3)) (.inr rfl)) (fun b _ h => .inl h)
  refine ⟨_, bound_y3a hl hzz (c7.ld rfl agg3 (k := 0) rfl) (j5.ld rfl agg3 (k := 2) rfl) (c5.ld rfl agg59 (k := 0) rfl) (j4.ld rfl agg3 (k := 0) rfl) ldy' (c4.ld rfl agg32 (k := 0) rfl) ldp (c6.ld rfl agg59 (k := 0) rfl) ldu greater2_c
   (c7r.store (k := 0) (t := 3) (v := iV (V s - bus.rate * max 0 (y - x.pr - u))) (vs := [iV (V s - bus.rate * max 0 (y - x.pr - u))]) (ds := [iV (V s - bus.rate * max 0 (y - x.pr - u))]) rfl size3 rfl (by simp) rfl) (c7r.ld rfl agg3 (k := 0) rfl) (j5r.ld rfl agg3 (k := 2) rfl) rfl
   (b_BD := c7.lt) (b_BG := j5.lt) (b_BB := c5.lt) (b_BE := j4.lt) (b_qP_a_block := slv_lt c2 _ rfl) (b_BA := c4.lt) (b_qQ_a_block := slv_lt c1.sl _ rfl) (b_BC := c6.lt) (b_qR_a_block := slv_lt c3 _ rfl), ⟨?_, ?_, ?_, ?_, ?_, ?_⟩, _, kk, ?_⟩
  ·intro y hy
   rw [kk.get y (by omega) (by omega)]; exact j1 y hy
  ·exact Nat.le_trans j2 kk.next
  ·rw [hVs]; exact f6
  ·exact kk.own' j4 (by omega)
  ·exact kk.own' j5 (by omega)
  ·intro m hm
   have := j6 m hm
   exact ⟨(kk.get m this.2 (fun e => by have e : m = n0 + 3 := e; rw [e, c7.get] at this; cases this.1)).trans this.1, Nat.lt_of_lt_of_le this.2 kk.next⟩
  ·rintro y rfl
   exact ⟨by omega, fun _ => ⟨_, _, _, _, _, c7.get⟩⟩
 ·rintro z ⟨j1, j2, j3, j4, j5, j6⟩ hd hlt hlow
  refine ⟨⟨⟨by rw [← hn0]; exact j2, fun y hy => j1 y (by rw [hn0]; exact hy)⟩, fun m h1 h2 => hlow m (by rw [hn0]; exact h2) (N5.low m h1 h2)⟩, ?_, fun m hm => (j6 m hm).1, hd, hlt⟩
  rw [sumN, show sumN j (fun i => bndI g w t i g.ns) + bndI g w t j g.ns - S0 = V g.ns by show _ = _ - _ + _; omega]; exact j3
end
end Go.Proofs.Ythcdddbghldmiaa
