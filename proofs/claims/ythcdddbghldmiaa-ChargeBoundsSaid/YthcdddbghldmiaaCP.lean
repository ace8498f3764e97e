
import Derived.Test.YthcdddbghldmiaaCO
import Derived.Test.YthcdddbghldmiaaCC
import Derived.Test.YthcdddbghldmiaaPA
namespace Go.Proofs.Ythcdddbghldmiaa
open Go Go.Lay
set_option linter.unusedVariables false
set_option linter.unusedSimpArgs false
set_option maxRecDepth 20000
section
variable {σ τ : St} {w : Nat} {g : Gar} {W : Wk} {p q pp : Option Addr} {c d cp : Nat} {B : Nat → Nat}
def worthL (g : Gar) (π : Nd → Int) : List Int := (List.range g.nb).map (worth π)
def surL (g : Gar) (π : Nd → Int) : List Int := (List.range g.ns).map (sur π)
def ProofQ (g : Gar) (p1 : Option Addr) (l1 c1 : Nat) (p2 : Option Addr) (l2 c2 : Nat) (e : Int) (s : St) : Prop :=
 (checkZ g ≠ 0 ∧ p1 = none ∧ l1 = 0 ∧ c1 = 0 ∧ p2 = none ∧ l2 = 0 ∧ c2 = 0 ∧ e = checkZ g) ∨ (Valid g ∧ p1 = none ∧ l1 = 0 ∧ c1 = 0 ∧ p2 = none ∧ l2 = 0 ∧ c2 = 0 ∧ e = 9 ∧ ∃ P, 0 < lackF g P) ∨
 (Valid g ∧ e = 0 ∧ ∃ W π, Good g W ∧ (∀ i, i < g.nb → sumN g.ns (cell W.plan i) = needI g i) ∧ Pot (waysM g W) π ∧ (∀ v ∈ nodes g, -18000 ≤ π v ∧ π v ≤ 0) ∧ IntsP s p1 l1 (worthL g π) ∧ IntsP s p2 l2 (surL g π))
theorem Proof_c (hg : GarP σ p g.ns q g.nb g) : ∃ p1 l1 c1 p2 l2 c2 e σ', CallsA Try.prog 41 [.agg ⟨garL p g.ns c q g.nb d⟩] σ (.tuple ⟨[.slice p1 l1 c1, .slice p2 l2 c2, iV e]⟩) σ' ∧ New σ σ' ∧ ProofQ g p1 l1 c1 p2 l2 c2 e σ' := by
 have N1 : New σ.re (σ.re.row (garL p g.ns c q g.nb d) 2) := New.row _ _ _
 have g1 := hg.le ((le0 σ).trans N1.le)
 have c0 := check_c (c := c) (d := d) g1
 suffices key : RunsQ Try.prog 41 [.agg ⟨garL p g.ns c q g.nb d⟩] σ.re fun v s => New σ.re s ∧ ∃ p1 l1 c1 p2 l2 c2 e, v = .tuple ⟨[.slice p1 l1 c1, .slice p2 l2 c2, iV e]⟩ ∧ ProofQ g p1 l1 c1 p2 l2 c2 e s by
  obtain ⟨v, s, h1, h2, p1, l1, c1, p2, l2, c2, e, rfl, h3⟩ := RunsQ.new (Q := fun v s => ∃ p1 l1 c1 p2 l2 c2 e, v = .tuple ⟨[.slice p1 l1 c1, .slice p2 l2 c2, iV e]⟩ ∧ ProofQ g p1 l1 c1 p2 l2 c2 e s) key
   (by
    rintro v s s' ⟨p1, l1, c1, p2, l2, c2, e, rfl, h⟩ hle
    exact ⟨p1, l1, c1, p2, l2, c2, e, rfl, h.imp id (Or.imp id (fun ⟨h1, h2, W, π, h3, h4, h5, h6, h7, h8⟩ => ⟨h1, h2, W, π, h3, h4, h5, h6, h7.le hle, h8.le hle⟩))⟩)
   (by
    rintro v s hr ⟨p1, l1, c1, p2, l2, c2, e, rfl, h⟩
    have e1 : p1 = none := by
     cases p1 with
     | none => rfl
     | some a => exact Bool.noConfusion (show false = true from hr)
    subst e1
    have e2 : p2 = none := by
     cases p2 with
     | none => rfl
     | some a => exact Bool.noConfusion (show false = true from hr)
    subst e2
    exact ⟨none, l1, c1, none, l2, c2, e, rfl, h.imp id (Or.imp id (fun ⟨h1, h2, W, π, h3, h4, h5, h6, h7, h8⟩ => ⟨h1, h2, W, π, h3, h4, h5, h6, slv_none h7, slv_none h8⟩))⟩)
  exact ⟨p1, l1, c1, p2, l2, c2, e, s, h1, h2, h3⟩
 by_cases hz : checkZ g = 0
 rotate_left
 ·exact Proof_ra c0 ⟨N1, none, 0, 0, none, 0, 0, checkZ g, rfl, .inl ⟨hz, rfl, rfl, rfl, rfl, rfl, rfl, rfl⟩⟩
 have hv := valid_of hz
 have hns := hv.ns; have hnb := hv.nb
 rw [hz] at c0
 obtain ⟨w, pp, cp, B, W, b, σ4, k1, k2, k3, k4, k5, k6⟩ := best_c (c := c) (d := d) g1 hv
 have N4 : New σ.re σ4 := N1.trans k2
 cases b with
 | false => exact Proof_rc c0 k1 ⟨N4, none, 0, 0, none, 0, 0, 9, rfl, .inr (.inl ⟨hv, rfl, rfl, rfl, rfl, rfl, rfl, rfl, k6 rfl⟩)⟩
 | true =>
  obtain ⟨hG, hn⟩ := k5 rfl
  have o4 : Own σ4 σ.re.next (garL p g.ns c q g.nb d) 2 := (own_new _ _ _).le k2.le
  obtain ⟨n0, hn0⟩ : ∃ n0, n0 = σ.re.next := ⟨_, rfl⟩
  obtain ⟨m0, hm0⟩ : ∃ m0, m0 = σ4.next := ⟨_, rfl⟩
  have hnm : n0 < m0 := by rw [hn0, hm0]; exact o4.lt
  have mA : MapF Try.prog (σ4.add (.map [])) m0 ndV intV (fun _ => none) := by rw [hm0]; exact MapF.new _
  obtain ⟨es, st0, mB⟩ := mA.put keyNd mapI .grid (0 : Int)
  let sN : Nat → Nat → Nd → Option Int := fun i s v => match v with
   | .grid => some 0
   | .bus i' => if i' < i then some 0 else none
   | .slot s' => if s' < s then some 0 else none
  let Fct : Nat → Nat → St → Prop := fun i s τ => Only (· = m0) (σ4.add (.map [])) τ ∧ MapF Try.prog τ m0 ndV intV (sN i s)
  have hF0 : Fct 0 0 ((σ4.add (.map [])).put m0 (.map es)) := by
   refine ⟨Only.put (.inr rfl), ?_⟩
   have e : (fun k' => if k' = Nd.grid then some (0 : Int) else none) = sN 0 0 := by
    funext v; cases v <;> simp [sN]
   rw [← e]; exact mB
  have NA : New σ4 (σ4.add (.map [])) := New.add _ _
  have facts : ∀ i s τ, Fct i s τ → New σ4 τ := fun i s τ h => NA.of_only h.1 (by rintro b rfl; omega)
  refine Proof_rb (P0 := Fct g.nb 0) c0 k1 grid_c (by rw [ins_eq]; rw [hm0] at st0; exact st0) (q8 := q) (l8 := g.nb) (c8 := d) ?_ ?_ ?_
  ·have := (facts 0 0 _ hF0).le
   rw [hm0] at this
   exact (o4.le this).ld rfl agg33 (k := 1) rfl
  ·rw [← hm0]
   refine Proof_loop1 (Inv := fun k i τ => ∃ j : Nat, i = j ∧ j + k = g.nb ∧ Fct j 0 τ) ?_ g.nb 0 _ ⟨0, rfl, by omega, hF0⟩
   rintro k i τ ⟨j, rfl, hk, f1, f2⟩
   by_cases hj : j < g.nb
   rotate_left
   ·have : j = g.nb := by omega
    subst this
    exact Proof_s1b ⟨f1, f2⟩
   obtain ⟨es', st, f3⟩ := f2.put keyNd mapI (.bus j) (0 : Int)
   refine Proof_s1a st ⟨k - 1, by omega, j + 1, by omega, by omega, f1.trans' (Only.put (S := (· = m0)) (.inr rfl)) (fun b _ h => .inl h), ?_⟩
   have e : (fun k' => if k' = Nd.bus j then some (0 : Int) else sN j 0 k') = sN (j + 1) 0 := by
    funext v
    cases v with
    | bus i' =>
     show (if Nd.bus i' = Nd.bus j then some (0 : Int) else if i' < j then some 0 else none) = if i' < j + 1 then some 0 else none
     by_cases e : i' = j
     ·subst e; simp
     ·have : Nd.bus i' ≠ Nd.bus j := by simpa using e
      rw [if_neg this]
      by_cases e2 : i' < j
      ·rw [if_pos e2, if_pos (by omega)]
      ·rw [if_neg e2, if_neg (by omega)]
    | _ => simp [sN]
   rw [← e]; exact f3
  intro τ hτ
  rw [← hm0, ← hn0]
  have oτ : Own τ n0 (garL p g.ns c q g.nb d) 2 := by rw [hn0]; exact o4.le (facts _ _ _ hτ).le
  refine Proof_t1x0a (P2 := Fct g.nb g.ns) (oτ.ld rfl agg32 (k := 0) rfl) ?_ ?_
  ·refine Proof_loop2 (Inv := fun k i τ => ∃ j : Nat, i = j ∧ j + k = g.ns ∧ Fct g.nb j τ) ?_ g.ns 0 _ ⟨0, rfl, by omega, hτ⟩
   rintro k i τ ⟨j, rfl, hk, f1, f2⟩
   by_cases hj : j < g.ns
   rotate_left
   ·have : j = g.ns := by omega
    subst this
    exact Proof_s2b ⟨f1, f2⟩
   obtain ⟨es', st, f3⟩ := f2.put keyNd mapI (.slot j) (0 : Int)
   refine Proof_s2a st ⟨k - 1, by omega, j + 1, by omega, by omega, f1.trans' (Only.put (S := (· = m0)) (.inr rfl)) (fun b _ h => .inl h), ?_⟩
   have e : (fun k' => if k' = Nd.slot j then some (0 : Int) else sN g.nb j k') = sN g.nb (j + 1) := by
    funext v
    cases v with
    | slot i' =>
     show (if Nd.slot i' = Nd.slot j then some (0 : Int) else if i' < j then some 0 else none) = if i' < j + 1 then some 0 else none
     by_cases e : i' = j
     ·subst e; simp
     ·have : Nd.slot i' ≠ Nd.slot j := by simpa using e
      rw [if_neg this]
      by_cases e2 : i' < j
      ·rw [if_pos e2, if_pos (by omega)]
      ·rw [if_neg e2, if_neg (by omega)]
    | _ => simp [sN]
   rw [← e]; exact f3
  intro τ2 hτ2
  have N5 := facts _ _ _ hτ2
  have wτ := k4.le N5.le
  obtain ⟨π, hP, hπ⟩ := hG.pot
  obtain ⟨kb, τ3, price, by_, c1, c2, c3, c4, c5, c6, c7⟩ := prices_c wτ hG.feas hv hP hπ (keys := nodes g) hτ2.2 nodes_nodup (fun v => by
   cases v with
   | bus i => show (if i < g.nb then some (0 : Int) else none) = _; simp [mem_bus]
   | slot s => show (if s < g.ns then some (0 : Int) else none) = _; simp [mem_slot]
   | grid => show some (0 : Int) = _; simp [mem_grid]) (fun v h => h)
  have N6 : New σ4 τ3 := N5.of_only c2 (by rintro b rfl; omega)
  have N7 : New σ.re τ3 := N4.trans N6
  have o7 : Own τ3 n0 (garL p g.ns c q g.nb d) 2 := by rw [hn0]; exact o4.le N6.le
  have hpr : ∀ v ∈ nodes g, ∃ z, price v = some z ∧ -18000 ≤ z ∧ z ≤ 0 := fun v hv' => by
   obtain ⟨z, hz, hz0⟩ := c5.st v hv'
   have := (c5.nd v z hz).2
   have := (hπ v hv').1
   exact ⟨z, hz, by omega, hz0⟩
  obtain ⟨π', hπ'⟩ : ∃ π' : Nd → Int, π' = fun v => (price v).getD 0 := ⟨_, rfl⟩
  have hP' : ∀ v ∈ nodes g, price v = some (π' v) := fun v hv' => by obtain ⟨z, hz, _⟩ := hpr v hv'; rw [hπ', hz]; simp [hz]
  have hbd : ∀ v ∈ nodes g, -18000 ≤ π' v ∧ π' v ≤ 0 := fun v hv' => by obtain ⟨z, hz, h1, h2⟩ := hpr v hv'; rw [hπ']; simp [hz]; omega
  have hpot : Pot (waysM g W) π' := fun x hx => by
   have he := (mem_ways.1 hx).ends
   obtain ⟨z, h1, h2⟩ := c6 x hx _ (hP' _ he.1)
   rw [hP' _ he.2] at h1; cases h1; exact h2
  have hgr := hP' .grid mem_grid
  have hgb := hbd .grid mem_grid
  refine Proof_t2x2a (P4 := fun p1 l1 c1 τ => New τ3 τ ∧ l1 = g.nb ∧ Gr Try.prog τ τ3.next 3 1 p1 l1 c1 ((worthL g π').map intV)) c1 (o7.ld rfl agg33 (k := 1) rfl) ?_ ?_
  ·refine Proof_loop3 (Inv := fun k p1 l1 c1 i τ => ∃ j : Nat, i = j ∧ j + k = g.nb ∧ l1 = j ∧ New τ3 τ ∧ Gr Try.prog τ τ3.next 3 1 p1 l1 c1 (((List.range j).map (worth π')).map intV)) ?_ g.nb none 0 0 0 τ3 ⟨0, rfl, by omega, rfl, New.refl _, Gr.nil⟩
   rintro k p1 l1 c1 i τ ⟨j, rfl, hk, rfl, f1, f2⟩
   by_cases hj : l1 < g.nb
   rotate_left
   ·have : l1 = g.nb := by omega
    subst this
    exact Proof_s3b ⟨f1, rfl, f2⟩
   have mm := c3.le f1.le
   have hbj := hP' (.bus l1) (mem_bus.2 hj)
   have hbb := hbd (.bus l1) (mem_bus.2 hj)
   obtain ⟨p', c', τ', g1', g2', g3', g4', g5'⟩ := grow (σ0 := τ3) (τ := τ) (intV (worth π' l1)) appT_ints f2 f1 (New.refl _) (.inl ⟨agg3, rfl, rfl⟩) (by omega)
   have lk := mm.lookv keyNd mapI zero3 hbj
   refine Proof_s3a grid_c (mm.lookv keyNd mapI zero3 hgr) lk g1' (belowL_cons (belowB_map mm.1) (belowL_cons (belowB_rig rfl) belowL_nil)) (belowL_cons (belowB_map mm.1) (belowL_cons (belowB_rig rfl) belowL_nil)) ⟨⟨belowL_cons (belowB_map mm.1) (belowL_cons (belowB_rig rfl) belowL_nil), rfl⟩, lk⟩
    (fun a e => (f2.bd ⟨a, e, rfl⟩).2) ⟨k - 1, by omega, l1 + 1, by omega, by omega, rfl, g3', ?_⟩
   rw [List.range_succ, List.map_append, List.map_append]; exact g2'
  rintro p1 l1 c1 τ4 ⟨f1, rfl, f2⟩
  refine Proof_t3x4a (P6 := fun p2 l2 c2 τ => New τ4 τ ∧ l2 = g.ns ∧ Gr Try.prog τ τ4.next 3 1 p2 l2 c2 ((surL g π').map intV)) ((o7.le f1.le).ld rfl agg32 (k := 0) rfl) ?_ ?_
  ·refine Proof_loop4 (Inv := fun k p1 l1 c1 i τ => ∃ j : Nat, i = j ∧ j + k = g.ns ∧ l1 = j ∧ New τ4 τ ∧ Gr Try.prog τ τ4.next 3 1 p1 l1 c1 (((List.range j).map (sur π')).map intV)) ?_ g.ns none 0 0 0 τ4 ⟨0, rfl, by omega, rfl, New.refl _, Gr.nil⟩
   rintro k p2 l2 c2 i τ ⟨j, rfl, hk, rfl, f3, f4⟩
   by_cases hj : l2 < g.ns
   rotate_left
   ·have : l2 = g.ns := by omega
    subst this
    exact Proof_s4b ⟨f3, rfl, f4⟩
   have mm := (c3.le f1.le).le f3.le
   have hbj := hP' (.slot l2) (mem_slot.2 hj)
   have hbb := hbd (.slot l2) (mem_slot.2 hj)
   obtain ⟨p', c', τ', g1', g2', g3', g4', g5'⟩ := grow (σ0 := τ4) (τ := τ.row [iV 0, iV (π' .grid - π' (.slot l2))] 1) (intV (sur π' l2)) appT_ints f4 f3 (New.row _ _ _) (.inl ⟨agg3, rfl, rfl⟩) (by omega)
   have lk := mm.lookv keyNd mapI zero3 hbj
   refine Proof_s4a grid_c (mm.lookv keyNd mapI zero3 hgr) lk greater2_c g1' (belowL_cons (belowB_map mm.1) (belowL_cons (belowB_rig rfl) belowL_nil)) (belowL_cons (belowB_map mm.1) (belowL_cons (belowB_rig rfl) belowL_nil)) ⟨⟨belowL_cons (belowB_map mm.1) (belowL_cons (belowB_rig rfl) belowL_nil), rfl⟩, lk⟩
    (fun a e => (f4.bd ⟨a, e, rfl⟩).2) ⟨k - 1, by omega, l2 + 1, by omega, by omega, rfl, g3', ?_⟩
   rw [List.range_succ, List.map_append, List.map_append]; exact g2'
  rintro p2 l2 c2 τ5 ⟨f3, rfl, f4⟩
  exact Proof_t4x6a ⟨(N7.trans f1).trans f3, p1, _, c1, p2, _, c2, 0, rfl, .inr (.inr ⟨hv, rfl, W, π', hG, hn, hpot, hbd, (f2.le f3.le).slv, f4.slv⟩)⟩
end
end Go.Proofs.Ythcdddbghldmiaa
