
import Derived.Test.YthcdddbghldmiaaCL
namespace Go.Proofs.Ythcdddbghldmiaa
open Go Go.Lay
open Try renaming prog → Pg
set_option linter.unusedVariables false
set_option linter.unusedSimpArgs false
set_option maxRecDepth 20000
structure Good (g : Gar) (W : Wk) : Prop where
 feas : Feas g W
 pot : ∃ π, Pot (waysM g W) π ∧ ∀ v ∈ nodes g, -18000 ≤ π v ∧ π v ≤ 0
def Gave (g : Gar) (b0 : Nat) (most : Int) (W : Wk) (n : Int) (W' : Wk) : Prop :=
 (n = 0 ∧ W' = W ∧ ∃ price, Done (waysM g W) price ∧ price .grid = none ∧ price (.bus b0) ≠ none) ∨
 (0 < n ∧ n ≤ most ∧ Good g W' ∧ sumN g.ns (cell W'.plan b0) = sumN g.ns (cell W.plan b0) + n ∧ ∀ i, i < g.nb → i ≠ b0 → sumN g.ns (cell W'.plan i) = sumN g.ns (cell W.plan i))
section
variable {σ τ : St} {w : Nat} {g : Gar} {W : Wk} {p q pp : Option Addr} {c d cp : Nat} {B : Nat → Nat}
theorem pth_len {by_ : By} {v s : Nd} {xs : List Wy} (h : Pth by_ v xs s) (hs : ∀ x ∈ xs, x.fr ∈ nodes g) : xs.length ≤ (nodes g).length := by
 have h1 := h.froms
 have := h1.length_le_of_subset (l₂ := nodes g) (fun v hv => by obtain ⟨x, hx, rfl⟩ := List.mem_map.1 hv; exact hs x hx)
 simpa using this
theorem Pth.of_by {by_ : By} {v s : Nd} {xs : List Wy} (h : Pth by_ v xs s) : ∀ x ∈ xs, by_ x.to = some x := by
 induction h with
 | nil _ => intro x hx; cases hx
 | cons h ht k ih =>
  intro x hx
  rcases List.mem_cons.1 hx with rfl | hx
  ·rw [ht]; exact h
  ·exact ih x hx
theorem Pth.end_pr {by_ : By} {price : Nd → Option Int} (ht : ∀ v x, by_ v = some x → ∃ z, price x.fr = some z) {v s : Nd} {xs : List Wy} (h : Pth by_ v xs s) : (∃ z, price v = some z) → ∃ z, price s = some z := by
 induction h with
 | nil _ => exact id
 | cons h _ k ih => intro _; exact ih (ht _ _ h)
theorem IsWay.pos {x : Wy} (h : IsWay g W x) : 0 < x.rest := by cases h <;> assumption
theorem mut2 {f : FuncId} {args : List Value} {S : Nat → Prop} {Q : Value → St → Prop} (h : RunsQ Pg f args σ.re fun v s => Only S σ.re s ∧ (s.low < σ.next ∨ rigidB RD v = false ∨ Q v σ) ∧ Q v s) (hQ : ∀ v s m, Q v s → Q v ⟨s.heap, s.next, m⟩) : ∃ v σ', CallsA Pg f args σ v σ' ∧ Only S σ σ' ∧ Q v σ' := by
 obtain ⟨v, s, hN, h1, h2, h3⟩ := h
 by_cases hlow : s.low < σ.next
 ·exact RunsQ.mut ⟨v, s, hN, h1, .inl hlow, h3⟩ hQ
 ·cases hr : rigidB RD v with
  | false => exact RunsQ.mut ⟨v, s, hN, h1, .inr hr, h3⟩ hQ
  | true =>
   refine ⟨v, σ, RunsQ.pure ⟨v, s, hN, rfl, by omega⟩ hr, Only.refl _ _, ?_⟩
   rcases h2 with h2 | h2 | h2
   ·exact absurd h2 hlow
   ·rw [hr] at h2; cases h2
   ·exact h2
theorem give_c (hw : WkAt σ w g W p c q d pp cp B) (hG : Good g W) (hv : Valid g) {b0 : Nat} (hb0 : b0 < g.nb) {most : Int} (hm : 0 < most ∧ most ≤ 1000000) :
  ∃ n σ' W', CallsA Pg 80 [.pointer (some ⟨w, 0, none⟩), iV b0, iV most] σ (iV n) σ' ∧ Only (fun b => b = w ∨ ∃ i, i < g.nb ∧ b = B i) σ σ' ∧ WkAt σ' w g W' p c q d pp cp B ∧ Gave g b0 most W n W' := by
 have hns := hv.ns; have hnb := hv.nb
 obtain ⟨hF, π, hP, hπ⟩ := hG
 have N1 : New σ.re ((σ.re.row [iV 0, iV 0] 2).own σ.re.next [iV b0, iV (-1)] 2) := (New.row _ _ _).own (Nat.le_refl _)
 have N2 : New σ.re (((σ.re.row [iV 0, iV 0] 2).own σ.re.next [iV b0, iV (-1)] 2).add (.map [])) := N1.trans (New.add _ _)
 have o1 : Own (((σ.re.row [iV 0, iV 0] 2).own σ.re.next [iV b0, iV (-1)] 2).add (.map [])) σ.re.next [iV b0, iV (-1)] 2 := (Own.cp _ _ _ _).add
 have mA : MapF Pg (((σ.re.row [iV 0, iV 0] 2).own σ.re.next [iV b0, iV (-1)] 2).add (.map [])) (σ.re.next + 1) ndV intV (fun _ => none) := MapF.new _
 obtain ⟨es, h1, mB⟩ := mA.put keyNd mapI (.bus b0) (0 : Int)
 obtain ⟨σ1, hσ1⟩ : ∃ σ1, σ1 = (((σ.re.row [iV 0, iV 0] 2).own σ.re.next [iV b0, iV (-1)] 2).add (.map [])).put (σ.re.next + 1) (.map es) := ⟨_, rfl⟩
 rw [← hσ1] at h1 mB
 have k1 : Only (· = σ.re.next + 1) (((σ.re.row [iV 0, iV 0] 2).own σ.re.next [iV b0, iV (-1)] 2).add (.map [])) σ1 := by rw [hσ1]; exact Only.put (.inr rfl)
 have N3 : New σ.re σ1 := N2.of_only k1 (by rintro b rfl; omega)
 have o2 : Own σ1 σ.re.next [iV b0, iV (-1)] 2 := k1.own' o1 (by omega)
 have w1 : WkAt σ1 w g W p c q d pp cp B := hw.le ((le0 σ).trans N3.le)
 obtain ⟨kb, σ4, price, by_, c1, c2, c3, c4, c5, c6, c7⟩ := prices_c w1 hF hv hP hπ (keys := [.bus b0]) mB (by simp) (fun v => by simp) (fun v h => by simp at h; subst h; exact mem_bus.2 hb0)
 have N4 : New σ.re σ4 := N3.of_only c2 (by rintro b rfl; omega)
 have w4 : WkAt σ4 w g W p c q d pp cp B := hw.le ((le0 σ).trans N4.le)
 have o4 : Own σ4 σ.re.next [iV b0, iV (-1)] 2 := c2.own' o2 (by omega)
 have hs0 : price (.bus b0) ≠ none := by obtain ⟨z, hz, _⟩ := c5.st (.bus b0) (by simp); rw [hz]; simp
 suffices key : RunsQ Pg 80 [.pointer (some ⟨w, 0, none⟩), iV b0, iV most] σ.re fun v s => Only (fun b => b = w ∨ ∃ i, i < g.nb ∧ b = B i) σ.re s ∧ (s.low < σ.next ∨ rigidB RD v = false ∨ ∃ n W', v = iV n ∧ WkAt σ w g W' p c q d pp cp B ∧ Gave g b0 most W n W') ∧ ∃ n W', v = iV n ∧ WkAt s w g W' p c q d pp cp B ∧ Gave g b0 most W n W' by
  obtain ⟨v, s, h1, h2, n, W', rfl, h3, h4⟩ := mut2 (Q := fun v s => ∃ n W', v = iV n ∧ WkAt s w g W' p c q d pp cp B ∧ Gave g b0 most W n W') key (by
   rintro v s m ⟨n, W', h1, h2, h3⟩; exact ⟨n, W', h1, h2.low, h3⟩)
  exact ⟨n, s, W', h1, h2, h3, h4⟩
 cases hg : price .grid with
 | none =>
  have hgv : Gave g b0 most W 0 W := .inl ⟨rfl, rfl, price, c6, hg, hs0⟩
  exact give_rb h1 c1 grid_c (c3.look0 keyNd mapI zero3 hg) ⟨N4.only, .inr (.inr ⟨0, W, rfl, hw, hgv⟩), 0, W, rfl, w4, hgv⟩
 | some z =>
  obtain ⟨xs, s0, hx, hs1⟩ := (c5.chain _ _ hg).pth (fun v x h => (c5.tree v x h).2.1)
  obtain ⟨z0, hz0⟩ := hx.end_pr (price := price) (fun v x h => by obtain ⟨_, _, pf, pv, h1, _⟩ := c5.tree v x h; exact ⟨pf, h1⟩) ⟨z, hg⟩
  have hse : s0 = .bus b0 := by have := (c5.base _ _ hz0 hs1).2; simpa using this
  subst hse
  have hby := hx.of_by
  have hway : ∀ x ∈ xs, IsWay g W x := fun x h => mem_ways.1 (c5.tree _ x (hby x h)).1
  have hsh : ∀ x ∈ xs, Shp g x := fun x h => (hway x h).shp
  have hlen : xs.length ≤ 100 := by have := pth_len hx (fun x h => (hway x h).ends.1); have := nodes_len (g := g); omega
  have hne : xs ≠ [] := by intro e; subst e; cases hx
  have r1 : Own ((σ4.row [iV 0, iV 0] 2).own σ4.next [iV Nd.grid.b, iV Nd.grid.s] 2) σ4.next [iV Nd.grid.b, iV Nd.grid.s] 2 := Own.cp _ _ _ _
  have M1 : New σ4 ((σ4.row [iV 0, iV 0] 2).own σ4.next [iV Nd.grid.b, iV Nd.grid.s] 2) := (New.row _ _ _).own (Nat.le_refl _)
  refine give_ra (P0 := fun i p12 l12 c12 τ => 0 < i ∧ i ≤ most ∧ (∀ y ∈ xs, i ≤ y.rest) ∧ New σ4 τ ∧ SlV Pg τ 143 6 p12 l12 (xs.map wyV) ∧ ∀ b, AtP p12 b → σ4.next ≤ b) h1 c1 grid_c (c3.look1 keyNd mapI zero3 hg) grid_c ?_ ?_
  rotate_left
  ·rintro i p12 l12 c12 τ ⟨g1, g2, g3, g4, g5, g6⟩
   have hA : Aug g W i xs by_ b0 := ⟨hx, hway, g3, by omega, hb0⟩
   have wτ := w4.le g4.le
   have hll : xs.length = l12 := by have := g5.2.1; simpa using this
   have hwl := hw.own.lt
   have hn4 : σ.next ≤ σ4.next := N4.nx
   refine give_t1x0a (P2 := fun τ' => Only (fun b => b = w ∨ ∃ i, i < g.nb ∧ b = B i) σ.re τ' ∧ τ'.low < σ.next ∧ WkAt τ' w g (appM i W xs) p c q d pp cp B) ?_ ?_
   ·refine give_put ⟨by omega, by omega⟩ wτ hF hv hx hsh g5 (fun b hb => ?_) (by omega) (Nat.le_refl _) (fun τ' t1 t2 t3 => ⟨?_, ?_, t3⟩)
    ·have := g6 b hb
     exact ⟨by omega, fun i hi => by have := (hw.row i hi).lt; omega⟩
    ·exact ((N4.trans g4).only (S := fun b => b = w ∨ ∃ i, i < g.nb ∧ b = B i)).trans' t1 (fun b _ h => .inl h)
    ·rcases t2 with t2 | ⟨b, t2, rfl | ⟨i, hi, rfl⟩⟩
     ·exact absurd t2 hne
     ·omega
     ·have := (hw.row i hi).lt; omega
   ·rintro τ' ⟨t1, t2, t3⟩
    refine give_t2x2a ⟨t1, .inl t2, i, _, rfl, t3, .inr ⟨g1, g2, ⟨(hA.feas hF).1, ?_⟩, (hA.feas hF).2⟩⟩
    refine pot_bd hv (hA.pot (M := 100000) hF hP c6 (fun x h => ?_) (fun v z hz => ?_))
    ·obtain ⟨_, _, pf, h1, h2⟩ := c5.tight c6 (hby x h); exact ⟨pf, h1, h2⟩
    ·obtain ⟨e1, e2⟩ := c5.nd v z hz
     obtain ⟨ks, e3, e4⟩ := c5.len
     have := e4 v z hz
     have := (hπ v e1).1
     have := nodes_len (g := g)
     omega
  refine give_loop1 (Inv := fun k i p12 l12 c12 a13 τ => ∃ v ys zs bx, xs = ys ++ zs ∧ k = zs.length ∧ Pth by_ v zs (.bus b0) ∧ a13 = ⟨bx, 0, none⟩ ∧ σ4.next ≤ bx ∧ Own τ bx [iV v.b, iV v.s] 2 ∧ New σ4 τ ∧ Gr Pg τ σ4.next 143 6 p12 l12 c12 (ys.map wyV) ∧ ¬ AtP p12 bx ∧ 0 < i ∧ i ≤ most ∧ ∀ y ∈ ys, i ≤ y.rest) ?_ xs.length most none 0 0 ⟨σ4.next, 0, none⟩ _
   ⟨.grid, [], xs, σ4.next, rfl, rfl, hx, rfl, Nat.le_refl _, r1, M1, Gr.nil, AtP.none, hm.1, Int.le_refl _, by simp⟩
  rintro k i p12 l12 c12 a13 τ ⟨v, ys, zs, bx, e1, rfl, f1, rfl, f2, f3, f4, f5, f6, f7, f8, f9⟩
  have ob : Own τ σ.re.next [iV b0, iV (-1)] 2 := o4.le f4.le
  have lb : loadA Pg τ 125 ⟨σ.re.next, 0, none⟩ = some (ndV (.bus b0)) := ob.ldN agg125 size125 (k := 0) rfl rfl (by simp)
  have lv : loadA Pg τ 125 ⟨bx, 0, none⟩ = some (ndV v) := f3.ldN agg125 size125 (k := 0) rfl rfl (by simp)
  by_cases hvb : v = .bus b0
  ·subst hvb
   have hz : zs = [] := by
    cases f1 with
    | nil _ => rfl
    | cons h _ _ => rw [hs1] at h; cases h
   subst hz
   rw [List.append_nil] at e1
   subst e1
   exact give_s1b lv lb (by rw [node_ne]; simp) ⟨f7, f8, f9, f4, f5.slv, fun b hb => (f5.bd hb).1⟩
  cases f1 with
  | nil _ => exact absurd rfl hvb
  | @cons _ _ x zs' h ht k =>
  have hyl : ys.length + zs'.length + 1 = xs.length := by rw [e1]; simp; omega
  have hl12 : ys.length = l12 := by have := f5.len_eq; simpa using this
  obtain ⟨τ2, hτ2⟩ : ∃ τ2, τ2 = (τ.row (ints6 0 0 0 0 0 0) 6).own τ.next (ints6 x.fr.b x.fr.s x.to.b x.to.s x.rest x.pr) 6 := ⟨_, rfl⟩
  have n2 : New τ τ2 := by rw [hτ2]; exact (New.row _ _ _).own (Nat.le_refl _)
  have oc : Own τ2 τ.next (ints6 x.fr.b x.fr.s x.to.b x.to.s x.rest x.pr) 6 := by rw [hτ2]; exact Own.cp _ _ _ _
  have hnx : τ2.next = τ.next + 1 := by rw [hτ2]; simp
  obtain ⟨p', c', τ3, g1, g2, g3, g4, g5⟩ := grow (σ0 := σ4) (τ := τ2) (wyV x) appT_ways f5 f4 n2 (elOk_way x) (by omega)
  have hpb : ∀ b, AtP p12 b → b < τ.next := fun b hb => (f5.bd hb).2
  have oc3 : Own τ3 τ.next (ints6 x.fr.b x.fr.s x.to.b x.to.s x.rest x.pr) 6 := g4.own' oc.row (fun hb => by have := hpb _ hb; omega)
  have hbxl := f3.lt
  have f33 : Own τ3 bx [iV v.b, iV v.s] 2 := g4.own' (f3.le n2.le).row f6
  have hbx3 := f33.lt
  have hm2 : min i x.rest ≤ i := Int.min_le_left _ _
  have hm3 : min i x.rest ≤ x.rest := Int.min_le_right _ _
  have hxp : 0 < x.rest := (hway x (by rw [e1]; simp)).pos
  have n4 : New τ3 (τ3.row [iV i, iV x.rest] 1) := New.row _ _ _
  have st := (f33.row (ds := [iV i, iV x.rest]) (m := 1)).store (P := Pg) (k := 0) (t := 125) (v := ndV x.fr) (vs := [iV x.fr.b, iV x.fr.s]) (ds := [iV x.fr.b, iV x.fr.s]) rfl size125 rfl (by simp) rfl
  have ost := (f33.row (ds := [iV i, iV x.rest]) (m := 1)).put (ds := [iV x.fr.b, iV x.fr.s])
  refine give_s1a (nQ := x.rest) lv lb (by rw [node_ne]; simp [hvb]) (c4.le f4.le |>.lookv keyNd mapW zero143 h) (by rw [← hτ2]; exact hnx ▸ g1) (oc3.ld rfl agg3 (k := 4) rfl) lesser2_c (oc3.row.ldN agg125 size125 (k := 0) rfl rfl (by simp)) st (ost.ldN agg125 size125 (k := 0) rfl rfl (by simp)) ?_
  refine ⟨zs'.length, by simp, x.fr, ys ++ [x], zs', _, by rw [e1]; simp, rfl, k, rfl, ?_, Own.cp _ _ _ _, ?_, ?_, ?_, ?_, ?_, ?_⟩
  ·have := g3.nx; simp; omega
  ·exact ((g3.row').own f2).trans ((New.row _ _ _).own (Nat.le_refl _))
  ·rw [List.map_append]
   have g6 := ((g2.le n4.le).only (S := (· = bx)) (Only.own (cs := [iV x.fr.b, iV x.fr.s]) (n := 2) (.inr rfl)) (fun b hb e => by subst e; rcases g5 _ hb with h | h; exact f6 h; omega))
   exact g6.le ((New.row _ _ _).own (Nat.le_refl _)).le
  ·intro hb
   have := (g2.bd hb).2
   simp at this
   omega
  ·omega
  ·omega
  ·intro y hy
   rcases List.mem_append.1 hy with hy | hy
   ·have := f9 y hy; omega
   ·simp at hy; subst hy; omega
end
end Go.Proofs.Ythcdddbghldmiaa
