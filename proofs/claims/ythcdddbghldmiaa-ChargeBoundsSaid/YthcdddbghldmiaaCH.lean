
import Derived.Test.YthcdddbghldmiaaCG
namespace Go.Proofs.Ythcdddbghldmiaa
open Go Go.Lay
set_option linter.unusedVariables false
set_option linter.unusedSimpArgs false
set_option maxRecDepth 20000
section
variable {σ τ τ' : St} {w b lo : Nat} {g : Gar} {W : Wk} {vs : List Wy} {ms : List Nat}
theorem WJ.chg (h : WJ σ τ w b vs ms) (hl : ∃ tm ps x y st pend db, getB τ.heap lo = some (.loop tm ps x y st pend db)) (hlo : σ.next ≤ lo) (hg : ∀ y, y ≠ lo → y < τ.next → getB τ'.heap y = getB τ.heap y) (hn : τ.next ≤ τ'.next) (hlow : ∀ m, m ≤ σ.low → m ≤ σ.next → m ≤ τ'.low) : WJ σ τ' w b vs ms := by
 obtain ⟨tm, ps, x, y, st, pend, db, hl⟩ := hl
 obtain ⟨po, l, co, h1, h2⟩ := h.out
 have own : ∀ {z n : Nat} {cs : List Value}, Own τ z cs n → Own τ' z cs n := fun {z n cs} ho => ho.at_ (hg z (fun e => by subst e; rw [ho.get] at hl; cases hl) ho.lt) hn
 have hO : Only (· = lo) τ τ' → Gr Try.prog τ' (b + 3) 143 6 po l co (vs.map wyV) := fun k => h2.only k (fun z hz e => by
  subst e
  obtain ⟨a, e, rfl⟩ := hz
  subst e
  have h3 := h2.app
  generalize flat (vs.map wyV) = cs at h3
  cases h3 with
  | more k1 => rw [k1] at hl; cases hl)
 have hG : Gr Try.prog τ' (b + 3) 143 6 po l co (vs.map wyV) := by
  have k : Only (· = lo) τ ⟨τ'.heap, τ'.next, max τ.low τ.next⟩ := ⟨hn, fun z hz hne => hg z hne hz, fun m h1 h2 h3 => by show m ≤ max _ _; omega⟩
  have := h2.only k (fun z hz e => by
   subst e
   obtain ⟨a, e, rfl⟩ := hz
   subst e
   have h3 := h2.app
   generalize flat (vs.map wyV) = cs at h3
   cases h3 with
   | more k1 => rw [k1] at hl; cases hl)
  exact this.le ⟨Nat.le_refl _, fun _ _ => rfl⟩
 refine ⟨⟨⟨Nat.le_trans h.new.nx hn, fun z hz => ?_⟩, hlow⟩, own h.ow, own h.oc, ⟨po, l, co, own h1, hG⟩, fun m hm => ?_, h.nodup, h.ge⟩
 ·have hne : z ≠ lo := by omega
  rw [hg z hne (Nat.lt_of_lt_of_le hz h.new.nx)]; exact h.new.le.get z hz
 ·have hb := h.marks m hm
  exact ⟨by rw [hg m (fun e => by subst e; rw [hb.1] at hl; cases hl) hb.2]; exact hb.1, Nat.lt_of_lt_of_le hb.2 hn⟩
theorem own_agg2 {σ : St} {b : Nat} {x y : Int} (h : Own σ b [iV x, iV y] 2) : loadA Try.prog σ 125 ⟨b, 0, none⟩ = some (.agg ⟨[iV x, iV y]⟩) := h.ldN (t := 125) agg125 size125 (k := 0) rfl rfl (by simp)
theorem ways_round {σ τ : St} {p q pp : Option Addr} {c d cp : Nat} {B : Nat → Nat} {i s B1 B2 b lo db : Nat} {bus : Bus} {q1 : Addr} {l1 c1 : Nat} {i19 : Int} {f : FuncId} {fc : List Value} {g0 : Nat → Value}
  (hw : WkAt σ w g W p c q d pp cp B) (hF : Feas g W) (hv : Valid g) (hb : g.buses[i]? = some bus) (hs : s < g.ns)
  (hJ : WJ σ τ w b vs ms) (hlen : vs.length ≤ 1000) (hl : getB τ.heap lo = some (ways_k2 b (b + 1) (b + 2) B1 B2 q1 l1 c1 i19 f fc g0 .ready none db)) (hlt : lo < τ.next) (hlo : σ.next ≤ lo) (o1 : Own τ B1 [iV (i : Int)] 1) (o2 : Own τ B2 (busL bus) 9) (n1 : B1 ≠ b + 1) (n2 : B2 ≠ b + 1) :
  ∃ τ', CallsY Try.prog lo [iV (s : Int)] τ (.bool true) τ' ∧ WJ σ τ' w b (vs ++ posW (wayB g W i bus s)) ms ∧ getB τ'.heap lo = some (ways_k2 b (b + 1) (b + 2) B1 B2 q1 l1 c1 i19 f fc g0 .ready none db) ∧ lo < τ'.next ∧ Own τ' B1 [iV (i : Int)] 1 ∧ Own τ' B2 (busL bus) 9 ∧ τ'.low ≤ lo := by
 have hi : i < g.nb := (List.getElem?_eq_some_iff.1 hb).1
 have hcap := hF.cap i bus hb s hs
 have hbb := busB_iff (hv.b hb)
 have hpr := hv.pr s
 have hns := hv.ns
 obtain ⟨τ1, hτ1⟩ : ∃ τ1, τ1 = τ.re.put lo (ways_k2 b (b + 1) (b + 2) B1 B2 q1 l1 c1 i19 f fc g0 .busy none db) := ⟨_, rfl⟩
 have hloop : ∃ tm ps x y st pend db, getB τ.heap lo = some (.loop tm ps x y st pend db) := ⟨_, _, _, _, _, _, _, hl⟩
 have g1 : ∀ y, y ≠ lo → y < τ.next → getB τ1.heap y = getB τ.heap y := fun y hy _ => by rw [hτ1, St.put_get, if_neg hy]; rfl
 have nx1 : τ1.next = τ.next := by rw [hτ1]; rfl
 have l1b : getB τ1.heap lo = some (ways_k2 b (b + 1) (b + 2) B1 B2 q1 l1 c1 i19 f fc g0 .busy none db) := by rw [hτ1, St.put_get, if_pos rfl]
 have hnew := hJ.new
 have J1 : WJ σ τ1 w b vs ms := hJ.chg hloop hlo g1 (by omega) (fun m h1 h2 => by rw [hτ1]; simp only [St.put_low, re_lw]; have := hnew.nx; omega)
 have ne_lo : ∀ {z n : Nat} {cs : List Value}, Own τ z cs n → z ≠ lo := fun ho e => by subst e; rw [ho.get] at hl; cases hl
 have p1 : Own τ1 B1 [iV (i : Int)] 1 := o1.at_ (g1 _ (ne_lo o1) o1.lt) (by omega)
 have p2 : Own τ1 B2 (busL bus) 9 := o2.at_ (g1 _ (ne_lo o2) o2.lt) (by omega)
 obtain ⟨τ2, hτ2⟩ : ∃ τ2, τ2 = (((τ1.row [iV 0, iV 0] 2).row [iV 0, iV 0] 2).own τ1.next [iV (i : Int), iV (-1)] 2).own (τ1.next + 1) [iV (-1), iV (s : Int)] 2 := ⟨_, rfl⟩
 have N2 : New τ1 τ2 := by rw [hτ2]; exact (((New.row _ _ _).row').own (Nat.le_refl _)).own (by omega)
 have m1 : Own τ2 τ1.next [iV (i : Int), iV (-1)] 2 := by
  rw [hτ2]; exact ((own_new τ1 _ _).row.put).own (by omega)
 have m2 : Own τ2 (τ1.next + 1) [iV (-1), iV (s : Int)] 2 := by
  rw [hτ2]; exact (((own_new (τ1.row [iV 0, iV 0] 2) _ _)).own (ds := [iV (i : Int), iV (-1)]) (m := 2) (show τ1.next + 1 ≠ τ1.next by omega)).put
 have J2 := J1.le N2
 have nx2 : τ2.next = τ1.next + 2 := by rw [hτ2]; rfl
 obtain ⟨τ3, c3, J3, k3, nx3, ow3, bb3⟩ := J2.add ⟨.bus i, .slot s, bus.rate - cell W.plan i s, prS g s⟩ (by omega)
 obtain ⟨τ4, c4, J4, k4, nx4, ow4, bb4⟩ := J3.add ⟨.slot s, .bus i, cell W.plan i s, 0 - prS g s⟩ (by
  simp only [List.length_append]
  have : (posW [(⟨.bus i, .slot s, bus.rate - cell W.plan i s, prS g s⟩ : Wy)]).length ≤ 1 := List.length_filter_le _ _
  omega)
 have hb1 := hJ.out
 obtain ⟨po, l0, co, hout, _⟩ := hJ.out
 have hb1lt := hout.lt
 have w2 := hw.le J2.new.le
 have w3 := hw.le J3.new.le
 obtain ⟨a, rfl, pl2⟩ := w2.prow hi
 obtain ⟨_, e, pl3⟩ := w3.prow hi
 cases e
 obtain ⟨az, rfl, y, hy, _, sp2⟩ := pw_at w2.gar.sl hs
 obtain ⟨_, e, y', hy', _, sp3⟩ := pw_at w3.gar.sl hs
 cases e
 rw [hy] at hy'; cases hy'
 have hyp : prS g s = y.pr := prS_eq hy
 have q1' : Own τ2 B1 [iV (i : Int)] 1 := p1.le N2.le
 have q2' : Own τ2 B2 (busL bus) 9 := p2.le N2.le
 have r1 := ow3 B1 1 _ q1'.lt n1 q1' (by decide)
 have r2 := ow3 B2 9 _ q2'.lt n2 q2' (by decide)
 have rm1 := ow3 _ 2 _ m1.lt (by omega) m1 (by decide)
 have rm2 := ow3 _ 2 _ m2.lt (by omega) m2 (by decide)
 have t1 := ow4 B1 1 _ r1.lt n1 r1 (by decide)
 have t2 := ow4 B2 9 _ r2.lt n2 r2 (by decide)
 have lob : lo ≠ b + 1 := fun e => by subst e; rw [hout.get] at hl; cases hl
 have L2 : getB τ2.heap lo = some (ways_k2 (b) (b + 1) (b + 2) B1 B2 q1 l1 c1 i19 f fc g0 .busy none db) := by rw [N2.le.get lo (by omega)]; exact l1b
 have L3 : getB τ3.heap lo = some (ways_k2 (b) (b + 1) (b + 2) B1 B2 q1 l1 c1 i19 f fc g0 .busy none db) := by
  rw [k3 lo (by omega) lob (.inl (fun cs n log nx ro e => by rw [L2] at e; cases e))]; exact L2
 have L4 : getB τ4.heap lo = some (ways_k2 (b) (b + 1) (b + 2) B1 B2 q1 l1 c1 i19 f fc g0 .busy none db) := by
  rw [k4 lo (by omega) lob (.inl (fun cs n log nx ro e => by rw [L3] at e; cases e))]; exact L3
 rw [hyp] at c3 c4
 have hround := ways_y2a (Qn := fun z => z = τ4) (i19_1 := i19) (y := (s : Int)) hl hτ1 (p1.ld rfl agg3 (k := 0) rfl)
  (by rw [← hτ2]; exact J2.oc.ld rfl agg145 (k := 0) rfl) (by rw [← hτ2]; exact q2'.ld rfl agg3 (k := 2) rfl) (by rw [← hτ2]; exact J2.ow.ld rfl agg99 (k := 0) rfl) (by rw [← hτ2]; exact w2.plan) (by rw [← hτ2]; exact q1'.ld rfl agg3 (k := 0) rfl)
  (by rw [← hτ2]; exact pl2) (by rw [← hτ2]; exact w2.amount hi hs) (by rw [← hτ2]; exact w2.slots) (by rw [← hτ2]; exact sp2) (by rw [← hτ2]; exact c3)
  (J3.oc.ld rfl agg145 (k := 0) rfl) (own_agg2 rm2) (own_agg2 rm1) (J3.ow.ld rfl agg99 (k := 0) rfl) w3.plan (r1.ld rfl agg3 (k := 0) rfl) pl3 (w3.amount hi hs) w3.slots sp3 c4 rfl
 obtain ⟨e, z, ⟨al, hal, rfl, t, hq⟩, hc⟩ := hround
 simp only [In, or_false] at hal
 subst hal
 have hq : z = τ4 := hq
 subst hq
 have hcy := hc (.inl rfl) hlt L4 (by omega)
 refine ⟨_, hcy, ?_, ?_, ?_, ?_, ?_, ?_⟩
 ·have e : vs ++ posW (wayB g W i bus s) = (vs ++ posW [⟨.bus i, .slot s, bus.rate - cell W.plan i s, prS g s⟩]) ++ posW [⟨.slot s, .bus i, cell W.plan i s, 0 - prS g s⟩] := by
   rw [List.append_assoc]; congr 1
   unfold posW wayB
   rw [← List.filter_append]; rfl
  rw [e]
  rw [hyp] at *
  refine J4.chg ⟨_, _, _, _, _, _, _, L4⟩ hlo (fun y hy _ => ?_) (Nat.le_refl _) (fun m h1 h2 => ?_)
  ·show getB (z.put lo _).heap y = _
   rw [St.put_get, if_neg hy]
  ·show m ≤ min τ.low (min z.low lo)
   have := hJ.new.low m h1 h2; have := J4.new.low m h1 h2
   omega
 ·show getB (z.put lo _).heap lo = _
  rw [St.put_get, if_pos rfl]; rfl
 ·show lo < z.next
  omega
 ·refine t1.at_ ?_ (Nat.le_refl _)
  show getB (z.put lo _).heap B1 = _
  rw [St.put_get, if_neg (ne_lo o1)]
 ·refine t2.at_ ?_ (Nat.le_refl _)
  show getB (z.put lo _).heap B2 = _
  rw [St.put_get, if_neg (ne_lo o2)]
 ·show min τ.low (min z.low lo) ≤ lo
  omega
theorem waysU_succ {i : Nat} {bus : Bus} (hb : g.buses[i]? = some bus) : waysU g W (i + 1) = waysU g W i ++ waysI g W i bus g.ns := by
 unfold waysU
 rw [take_snoc hb, List.zipIdx_append, List.flatMap_append]
 congr 1
 have : (g.buses.take i).length = i := by rw [List.length_take]; have := (List.getElem?_eq_some_iff.1 hb).1; omega
 simp [this]
theorem waysI_succ {i s : Nat} {bus : Bus} : waysI g W i bus (s + 1) = waysI g W i bus s ++ if thereB bus (s : Int) then posW (wayB g W i bus s) else [] := by
 unfold waysI
 rw [List.range_succ, List.filter_append, List.flatMap_append]
 congr 1
 cases ht : thereB bus (s : Int) <;> simp [ht]
theorem waysV_succ {s : Nat} : waysV g W (s + 1) = waysV g W s ++ posW (wayS g W s) := by
 unfold waysV
 rw [List.range_succ, List.flatMap_append]; simp
theorem posW_len (l : List Wy) : (posW l).length ≤ l.length := List.length_filter_le _ _
theorem waysI_len {i n : Nat} {bus : Bus} : (waysI g W i bus n).length ≤ 2 * n := by
 induction n with
 | zero => simp [waysI]
 | succ n ih =>
  rw [waysI_succ, List.length_append]
  have : (if thereB bus (n : Int) then posW (wayB g W i bus n) else []).length ≤ 2 := by
   split
   ·exact posW_len _
   ·simp
  omega
theorem waysU_len (hv : Valid g) : ∀ {i : Nat}, i ≤ g.nb → (waysU g W i).length ≤ 24 * i
 | 0, _ => by simp [waysU]
 | i + 1, h => by
  obtain ⟨b, hb⟩ := bus_at (g := g) (i := i) (by omega)
  rw [waysU_succ hb, List.length_append]
  have := waysU_len hv (i := i) (by omega)
  have := waysI_len (g := g) (W := W) (i := i) (bus := b) (n := g.ns)
  have := hv.ns
  omega
theorem waysV_len : ∀ {s : Nat}, (waysV g W s).length ≤ 2 * s
 | 0 => by simp [waysV]
 | s + 1 => by
  rw [waysV_succ, List.length_append]
  have := waysV_len (s := s)
  have := posW_len (wayS g W s)
  have : (wayS g W s).length = 2 := rfl
  omega
end
end Go.Proofs.Ythcdddbghldmiaa
