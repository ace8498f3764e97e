
import Derived.Test.YthcdddbghldmiaaCI
namespace Go.Proofs.Ythcdddbghldmiaa
open Go Go.Lay
set_option linter.unusedVariables false
set_option linter.unusedSimpArgs false
set_option maxRecDepth 20000
section
variable {σ τ : St} {w b : Nat} {g : Gar} {W : Wk} {p q pp : Option Addr} {c d cp : Nat} {B : Nat → Nat} {ms : List Nat}
theorem ways_slot {σ τ : St} {s : Nat} {a : Addr} {c' k : Nat} {Q4 : St → Prop} {P : St → Prop} (hw : WkAt σ w g W (some a) c q d pp cp B) (hF : Feas g W) (hv : Valid g) (hs : s < g.ns) (hJ : WJ σ τ w b (waysU g W g.nb ++ waysV g W s) ms)
  (hnx : ∀ τ', WJ σ τ' w b (waysU g W g.nb ++ waysV g W (s + 1)) ms → P τ') : ways_B3 b (b + 1) (b + 2) (some a) g.ns c ms (s : Int) τ (fun i τ' => i = (s : Int) + 1 ∧ P τ') Q4 := by
 have hns := hv.ns; have hnb := hv.nb
 have hpw := hv.pw s
 have hpow := hF.pow s hs
 have hunn : 0 ≤ W.used s := by
  rw [hF.use s hs]
  exact sumN_nn (fun i hi => by obtain ⟨b, hb⟩ := bus_at hi; exact (hF.cap i b hb s hs).1)
 have hw1 := hw.le hJ.new.le
 obtain ⟨_, e, y, hy, ldy⟩ := slv_at hw1.gar.sl hs
 cases e
 have hyp : pwS g s = y.pw := pwS_eq hy
 obtain ⟨τ2, hτ2⟩ : ∃ τ2, τ2 = (((τ.row [iV 0, iV 0] 2).own τ.next [iV y.pw, iV y.pr] 2).row [iV 0, iV 0] 2).own (τ.next + 1) [iV (-1), iV (s : Int)] 2 := ⟨_, rfl⟩
 have N2 : New τ τ2 := by rw [hτ2]; exact (((New.row _ _ _).own (Nat.le_refl _)).row').own (by omega)
 have m2 : Own τ2 (τ.next + 1) [iV (-1), iV (s : Int)] 2 := by
  rw [hτ2]; exact (own_new ((τ.row [iV 0, iV 0] 2).own τ.next [iV y.pw, iV y.pr] 2) _ _).put
 have nx2 : τ2.next = τ.next + 2 := by rw [hτ2]; rfl
 have J2 := hJ.le N2
 have hlen : (waysU g W g.nb ++ waysV g W s).length ≤ 1000 := by
  rw [List.length_append]
  have := waysU_len (W := W) hv (i := g.nb) (Nat.le_refl _)
  have := waysV_len (g := g) (W := W) (s := s)
  omega
 obtain ⟨τ3, c3, J3, k3, nx3, ow3, bb3⟩ := J2.add ⟨.slot s, .grid, pwS g s - W.used s, 0⟩ (by omega)
 obtain ⟨τ4, c4, J4, k4, nx4, ow4, bb4⟩ := J3.add ⟨.grid, .slot s, W.used s, 0⟩ (by
  simp only [List.length_append] at hlen ⊢
  have : (posW [(⟨.slot s, .grid, pwS g s - W.used s, 0⟩ : Wy)]).length ≤ 1 := posW_len _
  omega)
 obtain ⟨po, l0, co, hout, _⟩ := hJ.out
 have hb1lt := hout.lt
 have rm2 := ow3 _ 2 _ m2.lt (by omega) m2 (by decide)
 have w2 := hw.le J2.new.le
 have w3 := hw.le J3.new.le
 rw [hyp] at c3
 have hJ4 : WJ σ τ4 w b (waysU g W g.nb ++ waysV g W (s + 1)) ms := by
  have e : waysU g W g.nb ++ waysV g W (s + 1) = (waysU g W g.nb ++ waysV g W s ++ posW [⟨.slot s, .grid, pwS g s - W.used s, 0⟩]) ++ posW [⟨.grid, .slot s, W.used s, 0⟩] := by
   rw [waysV_succ, ← List.append_assoc, List.append_assoc (waysU g W g.nb ++ waysV g W s)]
   congr 1
   unfold posW wayS
   rw [← List.filter_append]; rfl
  rw [e]; exact J4
 have hlt3 := J3.ow.lt; have hlt3' := J3.oc.lt; have hmlt := rm2.lt; have hwlt := w3.own.lt
 have hwlt0 := hw1.own.lt; have hol := hJ.ow.lt; have hol' := hJ.oc.lt
 have gf : goodB RD (.func (.func 95) ⟨[]⟩ ⟨[.pointer (some ⟨b + 1, 0, none⟩)]⟩) = true := by kernel_rfl
 have bl : ∀ {n : Nat}, b + 1 < n → belowB RD n (.func (.func 95) ⟨[]⟩ ⟨[.pointer (some ⟨b + 1, 0, none⟩)]⟩) = true := by
  intro n hn
  have : belowB RD n (.func (.func 95) ⟨[]⟩ ⟨[.pointer (some ⟨b + 1, 0, none⟩)]⟩) = Nat.blt (b + 1) n := by
   simp [belowB, RD]
  rw [this]; exact (blt_iff _ _).2 hn
 exact ways_s3a ldy (by rw [← hτ2]; exact J2.oc.ld rfl agg145 (k := 0) rfl) grid_c (by rw [← hτ2]; exact J2.ow.ld rfl agg99 (k := 0) rfl) (by rw [← hτ2]; exact w2.usedAt (by omega)) (by rw [← hτ2]; exact c3)
  (by rw [← hτ2]; exact belowL_cons (bl (by omega)) (belowL_cons (belowB_rig rfl) belowL_nil))
  (by rw [← hτ2]; exact ⟨⟨show b + 2 < τ2.next by omega, gf⟩, J2.oc.ld rfl agg145 (k := 0) rfl⟩)
  (J3.oc.ld rfl agg145 (k := 0) rfl) grid_c (own_agg2 rm2) (J3.ow.ld rfl agg99 (k := 0) rfl) (w3.usedAt (by omega)) c4
  (belowL_cons (belowB_ptr hlt3') belowL_nil) (belowL_cons (belowB_ptr hmlt) belowL_nil) (belowL_cons (belowB_ptr hlt3) belowL_nil) (belowL_cons (belowB_ptr (by simpa using hwlt)) belowL_nil) (belowL_cons (bl (by omega)) (belowL_cons (belowB_rig rfl) belowL_nil))
  ⟨⟨hlt3', gf⟩, J3.oc.ld rfl agg145 (k := 0) rfl⟩ ⟨⟨hmlt, rfl⟩, own_agg2 rm2⟩ ⟨⟨hlt3, rfl⟩, J3.ow.ld rfl agg99 (k := 0) rfl⟩ ⟨⟨by simpa using hwlt, rfl⟩, w3.usedAt (by omega)⟩ ⟨rfl, hnx τ4 hJ4⟩
theorem ways_c {σ : St} (hw : WkAt σ w g W p c q d pp cp B) (hF : Feas g W) (hv : Valid g) :
  ∃ p' c' σ', CallsA Try.prog 86 [.pointer (some ⟨w, 0, none⟩)] σ (.slice p' (waysM g W).length c') σ' ∧ New σ σ' ∧ SlV Try.prog σ' 143 6 p' (waysM g W).length ((waysM g W).map wyV) ∧ ∀ y, AtP p' y → σ.next ≤ y := by
 have hns := hv.ns; have hnb := hv.nb
 refine RunsQ.newSl ?_
 obtain ⟨b, hb⟩ : ∃ b, b = σ.re.next := ⟨_, rfl⟩
 obtain ⟨τ0, hτ0⟩ : ∃ τ0, τ0 = (((σ.re.row [.pointer (some ⟨w, 0, none⟩)] 1).row [.slice none 0 0] 1).row [.nilFunc] 1).own (σ.re.next + 2) [.func (.func 95) ⟨[]⟩ ⟨[.pointer (some ⟨σ.re.next + 1, 0, none⟩)]⟩] 1 := ⟨_, rfl⟩
 have w0 := hw.le (le0 σ)
 have J0 : WJ σ.re τ0 w b (waysU g W 0) [] := by
  subst hb hτ0
  refine ⟨(((New.row _ _ _).row').row').own (by omega), ((own_new σ.re _ _).row.row).own (by omega), (own_new ((σ.re.row [.pointer (some ⟨w, 0, none⟩)] 1).row [.slice none 0 0] 1) _ _).put, ⟨none, 0, 0, ((own_new (σ.re.row [.pointer (some ⟨w, 0, none⟩)] 1) _ _).row).own (by simp), ?_⟩, by simp, by simp, Nat.le_refl _, by simp⟩
  have : waysU g W 0 = [] := by simp [waysU]
  rw [this]; exact Gr.nil
 have hb' : σ.re.next = b := hb.symm
 have w00 := w0.le J0.new.le
 refine ways_ra (P0 := fun ms τ => WJ σ.re τ w b (waysU g W g.nb) ms) (by rw [← hτ0]; exact w00.buses) ?_ ?_
 ·rw [← hτ0, hb']
  refine ways_loop1 (Inv := fun k i19 ms τ => ∃ i : Nat, i19 = i ∧ i + k = g.nb ∧ WJ σ.re τ w b (waysU g W i) ms) (Q0 := fun ms τ => WJ σ.re τ w b (waysU g W g.nb) ms) ?_ g.nb 0 [] τ0 ⟨0, rfl, by omega, J0⟩
  rintro k i19 ms τ ⟨i, rfl, hk, hJ⟩
  by_cases hi : i < g.nb
  rotate_left
  ·have : i = g.nb := by omega
   subst this
   exact ways_s1b hJ
  have w1 := w0.le hJ.new.le
  obtain ⟨a, rfl, bus, hbus, ldb⟩ := slv_at w1.gar.bu hi
  obtain ⟨τ1, hτ1⟩ : ∃ τ1, τ1 = (((τ.row [iV 0] 1).row (ints9 0 0 0 0 0 0 0 0 0) 9).own τ.next [iV (i : Int)] 1).own (τ.next + 1) (busL bus) 9 := ⟨_, rfl⟩
  have N1 : New τ τ1 := by rw [hτ1]; exact (((New.row _ _ _).row').own (Nat.le_refl _)).own (by omega)
  have o1 : Own τ1 τ.next [iV (i : Int)] 1 := by rw [hτ1]; exact ((own_new τ _ _).row.put).own (by omega)
  have o2 : Own τ1 (τ.next + 1) (busL bus) 9 := by rw [hτ1]; exact ((own_new (τ.row [iV 0] 1) _ _).own (ds := [iV (i : Int)]) (m := 1) (show τ.next + 1 ≠ τ.next by omega)).put
  have w11 := w1.le N1.le
  obtain ⟨a1, a2, τ2, k1, k2, k3, k4⟩ := stay_c (σ := τ1) (p := p) (l := g.ns) (c := c) (q := some a) (m := g.nb) (d := d) (b := bus)
  have hJ2 := hJ.le (N1.trans k2)
  have hoclt := hJ.oc.lt
  refine ways_s1a ldb (by rw [← hτ1]; exact (hJ.le N1).ow.ld rfl agg99 (k := 0) rfl) (by rw [← hτ1]; exact w11.garage) (by rw [← hτ1]; exact k1)
   (ways_range (hw.le (le0 σ)) hF hv hbus hJ2 (o1.le k2.le) (o2.le k2.le) (by omega) (by omega) k3 k4 (fun m hm => (hJ2.marks m hm).2)) ?_
  intro τ3 h3
  exact ways_t2xna ⟨k - 1, by omega, i + 1, by omega, by omega, h3⟩
 ·intro ms τ1 hJ1
  rw [hb']
  have w1 := w0.le hJ1.new.le
  refine ways_t1x0a (P4 := fun τ => WJ σ.re τ w b (waysM g W) ms) (hJ1.ow.ld rfl agg99 (k := 0) rfl) w1.slots (ways_loop3 (Inv := fun k i94 τ => ∃ s : Nat, i94 = s ∧ s + k = g.ns ∧ WJ σ.re τ w b (waysU g W g.nb ++ waysV g W s) ms) (Q4 := fun τ => WJ σ.re τ w b (waysM g W) ms) ?_ g.ns 0 τ1 ⟨0, rfl, by omega, by simpa [waysV] using hJ1⟩) ?_
  ·rintro k i94 τ ⟨s, rfl, hk, hJ⟩
   by_cases hs : s < g.ns
   rotate_left
   ·have : s = g.ns := by omega
    subst this
    exact ways_s3b hJ
   obtain ⟨a, rfl, _⟩ := (w0.le hJ.new.le).gar.sl.some hs
   intro g0
   obtain ⟨e, fr, z, h1, h2⟩ := ways_slot (c' := 0) (k := 0) (Q4 := fun τ => WJ σ.re τ w b (waysM g W) ms) (P := fun τ' => WJ σ.re τ' w b (waysU g W g.nb ++ waysV g W (s + 1)) ms) w0 hF hv hs hJ (fun _ h => h) g0
   refine ⟨e, fr, z, h1, ?_⟩
   rcases h2 with ⟨rfl, t, g', rfl, rfl, hq⟩ | h2
   ·exact .inl ⟨rfl, _, g', rfl, k - 1, by omega, s + 1, by simp, by omega, hq⟩
   ·exact .inr h2
  ·intro τ2 hJ2
   obtain ⟨po, lo, co, ho, hg⟩ := hJ2.out
   have hlen : (waysM g W).length = lo := by have := hg.len_eq; simpa using this
   have hst := ho.store (k := 0) (t := 140) (v := .slice po lo co) (vs := [.slice po lo co]) (ds := [.slice po lo co]) rfl size140 rfl (by simp) rfl
   have hne : ∀ m ∈ ms, m ≠ b + 1 := fun m hm e => by have := (hJ2.marks m hm).1; rw [e, ho.get] at this; cases this
   obtain ⟨s_end, e1, e2, e3, e4⟩ := shut_all (σ := τ2.own (b + 1) [.slice po lo co] 1) (ms := ms) (fun m hm => by
    show getB (τ2.put _ _).heap m = _
    rw [St.put_get, if_neg (hne m hm)]; exact (hJ2.marks m hm).1) hJ2.nodup
   have hoe : Own s_end (b + 1) [.slice po lo co] 1 := (ho.put (ds := [.slice po lo co])).at_ (e3 _ (fun hm => hne _ hm rfl)) (by rw [e2]; exact Nat.le_refl _)
   have hge := hJ2.ge
   have hN : New σ.re s_end := by
    refine ⟨⟨by rw [e2]; exact hJ2.new.nx, fun y hy => ?_⟩, fun m h1 h2 => e4 m ?_ (fun x hx => Nat.le_trans h2 (hge.2 x hx))⟩
    ·rw [e3 y (fun hm => by have := hge.2 y hm; omega)]
     show getB (τ2.put _ _).heap y = _
     rw [St.put_get, if_neg (by omega)]; exact hJ2.new.le.get y hy
    ·have := hJ2.new.low m h1 h2
     simp; omega
   have hS : SlV Try.prog s_end 143 6 po lo ((waysM g W).map wyV) := by
    have h1 : SlV Try.prog (τ2.own (b + 1) [.slice po lo co] 1) 143 6 po lo ((waysM g W).map wyV) := hg.slv.own (.inr fun a e hb => by have := hg.bd ⟨a, e, rfl⟩; omega)
    refine ⟨⟨h1.1.1, ?_⟩, h1.2⟩
    cases po with
    | none => exact h1.1.2
    | some a =>
     have hr : Row (τ2.own (b + 1) [.slice (some a) lo co] 1) a _ := h1.1.2
     refine ⟨?_, by rw [e2]; exact hr.lt⟩
     have := hr.rd
     unfold readRow at this ⊢
     rw [e3 a.block (fun hm => gr_not_defd hg (hJ2.marks _ hm).1 ⟨a, rfl, rfl⟩)]
     exact this
   rw [hlen]
   exact ways_t3x4a (ho.ld rfl agg140 (k := 0) rfl) hst e1 (hoe.ld rfl agg140 (k := 0) rfl) ⟨hN, po, co, rfl, hS, fun y hy => by have := hg.bd hy; have hbn : σ.next = b := hb'; omega⟩
end
end Go.Proofs.Ythcdddbghldmiaa
