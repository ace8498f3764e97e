
import Derived.Test.YthcdddbghldmiaaEJ
import Derived.Test.YthcdddbghldmiaaDB
import Derived.Test.YthcdddbghldmiaaXV
namespace Go.Proofs.Ythcdddbghldmiaa
open Go Go.Lay
set_option linter.unusedVariables false
set_option linter.unusedSimpArgs false
set_option maxRecDepth 20000
section
variable {σ : St} {g : Gar} {p q wp up : Option Addr} {l c m d lw lu cw cu : Nat} {ws us : List Int}
theorem lBounds_top (hR : RefP σ p l q m g) (hw : IntsP σ wp lw ws) (hu : IntsP σ up lu us) : TopQ Try.prog 17 10 [.agg ⟨garL p l c q m d⟩, .slice wp lw cw, .slice up lu cu] σ fun v _ => v = .bool true := by
 have hl1 : g.ns = l := hR.len1; have hl2 : g.nb = m := hR.len2
 subst hl1 hl2
 have elw := hw.len; have elu := hu.len
 obtain ⟨τ, hτ⟩ : ∃ τ, τ = σ.row (garL p g.ns c q g.nb d) 2 := ⟨_, rfl⟩
 have N1 : New σ τ := by rw [hτ]; exact New.row _ _ _
 have o1 : Own τ σ.next (garL p g.ns c q g.nb d) 2 := by rw [hτ]; exact own_new σ _ _
 have R1 := hR.le N1.le
 obtain ⟨b, c1, hb⟩ := few_c (c := c) (d := d) R1
 cases b with
 | false => rw [hτ] at c1; exact lBounds_rz c1 rfl
 | true =>
 have ht := hb rfl
 by_cases hw20 : 20 < lw
 ·rw [hτ] at c1; exact lBounds_ra c1 rfl
 by_cases hu20 : 20 < lu
 ·rw [hτ] at c1; exact lBounds_rb c1 rfl
 obtain ⟨p3, c3, q3, d3, σ4, k3, n3, g3⟩ := garage_c (c := c) (d := d) R1 (by omega) (by omega)
 obtain ⟨p5, c5, σ6, k5, n5, i5, _⟩ := list_c (c := cw) (SlV.le hw (N1.trans n3).le) (by omega)
 obtain ⟨p7, c7, σ8, k7, n7, i7, _⟩ := list_c (c := cu) (SlV.le hu ((N1.trans n3).trans n5).le) (by omega)
 obtain ⟨z, e, k9, b9⟩ := Bound_c (c := c3) (d := d3) (cw := c5) (cu := c7) (g3.le (n5.trans n7).le) (SlV.le i5 n7.le) i7 (by omega) (by omega)
 have M8 := (n3.trans n5).trans n7
 have R8 := R1.le M8.le
 have o8 := o1.le M8.le
 have ld8 := o8.ldN (P := Try.prog) agg25 size25 (k := 0) (ds := garL p g.ns c q g.nb d) rfl rfl (by simp)
 obtain ⟨p4, c4, q4, d4, σ15, k15, n15, g15⟩ := garage_c (c := c) (d := d) R8 (by omega) (by omega)
 obtain ⟨pa, la, ca, pu, lu', cu', e2, σ19, k19, n19, b19⟩ := Proof_c (c := c4) (d := d4) g15
 have M19 := (M8.trans n15).trans n19
 have R19 := R1.le M19.le
 have o19 := o1.le M19.le
 have ld19 := o19.ldN (P := Try.prog) agg25 size25 (k := 0) (ds := garL p g.ns c q g.nb d) rfl rfl (by simp)
 have kF := fault_c (c := c) (d := d) R19
 rw [hτ] at c1 k3
 by_cases hz : checkZ g = 0
 rotate_left
 ·obtain ⟨rfl, rfl⟩ : z = 0 ∧ e = checkZ g := by
   rcases b9 with ⟨_, h2, h3⟩ | ⟨hv, _⟩ | ⟨hv, _⟩
   ·exact ⟨h2, h3⟩
   ·exact absurd hv.chk hz
   ·exact absurd hv.chk hz
  obtain ⟨rfl, rfl, rfl⟩ : la = 0 ∧ lu' = 0 ∧ e2 = checkZ g := by
   rcases b19 with ⟨_, _, h1, _, _, h2, _, h3⟩ | ⟨hv, _⟩ | ⟨hv, _⟩
   ·exact ⟨h1, h2, h3⟩
   ·exact absurd hv.chk hz
   ·exact absurd hv.chk hz
  exact lBounds_rc c1 k3 k5 k7 k9 ld8 k15 k19 ld19 kF rfl
 have hv := valid_of hz
 have hns := hv.ns; have hnb := hv.nb
 rw [hz] at kF
 have kN := rNeeds_c (c := c) (d := d) R19 hv
 obtain ⟨r, y, k27, n27, hr⟩ := cheapest_c (c := c) (d := d) R19 hv
 have lt8 := o19.lt
 have ma : ∀ a, p = some a → a.block < σ19.next := R19.lt1
 have mb : ∀ a, q = some a → a.block < σ19.next := R19.lt2
 have nx : (σ19.add (.map [])).next = σ19.next + 1 := by simp
 have bl1 : belowL σ19.next [.pointer (some ⟨σ.next, 0, none⟩)] := belowL_cons (belowB_ptr lt8) belowL_nil
 have bl2 : belowL σ19.next [.agg ⟨garL p g.ns c q g.nb d⟩] := belowL_cons (belowB_gar ma mb) belowL_nil
 have bl3 : belowL (σ19.add (.map [])).next [.agg ⟨garL p g.ns c q g.nb d⟩, iV 0, .agg ⟨iL (ndL g)⟩, .map (some σ19.next)] := by
  rw [nx]
  exact belowL_cons (belowB_gar (fun a e => by have := ma a e; omega) (fun a e => by have := mb a e; omega)) (belowL_cons (belowB_rig rfl) (belowL_cons (belowB_rig rig_nd) (belowL_cons (belowB_map (by omega)) belowL_nil)))
 have o19' := o19.add (y := .map [])
 have lt8' := o19'.lt
 have ld19' := o19'.ldN (P := Try.prog) agg25 size25 (k := 0) (ds := garL p g.ns c q g.nb d) rfl rfl (by simp)
 have o9 := o19.le n27.le
 have ld9 := o9.ldN (P := Try.prog) agg25 size25 (k := 0) (ds := garL p g.ns c q g.nb d) rfl rfl (by simp)
 have R9 := R19.le n27.le
 have W19 : IntsP σ19 wp lw ws := SlV.le hw (N1.trans M19).le
 have U19 : IntsP σ19 up lu us := SlV.le hu (N1.trans M19).le
 obtain ⟨ba, kA, hA⟩ := rAreWorths_c (g := g) (p := p) (q := q) (c := c) (d := d) (cw := cw) (cu := cu) W19 U19 (by omega) (by omega)
 have proof : (r = -1 ∧ la = 0 ∧ lu' = 0 ∧ e2 = 9) ∨ (¬ r < 0 ∧ e2 = 0 ∧ CallsA Try.prog 42 [.agg ⟨garL p g.ns c q g.nb d⟩, .slice pa la ca, .slice pu lu' cu'] y (.bool true) y ∧ CallsA Try.prog 43 [.agg ⟨garL p g.ns c q g.nb d⟩, .slice pa la ca, .slice pu lu' cu'] y (iV r) y) := by
  rcases b19 with ⟨h, _⟩ | ⟨_, _, h1, _, _, h2, _, h3, hP⟩ | ⟨_, h3, W, π, hG, hn, hp, hbd, iw, iu⟩
  ·exact absurd hz h
  ·exact .inl ⟨least_lack hv hP hr, h1, h2, h3⟩
  ·right
   obtain ⟨h1, h2⟩ := least_good hv hG hn hr
   have ew : la = g.nb := by rw [← iw.len]; simp [worthL]
   have eu : lu' = g.ns := by rw [← iu.len]; simp [surL]
   subst ew eu
   have aw := areW (g := g) hbd
   obtain ⟨b, kB, hB⟩ := rAreWorths_c (g := g) (p := p) (q := q) (c := c) (d := d) (cw := ca) (cu := cu') (SlV.le iw n27.le) (SlV.le iu n27.le) (by omega) (by omega)
   rw [hB.2 aw] at kB
   have kC := rBound_c (c := c) (d := d) (cw := ca) (cu := cu') R9 hv (SlV.le iw n27.le) (SlV.le iu n27.le) aw
   have eq : boundZ g (fun i => (worthL g π).getD i 0) (fun s => (surL g π).getD s 0) = r := by
    rw [boundZ_congr (w' := worth π) (t' := sur π) (fun i hi => worthL_get hi) (fun s hs => surL_get hs), bound_eq hv hG.feas hp hn, h1]
   rw [eq] at kC
   exact ⟨by omega, h3, kB, kC⟩
 cases ba with
 | true =>
  have hAw := hA.1 rfl
  obtain ⟨rfl, rfl⟩ : z = boundZ g (fun i => ws.getD i 0) (fun s => us.getD s 0) ∧ e = 0 := by
   rcases b9 with ⟨h, _⟩ | ⟨_, h, _⟩ | ⟨_, _, h1, h2⟩
   ·exact absurd hz h
   ·exact absurd hAw h
   ·exact ⟨h1, h2⟩
  have e1 : lw = g.nb := by rw [← elw]; exact hAw.1
  have e3 : lu = g.ns := by rw [← elu]; exact hAw.2.1
  subst e1 e3
  have kB := rBound_c (c := c) (d := d) (cw := cw) (cu := cu) R19 hv W19 U19 hAw
  rcases proof with ⟨hm, rfl, rfl, rfl⟩ | ⟨hm, rfl, kX, kY⟩
  ·exact lBounds_rj c1 k3 k5 k7 k9 ld8 k15 k19 ld19 kF kA kB kN k27 bl1 bl2 bl3 ⟨⟨lt8, rfl⟩, ld19⟩ ⟨⟨lt8', rfl⟩, ld19'⟩ rfl
  ·exact lBounds_rm c1 k3 k5 k7 k9 ld8 k15 k19 ld19 kF kA kB kN k27 bl1 bl2 bl3 ⟨⟨lt8, rfl⟩, ld19⟩ ⟨⟨lt8', rfl⟩, ld19'⟩ ld9 kX kY rfl
 | false =>
  have hAw : ¬ AreW g ws us := fun h => by have := hA.2 h; cases this
  obtain ⟨rfl, rfl⟩ : z = 0 ∧ e = 2 := by
   rcases b9 with ⟨h, _⟩ | ⟨_, _, h1, h2⟩ | ⟨_, h, _⟩
   ·exact absurd hz h
   ·exact ⟨h1, h2⟩
   ·exact absurd h hAw
  rcases proof with ⟨hm, rfl, rfl, rfl⟩ | ⟨hm, rfl, kX, kY⟩
  ·exact lBounds_rs c1 k3 k5 k7 k9 ld8 k15 k19 ld19 kF kA kN k27 bl1 bl2 bl3 ⟨⟨lt8, rfl⟩, ld19⟩ ⟨⟨lt8', rfl⟩, ld19'⟩ rfl
  ·exact lBounds_rv c1 k3 k5 k7 k9 ld8 k15 k19 ld19 kF kA kN k27 bl1 bl2 bl3 ⟨⟨lt8, rfl⟩, ld19⟩ ⟨⟨lt8', rfl⟩, ld19'⟩ ld9 kX kY rfl
end
end Go.Proofs.Ythcdddbghldmiaa
