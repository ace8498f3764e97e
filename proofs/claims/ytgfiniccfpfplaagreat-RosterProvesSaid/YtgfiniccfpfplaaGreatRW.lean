import Derived.Test.YtgfiniccfpfplaaGreatRU

namespace Go.Proofs.YtgfiniccfpfplaaGreat
open Go Go.Lay
set_option linter.unusedVariables false
set_option linter.unusedSimpArgs false
set_option maxRecDepth 20000
section
variable {σ z : St} {wl : List Value} {rv tv : Value} {f : Nat → Std} {A R : List Bch} {ms : List Nat} {m : Nat}
theorem sort_end (hJ : J σ wl rv tv (fun x => x ∈ ms) f A z) (hms : ∀ y ∈ ms, yJ z.heap y = some .defd ∧ σ.next + 5 ≤ y ∧ y < z.next) (hnd : ms.Nodup) (hA : A.length ≤ 1000) (hok : ∀ b ∈ A, b.kind ≤ 5 ∧ b.drv ≤ 100 ∧ b.dut ≤ 100)
  (hR : ∀ A', A'.Perm A → (A'.Pairwise fun x y => ¬ y.lt x) → A' = R) :
  zMA σ.next (σ.next + 3) (σ.next + 4) m ms z (fun v s => New σ.re s ∧ ∃ p c, v = .slice p R.length c ∧ SlV Tryz.prog s 45 3 p R.length (R.map zHO) ∧ ∀ b, AtP p b → σ.next ≤ b) := by
 obtain ⟨po, co, o, hg, hf⟩ := hJ.out
 have l1 : zC Tryz.prog z 36 ⟨σ.next + 3, 0, none⟩ = some (.slice po A.length co) := o.ld (k := 0) rfl yNI rfl
 by_cases hA0 : A = []
 ·have hR0 : R = [] := (hR [] (by rw [hA0]) List.Pairwise.nil).symm
  subst hA0
  have hpo : po = none ∧ co = 0 := by
   have := hg.app
   cases this with
   | nil => exact ⟨rfl, rfl⟩
   | more _ _ _ _ _ hp _ => exact absurd hp (by simp)
  obtain ⟨rfl, rfl⟩ := hpo
  have st := o.store (k := 0) (t := 36) (P := Tryz.prog) (v := .slice none 0 0) (vs := [.slice none 0 0]) (ds := [.slice none 0 0]) rfl yOE rfl (by simp) rfl
  obtain ⟨z2, k1, k2, k3, k4⟩ := zVX (ms := ms) (σ := z.own (σ.next + 3) [.slice none 0 0] 1) (fun y hy => by
   have := (hms y hy)
   show yJ (St.put _ _ _).heap y = _
   rw [St.put_get, if_neg (by omega)]; exact this.1) hnd
  have o2 : Own z2 (σ.next + 3) [.slice none 0 0] 1 := o.put.at_ (k3 _ (fun e => by have := (hms _ e).2.1; omega)) (by rw [k2]; exact Nat.le_refl _)
  have N : New σ.re z2 := by
   have N1 : New σ.re (z.own (σ.next + 3) [.slice none 0 0] 1) := hJ.new.own (by show σ.next ≤ σ.next + 3; omega)
   refine ⟨⟨by rw [k2]; exact N1.le.next, fun b hb => by rw [k3 b (fun e => by have := (hms _ e).2.1; have hb : b < σ.next := hb; omega)]; exact N1.le.get b hb⟩, fun m h1 h2 => k4 m (N1.low m h1 h2) (fun y hy => by have := (hms y hy).2.1; have h2 : m ≤ σ.next := h2; omega)⟩
  subst hR0
  exact zQZ l1 yXG l1 st k1 (o2.ld (k := 0) rfl yNI rfl) ⟨N, none, 0, rfl, ⟨.nil _ _, rfl, fun v hv => by cases hv⟩, fun b hb => by obtain ⟨a, e, _⟩ := hb; cases e⟩
 ·have hg2 : Gr Tryz.prog z (σ.next + 5) 45 3 po (A.map zFG).length co ((A.map zFG).map zHC) := by rw [List.length_map, ← yWM]; exact hg
  obtain ⟨b, s, rfl, hb, dt⟩ := dt_of_gr hg2 (by simpa using hA0)
  have esz : (A.map zFG).toArray.size = A.length := by simp
  have hV : xJ BOk (A.map zFG).toArray := by
   intro i hi
   have hm : (A.map zFG).toArray[i]! ∈ A.map zFG := by
    rw [getElem!_pos _ i hi]
    exact Array.mem_toList_iff.2 (Array.getElem_mem hi)
   obtain ⟨x, hx, e⟩ := List.mem_map.1 hm
   rw [← e]
   have := hok x hx
   unfold BOk zFG
   simp only
   omega
  obtain ⟨d', p1, p2, z1, c1, O1, dt1, _⟩ := sortF_c (c := co) swo_b cmp_b dt hV (by rw [esz]; omega)
  rw [esz] at c1
  obtain ⟨A', e1, e2, e3⟩ := yOD p1 p2
  have eR := hR A' e2 e3
  subst eR
  have hlA : A'.length = A.length := e2.length_eq
  have hsz : d'.size = A.length := by rw [← esz]; exact p1.1
  have o1 : Own z1 (σ.next + 3) [.slice (some ⟨b, 0, s⟩) A.length co] 1 := O1.own' o (by omega)
  have l3 : zC Tryz.prog z1 36 ⟨σ.next + 3, 0, none⟩ = some (.slice (some ⟨b, 0, s⟩) A.length co) := o1.ld (k := 0) rfl yNI rfl
  have st := o1.store (k := 0) (t := 36) (P := Tryz.prog) (v := .slice (some ⟨b, 0, s⟩) A.length co) (vs := [.slice (some ⟨b, 0, s⟩) A.length co]) (ds := [.slice (some ⟨b, 0, s⟩) A.length co]) rfl yOE rfl (by simp) rfl
  have hbm : ¬ b ∈ ms := hf b ⟨_, rfl, rfl⟩
  have N1 : New σ.re (z1.own (σ.next + 3) [.slice (some ⟨b, 0, s⟩) A.length co] 1) := (hJ.new.of_only O1 (by rintro x rfl; show σ.next ≤ x; omega)).own (by show σ.next ≤ σ.next + 3; omega)
  obtain ⟨z2, k1, k2, k3, k4⟩ := zVX (ms := ms) (σ := z1.own (σ.next + 3) [.slice (some ⟨b, 0, s⟩) A.length co] 1) (fun y hy => by
   have h3 := hms y hy
   show yJ (St.put _ _ _).heap y = _
   rw [St.put_get, if_neg (by omega), O1.get y h3.2.2 (fun e => hbm (by have e : y = b := e; rw [← e]; exact hy))]; exact h3.1) hnd
  have o2 : Own z2 (σ.next + 3) [.slice (some ⟨b, 0, s⟩) A.length co] 1 := o1.put.at_ (k3 _ (fun e => by have := (hms _ e).2.1; omega)) (by rw [k2]; exact Nat.le_refl _)
  have N : New σ.re z2 := ⟨⟨by rw [k2]; exact N1.le.next, fun b hb => by rw [k3 b (fun e => by have := (hms _ e).2.1; have hb : b < σ.next := hb; omega)]; exact N1.le.get b hb⟩, fun m h1 h2 => k4 m (N1.low m h1 h2) (fun y hy => by have := (hms y hy).2.1; have h2 : m ≤ σ.next := h2; omega)⟩
  have O3 : Only (fun x => x = σ.next + 3 ∨ x ∈ ms) z1 z2 := by
   refine (Only.own (S := fun x => x = σ.next + 3 ∨ x ∈ ms) (cs := [.slice (some ⟨b, 0, s⟩) A.length co]) (n := 1) (b := σ.next + 3) (.inr (.inl rfl))).trans' (T := fun x => x ∈ ms) ⟨by rw [k2]; exact Nat.le_refl _, fun b _ hb => k3 b hb, fun m h1 _ h3 => k4 m h1 (fun y hy => h3 y (by have := (hms y hy).2.2; have := O1.next; show y < z1.next; omega) hy)⟩ (fun b _ hb => .inl (.inr hb))
  have sl := O3.slv' (yOO dt1) (fun a e => by cases e; rintro (g | g); have g : b = σ.next + 3 := g; omega; exact hbm g)
  rw [e1, ← yWM, hsz] at sl
  rw [hlA]
  exact zQZ l1 c1 l3 st k1 (o2.ld (k := 0) rfl yNI rfl) ⟨N, some ⟨b, 0, s⟩, co, rfl, sl, fun x hx => by obtain ⟨a, e, rfl⟩ := hx; cases e; show σ.next ≤ b; omega⟩
end
end Go.Proofs.YtgfiniccfpfplaaGreat

namespace Go.Proofs.YtgfiniccfpfplaaGreat
open Go Go.Lay
set_option linter.unusedVariables false
set_option linter.unusedSimpArgs false
set_option maxRecDepth 20000
section
variable {σ : St} {w : Wk} {p q r t : Option Addr} {l m c d rc tc : Nat} {rs ts : List Int} {ros tru : Nat → Int}
theorem cellW_len {D i : Nat} : (zOH w ros tru D i).length ≤ 5 := by
 unfold zOH
 split
 ·simp
 ·have := List.length_filterMap_le (fun q => if holds w q (drv w (ros i).toNat) (dty w i) (wG w ros tru (ros i).toNat D i) = true then none else some (⟨q, (ros i).toNat, i⟩ : Bch)) (List.range 5)
  simpa using this
theorem zYF {D : Nat} : ∀ {j : Nat}, (zGX w ros tru D j).length ≤ 5 * j
 | 0 => by simp [zGX]
 | j + 1 => by
  have ih := zYF (D := D) (j := j)
  rw [ySP, List.length_append]
  have := cellW_len (w := w) (ros := ros) (tru := tru) (D := D) (i := j)
  split
  ·omega
  ·simp only [List.length_nil]; omega
theorem zXJ : ∀ {D : Nat}, (zEZ w ros tru D).length ≤ 5 * w.duties.length * D
 | 0 => by simp [zEZ]
 | D + 1 => by
  have ih := zXJ (D := D)
  rw [outB_s, List.length_append, Nat.mul_add, Nat.mul_one]
  have := zYF (w := w) (ros := ros) (tru := tru) (D := D) (j := w.duties.length)
  omega
theorem broken_c {n : Nat} (hn : w.days = (n : Int)) (hn7 : n ≤ 7) (hv : Days w n) (h : WkP σ 85 88 w p l q m) (hs : Sane w l m) (hsh : zIY w) (hr : yU σ r l rs) (ht : yU σ t l ts) (hro : ∀ i, i < l → -1 ≤ zL rs i ∧ zL rs i < (m : Int))
  (hts : ∀ i, i < l → (dty w i).on ≤ zL ts i ∧ zL ts i ≤ (dty w i).on + 1440) :
  ∃ p' c' σ', zE Tryz.prog 54 [.agg ⟨wkc w.days p l c q m d w.rest w.run w.hours⟩, .slice r l rc, .slice t l tc] σ (.slice p' (zAY w (zL rs) (zL ts) m).length c') σ' ∧ New σ σ' ∧ SlV Tryz.prog σ' 45 3 p' (zAY w (zL rs) (zL ts) m).length ((zAY w (zL rs) (zL ts) m).map zHO) ∧ ∀ b, AtP p' b → σ.next ≤ b := by
 have hl := h.len.1
 have hm := h.len.2
 have hm6 := hs.m6
 have hl12 := hs.l12
 have hRos : Ros w (zL rs) := ⟨fun i hi => by have := hro i (by omega); omega⟩
 obtain ⟨s4, hs4⟩ : ∃ s, s = (((σ.re.row (wkc w.days p l c q m d w.rest w.run w.hours) 6).row [.slice r l rc] 1).row [.slice t l tc] 1).row [.slice none 0 0] 1 := ⟨_, rfl⟩
 have N4 : New σ.re s4 := by rw [hs4]; exact ((New.row _ _ _).row'.row').row'
 have L4 : Le σ s4 := (le0 σ).trans N4.le
 have x4 : s4.next = σ.next + 4 := by rw [hs4]; rfl
 have cb := yXB (c := c) (d := d) (h.le L4) hm6
 have oz : Own (s4.row zVG 4) (σ.next + 4) (stL fun _ => std0) 4 := by
  have := zD s4 zVG 4
  rw [x4] at this; exact this
 have st := yUS oz (st0 w m)
 obtain ⟨s5, hs5⟩ : ∃ s, s = (s4.row zVG 4).own (σ.next + 4) (stL (st0 w m)) 4 := ⟨_, rfl⟩
 have N5 : New σ.re s5 := by rw [hs5]; exact N4.row'.own (by show σ.next ≤ σ.next + 4; omega)
 have w1 : Row s5 ⟨σ.next, 0, none⟩ (wkc w.days p l c q m d w.rest w.run w.hours) := by
  rw [hs5, hs4]
  exact (xQ σ.re (wkc w.days p l c q m d w.rest w.run w.hours) 6).row.row.row.row.own (by show σ.next ≠ _; omega)
 have w2 : Row s5 ⟨σ.next + 1, 0, none⟩ [.slice r l rc] := by
  rw [hs5, hs4]
  exact (xQ (σ.re.row (wkc w.days p l c q m d w.rest w.run w.hours) 6) [.slice r l rc] 1).row.row.row.own (by show σ.next + 1 ≠ _; omega)
 have w3 : Row s5 ⟨σ.next + 2, 0, none⟩ [.slice t l tc] := by
  rw [hs5, hs4]
  exact (xQ ((σ.re.row (wkc w.days p l c q m d w.rest w.run w.hours) 6).row [.slice r l rc] 1) [.slice t l tc] 1).row.row.own (by show σ.next + 2 ≠ _; omega)
 have w4 : Own s5 (σ.next + 3) [.slice none 0 0] 1 := by
  rw [hs5, hs4]
  exact (zD (((σ.re.row (wkc w.days p l c q m d w.rest w.run w.hours) 6).row [.slice r l rc] 1).row [.slice t l tc] 1) [.slice none 0 0] 1).row.own (by show σ.next + 3 ≠ _; omega)
 have w5 : Own s5 (σ.next + 4) (stL (st0 w m)) 4 := by rw [hs5]; exact oz.put
 have J0 : J σ (wkc w.days p l c q m d w.rest w.run w.hours) (.slice r l rc) (.slice t l tc) (fun x => x ∈ ([] : List Nat)) (st0 w m) [] s5 := ⟨N5, w1, w2, w3, w5, none, 0, w4, Gr.nil, fun b hb => by obtain ⟨a, e, _⟩ := hb; cases e⟩
 have hA : ∀ D j, D ≤ 6 → j ≤ l → (zEZ w (zL rs) (zL ts) D ++ zGX w (zL rs) (zL ts) D j).length ≤ 450 := by
  intro D j hD hj
  rw [List.length_append]
  have h1 := zXJ (w := w) (ros := zL rs) (tru := zL ts) (D := D)
  have h2 := zYF (w := w) (ros := zL rs) (tru := zL ts) (D := D) (j := j)
  have h3 : 5 * w.duties.length * D ≤ 5 * 12 * 6 := Nat.mul_le_mul (by omega) hD
  omega
 have hO : (zEZ w (zL rs) (zL ts) n).length ≤ 420 := by
  have h1 := zXJ (w := w) (ros := zL rs) (tru := zL ts) (D := n)
  have h3 : 5 * w.duties.length * n ≤ 5 * 12 * 7 := Nat.mul_le_mul (by omega) hn7
  omega
 have l0 : zC Tryz.prog s5 3 ⟨σ.re.next, 0, none⟩ = some (iV w.days) := w1.ld zP rfl
 have run := days_run hn hn7 h hs hsh hr ht hro hts hA J0
 rw [hs4] at cb
 refine zN.newSl (broken_ra cb (by rw [← hs4]; exact hs5 ▸ st) l0 run ?_)
 rintro ms z ⟨Jz, hnd, hms⟩
 have lr := long_run (σ := σ) hm6 (by omega) (fun y hy => (hms y hy).2) Jz
 refine yGU (Jz.wk.ld (k := 2) zFC rfl) lr ?_
 rintro z2 ⟨J2, O2⟩
 have hlb := yCD (w := w) (ros := zL rs) (tru := zL ts) (n := n) (k := m)
 refine sort_end (σ := σ) J2 (fun y hy => ⟨by rw [O2.get y (hms y hy).2.2 (fun hh => hh hy)]; exact (hms y hy).1, (hms y hy).2.1, by have := (hms y hy).2.2; have := O2.next; omega⟩) hnd (by rw [List.length_append]; omega) ?_ ?_
 ·intro b hb
  have hb : b ∈ yNG w (zL rs) (zL ts) n := by unfold yNG; rw [hm]; exact hb
  obtain ⟨h1, h2, _⟩ := (yNF hv hRos).1 hb
  omega
 ·intro A' h1 h2
  have := yXF hv hRos (l := A') (by unfold yNG; rw [hm]; exact h1) h2
  rw [this, hm]
end
end Go.Proofs.YtgfiniccfpfplaaGreat
