
import Derived.Test.YtgfiniccfpfplaaGreatRU
namespace Go.Proofs.YtgfiniccfpfplaaGreat
open Go Go.Lay
set_option linter.unusedVariables false
set_option linter.unusedSimpArgs false
set_option maxRecDepth 20000
section
variable {σ z : St} {wl : List Value} {rv tv : Value} {f : Nat → Std} {A R : List Bch} {ms : List Nat} {m : Nat}
theorem sort_end (hJ : J σ wl rv tv (fun x => x ∈ ms) f A z) (hms : ∀ y ∈ ms, yK z.heap y = some .defd ∧ σ.next + 5 ≤ y ∧ y < z.next) (hnd : ms.Nodup) (hA : A.length ≤ 1000) (hok : ∀ b ∈ A, b.kind ≤ 5 ∧ b.drv ≤ 100 ∧ b.dut ≤ 100)
  (hR : ∀ A', A'.Perm A → (A'.Pairwise fun x y => ¬ y.lt x) → A' = R) :
  zMG σ.next (σ.next + 3) (σ.next + 4) m ms z (fun v s => New σ.re s ∧ ∃ p c, v = .slice p R.length c ∧ SlV Tryz.prog s 45 3 p R.length (R.map zFH) ∧ ∀ b, AtP p b → σ.next ≤ b) := by
 obtain ⟨po, co, o, hg, hf⟩ := hJ.out
 have l1 : zC Tryz.prog z 36 ⟨σ.next + 3, 0, none⟩ = some (.slice po A.length co) := o.ld (k := 0) rfl yNO rfl
 by_cases hA0 : A = []
 ·have hR0 : R = [] := (hR [] (by rw [hA0]) List.Pairwise.nil).symm
  subst hA0
  have hpo : po = none ∧ co = 0 := by
   have := hg.app
   cases this with
   | nil => exact ⟨rfl, rfl⟩
   | more _ _ _ _ _ hp _ => exact absurd hp (by simp)
  obtain ⟨rfl, rfl⟩ := hpo
  have st := o.store (k := 0) (t := 36) (P := Tryz.prog) (v := .slice none 0 0) (vs := [.slice none 0 0]) (ds := [.slice none 0 0]) rfl yOM rfl (by simp) rfl
  obtain ⟨z2, k1, k2, k3, k4⟩ := zWH (ms := ms) (σ := z.own (σ.next + 3) [.slice none 0 0] 1) (fun y hy => by
   have := (hms y hy)
   show yK (St.put _ _ _).heap y = _
   rw [St.put_get, if_neg (by omega)]; exact this.1) hnd
  have o2 : Own z2 (σ.next + 3) [.slice none 0 0] 1 := o.put.at_ (k3 _ (fun e => by have := (hms _ e).2.1; omega)) (by rw [k2]; exact Nat.le_refl _)
  have N : New σ.re z2 := by
   have N1 : New σ.re (z.own (σ.next + 3) [.slice none 0 0] 1) := hJ.new.own (by show σ.next ≤ σ.next + 3; omega)
   refine ⟨⟨by rw [k2]; exact N1.le.next, fun b hb => by rw [k3 b (fun e => by have := (hms _ e).2.1; have hb : b < σ.next := hb; omega)]; exact N1.le.get b hb⟩, fun m h1 h2 => k4 m (N1.low m h1 h2) (fun y hy => by have := (hms y hy).2.1; have h2 : m ≤ σ.next := h2; omega)⟩
  subst hR0
  exact zRG l1 yXG l1 st k1 (o2.ld (k := 0) rfl yNO rfl) ⟨N, none, 0, rfl, ⟨.nil _ _, rfl, fun v hv => by cases hv⟩, fun b hb => by obtain ⟨a, e, _⟩ := hb; cases e⟩
 ·have hg2 : Gr Tryz.prog z (σ.next + 5) 45 3 po (A.map zFM).length co ((A.map zFM).map zHH) := by rw [List.length_map, ← yWL]; exact hg
  obtain ⟨b, s, rfl, hb, dt⟩ := dt_of_gr hg2 (by simpa using hA0)
  have esz : (A.map zFM).toArray.size = A.length := by simp
  have hV : xL BOk (A.map zFM).toArray := by
   intro i hi
   have hm : (A.map zFM).toArray[i]! ∈ A.map zFM := by
    rw [getElem!_pos _ i hi]
    exact Array.mem_toList_iff.2 (Array.getElem_mem hi)
   obtain ⟨x, hx, e⟩ := List.mem_map.1 hm
   rw [← e]
   have := hok x hx
   unfold BOk zFM
   simp only
   omega
  obtain ⟨d', p1, p2, z1, c1, O1, dt1, _⟩ := sortF_c (c := co) swo_b cmp_b dt hV (by rw [esz]; omega)
  rw [esz] at c1
  obtain ⟨A', e1, e2, e3⟩ := yOK p1 p2
  have eR := hR A' e2 e3
  subst eR
  have hlA : A'.length = A.length := e2.length_eq
  have hsz : d'.size = A.length := by rw [← esz]; exact p1.1
  have o1 : Own z1 (σ.next + 3) [.slice (some ⟨b, 0, s⟩) A.length co] 1 := O1.own' o (by omega)
  have l3 : zC Tryz.prog z1 36 ⟨σ.next + 3, 0, none⟩ = some (.slice (some ⟨b, 0, s⟩) A.length co) := o1.ld (k := 0) rfl yNO rfl
  have st := o1.store (k := 0) (t := 36) (P := Tryz.prog) (v := .slice (some ⟨b, 0, s⟩) A.length co) (vs := [.slice (some ⟨b, 0, s⟩) A.length co]) (ds := [.slice (some ⟨b, 0, s⟩) A.length co]) rfl yOM rfl (by simp) rfl
  have hbm : ¬ b ∈ ms := hf b ⟨_, rfl, rfl⟩
  have N1 : New σ.re (z1.own (σ.next + 3) [.slice (some ⟨b, 0, s⟩) A.length co] 1) := (hJ.new.of_only O1 (by rintro x rfl; show σ.next ≤ x; omega)).own (by show σ.next ≤ σ.next + 3; omega)
  obtain ⟨z2, k1, k2, k3, k4⟩ := zWH (ms := ms) (σ := z1.own (σ.next + 3) [.slice (some ⟨b, 0, s⟩) A.length co] 1) (fun y hy => by
   have h3 := hms y hy
   show yK (St.put _ _ _).heap y = _
   rw [St.put_get, if_neg (by omega), O1.get y h3.2.2 (fun e => hbm (by have e : y = b := e; rw [← e]; exact hy))]; exact h3.1) hnd
  have o2 : Own z2 (σ.next + 3) [.slice (some ⟨b, 0, s⟩) A.length co] 1 := o1.put.at_ (k3 _ (fun e => by have := (hms _ e).2.1; omega)) (by rw [k2]; exact Nat.le_refl _)
  have N : New σ.re z2 := ⟨⟨by rw [k2]; exact N1.le.next, fun b hb => by rw [k3 b (fun e => by have := (hms _ e).2.1; have hb : b < σ.next := hb; omega)]; exact N1.le.get b hb⟩, fun m h1 h2 => k4 m (N1.low m h1 h2) (fun y hy => by have := (hms y hy).2.1; have h2 : m ≤ σ.next := h2; omega)⟩
  have O3 : Only (fun x => x = σ.next + 3 ∨ x ∈ ms) z1 z2 := by
   refine (Only.own (S := fun x => x = σ.next + 3 ∨ x ∈ ms) (cs := [.slice (some ⟨b, 0, s⟩) A.length co]) (n := 1) (b := σ.next + 3) (.inr (.inl rfl))).trans' (T := fun x => x ∈ ms) ⟨by rw [k2]; exact Nat.le_refl _, fun b _ hb => k3 b hb, fun m h1 _ h3 => k4 m h1 (fun y hy => h3 y (by have := (hms y hy).2.2; have := O1.next; show y < z1.next; omega) hy)⟩ (fun b _ hb => .inl (.inr hb))
  have sl := O3.slv' (yOW dt1) (fun a e => by cases e; rintro (g | g); have g : b = σ.next + 3 := g; omega; exact hbm g)
  rw [e1, ← yWL, hsz] at sl
  rw [hlA]
  exact zRG l1 c1 l3 st k1 (o2.ld (k := 0) rfl yNO rfl) ⟨N, some ⟨b, 0, s⟩, co, rfl, sl, fun x hx => by obtain ⟨a, e, rfl⟩ := hx; cases e; show σ.next ≤ b; omega⟩
end
end Go.Proofs.YtgfiniccfpfplaaGreat
