
import Derived.Test.YthcdddbghldmiaaCM
import Derived.Test.YthcdddbghldmiaaCC
import Derived.Test.YthcdddbghldmiaaPA
import Derived.Test.YthcdddbghldmiaaXE
namespace Go.Proofs.Ythcdddbghldmiaa
open Go Go.Lay
set_option linter.unusedVariables false
set_option linter.unusedSimpArgs false
set_option maxRecDepth 20000
theorem flat_ints (xs : List Int) : flat (xs.map intV) = xs.map intV := by
 induction xs with
 | nil => rfl
 | cons x xs ih => rw [List.map_cons]; show [intV x] ++ flat (xs.map intV) = _; rw [ih]; rfl
section
variable {σ τ : St} {w : Nat} {g : Gar} {W : Wk} {p q pp : Option Addr} {c d cp : Nat} {B : Nat → Nat}
def W0 (g : Gar) : Wk := ⟨List.replicate g.nb (List.replicate g.ns 0), fun _ => 0⟩
theorem cell_W0 {i s : Nat} : cell (W0 g).plan i s = 0 := by
 unfold cell W0
 simp only [List.getD_eq_getElem?_getD, List.getElem?_replicate]
 split
 ·simp only [Option.getD_some, List.getElem?_replicate]; split <;> rfl
 ·simp
theorem good_W0 (hv : Valid g) : Good g (W0 g) := by
 have hF : Feas g (W0 g) := by
  refine ⟨by simp [W0], fun r hr => by rw [List.eq_of_mem_replicate hr]; simp, fun i b hb s hs => ?_, fun s hs => ?_, fun s hs => ?_, fun _ _ => rfl⟩
  ·rw [cell_W0]; exact ⟨Int.le_refl _, (busB_iff (hv.b hb)).2.2.2.1, fun h => by omega⟩
  ·rw [sumN_zero (fun i _ => cell_W0)]; rfl
  ·exact (hv.pw s).1
 refine ⟨hF, fun v => match v with | .bus _ => 0 | .slot _ => 0 | .grid => 0, fun x hx => ?_, fun v _ => by cases v <;> simp⟩
 have hx := mem_ways.1 hx
 cases hx with
 | up hb hs ht hr => simp; exact (hv.pr _).1
 | down hb hs ht hr => rw [cell_W0] at hr; omega
 | out hs hr => simp
 | back hs hr => simp
theorem begin_c (hg : GarP σ p g.ns q g.nb g) (hv : Valid g) : ∃ w pp cp B σ', CallsA Try.prog 79 [.agg ⟨garL p g.ns c q g.nb d⟩] σ (.pointer (some ⟨w, 0, none⟩)) σ' ∧ New σ σ' ∧ WkAt σ' w g (W0 g) p c q d pp cp B ∧ σ.next ≤ w ∧ ∀ i, i < g.nb → σ.next ≤ B i := by
  have hns := hv.ns; have hnb := hv.nb
  obtain ⟨n0, hn0⟩ : ∃ n0, n0 = σ.re.next := ⟨_, rfl⟩
  have hn0' : n0 = σ.next := hn0
  have N1 : New σ.re (σ.re.row (garL p g.ns c q g.nb d) 2) := New.row _ _ _
  obtain ⟨τ0, hτ0⟩ : ∃ τ0, τ0 = (σ.re.row (garL p g.ns c q g.nb d) 2).row [.slice p g.ns c, .slice q g.nb d, .slice none 0 0, iV 0, iV 0, iV 0, iV 0, iV 0, iV 0, iV 0, iV 0, iV 0, iV 0, iV 0, iV 0] 15 := ⟨_, rfl⟩
  have N2 : New σ.re τ0 := by rw [hτ0]; exact N1.row'
  have hτn : τ0.next = n0 + 2 := by rw [hτ0, hn0]; simp
  have oA : Own τ0 n0 (garL p g.ns c q g.nb d) 2 := by rw [hτ0, hn0]; exact (own_new _ _ _).row
  have oW : Own τ0 (n0 + 1) (.slice p g.ns c :: .slice q g.nb d :: .slice none 0 0 :: vecL 12 (fun _ => 0)) 15 := by rw [hτ0, hn0]; exact own_new _ _ _
  let FJ : Nat → St → Prop := fun j τ => New σ.re τ ∧ Own τ n0 (garL p g.ns c q g.nb d) 2 ∧ ∃ (B : Nat → Nat) (po : Option Addr) (lo co : Nat), Own τ (n0 + 1) (.slice p g.ns c :: .slice q g.nb d :: .slice po lo co :: vecL 12 (fun _ => 0)) 15 ∧
    Gr Try.prog τ (n0 + 2) 59 1 po lo co ((List.range j).map fun i => .slice (some ⟨B i, 0, none⟩) g.ns g.ns) ∧ (∀ i, i < j → n0 + 2 ≤ B i ∧ Own τ (B i) (vecL g.ns fun _ => 0) 1 ∧ ¬ AtP po (B i)) ∧ ∀ i i', i < j → i' < j → B i = B i' → i = i'
  suffices key : RunsQ Try.prog 79 [.agg ⟨garL p g.ns c q g.nb d⟩] σ.re fun v s => New σ.re s ∧ ∃ w pp cp B, v = .pointer (some ⟨w, 0, none⟩) ∧ WkAt s w g (W0 g) p c q d pp cp B ∧ σ.next ≤ w ∧ ∀ i, i < g.nb → σ.next ≤ B i by
    obtain ⟨v, s, h1, h2, w, pp, cp, B, rfl, h3, h4, h5⟩ := RunsQ.new (Q := fun v s => ∃ w pp cp B, v = .pointer (some ⟨w, 0, none⟩) ∧ WkAt s w g (W0 g) p c q d pp cp B ∧ σ.next ≤ w ∧ ∀ i, i < g.nb → σ.next ≤ B i) key
      (by rintro v s s' ⟨w, pp, cp, B, rfl, h3, h4⟩ hle; exact ⟨w, pp, cp, B, rfl, h3.le hle, h4⟩) (by rintro v s hr ⟨w, pp, cp, B, rfl, h3, h4⟩; exact Bool.noConfusion (show false = true from hr))
    exact ⟨w, pp, cp, B, s, h1, h2, h3, h4, h5⟩
  refine begin__ra (P0 := FJ g.nb) ?_ ?_
  rotate_left
  · rintro τ ⟨f1, f2, B, po, lo, co, f3, f4, f5, f6⟩
    have hlo : lo = g.nb := by have := f4.len_eq; simpa using this.symm
    subst hlo
    rw [show σ.re.next = n0 from hn0.symm]
    have hfp : ∀ b, AtP po b → n0 + 2 ≤ b := fun b hb => (f4.bd hb).1
    have gs := hg.sl; have gb := hg.bu
    have hpl : ∀ b, AtP p b → b < n0 := by rintro b ⟨a, rfl, rfl⟩; rw [hn0']; exact slv_lt gs _ rfl
    have hql : ∀ b, AtP q b → b < n0 := by rintro b ⟨a, rfl, rfl⟩; rw [hn0']; exact slv_lt gb _ rfl
    refine begin__t1x0a ⟨f1, n0 + 1, po, co, B, rfl, ⟨f3, hg.le ((le0 σ).trans f1.le), f4.slv, fun i hi => ?_, f6, fun i hi => ?_, ?_⟩, by omega, fun i hi => ?_⟩
    · rw [vecL_congr (Q := fun _ => 0) (fun s _ => cell_W0)]; exact (f5 i hi).2.1
    · have := (f5 i hi).1; omega
    · rintro b (hb | hb | hb)
      · have := hpl b hb; exact ⟨by omega, fun i hi => by have := (f5 i hi).1; omega⟩
      · have := hql b hb; exact ⟨by omega, fun i hi => by have := (f5 i hi).1; omega⟩
      · have := hfp b hb; exact ⟨by omega, fun i hi e => (f5 i hi).2.2 (e ▸ hb)⟩
    · have := (f5 i hi).1; omega
  show begin__L1 σ.re.next (σ.re.next + 1) g.nb 0 _ _
  rw [show σ.re.next = n0 from hn0.symm]
  refine begin__loop1 (Inv := fun k i τ => ∃ j : Nat, i = j ∧ j + k = g.nb ∧ FJ j τ) ?_ g.nb 0 _ ⟨0, rfl, by omega, ?_⟩
  rotate_left
  · have hf : FJ 0 τ0 := ⟨N2, oA, fun _ => 0, none, 0, 0, oW, Gr.nil, fun i hi => by omega, fun i i' hi => by omega⟩
    rw [hτ0] at hf; exact hf
  rintro k i τ ⟨j, rfl, hk, f1, f2, B, po, lo, co, f3, f4, f5, f6⟩
  have hlo : lo = j := by have := f4.len_eq; simpa using this.symm
  subst hlo
  by_cases hj : lo < g.nb
  rotate_left
  · have : lo = g.nb := by omega
    subst this
    exact begin__s1b ⟨f1, f2, B, po, g.nb, co, f3, f4, f5, f6⟩
  have hn1 : n0 + 2 ≤ τ.next := by have := f3.lt; omega
  have mk := make_sl (P := Try.prog) (σ := τ) (st := 59) (e := 3) (z := iV 0) (n := 1) (by kernel_rfl) (by kernel_rfl) (len := g.ns) (by omega)
  obtain ⟨τ1, hτ1⟩ : ∃ τ1, τ1 = τ.row (zerosA (Value.int .i64 0).cells.toList g.ns) 1 := ⟨_, rfl⟩
  have hz : zerosA (Value.int .i64 0).cells.toList g.ns = vecL g.ns fun _ => 0 := zeros_vec _
  have n1 : New τ τ1 := by rw [hτ1]; exact New.row _ _ _
  have hnx : τ1.next = τ.next + 1 := by rw [hτ1]; simp
  rw [← hτ1] at mk
  have oR : Own τ1 τ.next (vecL g.ns fun _ => 0) 1 := by rw [hτ1, hz]; exact own_new _ _ _
  obtain ⟨p', c', τ3, g1, g2, g4, g5⟩ := grow1 (n0 := n0 + 2) (σ := τ) (τ := τ1) (.slice (some ⟨τ.next, 0, none⟩) g.ns g.ns) appT_rows f4 n1.le (.inl ⟨agg59, rfl, rfl⟩) (by omega) hn1
  have hpo : ∀ b, AtP po b → n0 + 2 ≤ b ∧ b < τ.next := fun b hb => f4.bd hb
  have f31 := (f3.le n1.le).row (ds := [.slice (some ⟨τ.next, 0, none⟩) g.ns g.ns]) (m := 1)
  have f33 := g4.own' f31 (fun hb => by have := (hpo _ hb).1; omega)
  have oR3 := g4.own' (oR.row (ds := [.slice (some ⟨τ.next, 0, none⟩) g.ns g.ns]) (m := 1)) (fun hb => by have := (hpo _ hb).2; omega)
  have st := f33.store (P := Try.prog) (k := 2) (t := 28) (v := .slice p' (lo + 1) c') (vs := [.slice p' (lo + 1) c']) (ds := .slice p g.ns c :: .slice q g.nb d :: .slice p' (lo + 1) c' :: vecL 12 (fun _ => 0)) rfl size28 rfl (by simp [vecL_len]) rfl
  have l1 : loadA Try.prog τ 28 ⟨n0 + 1, 2, none⟩ = some (.slice po lo co) := f3.ld rfl agg28 (k := 2) rfl
  have l2 : loadA Try.prog τ1 28 ⟨n0 + 1, 2, none⟩ = some (.slice po lo co) := (f3.le n1.le).ld rfl agg28 (k := 2) rfl
  have l3 : loadA Try.prog (τ1.row [.slice (some ⟨τ.next, 0, none⟩) g.ns g.ns] 1) 28 ⟨n0 + 1, 2, none⟩ = some (.slice po lo co) := f31.ld rfl agg28 (k := 2) rfl
  have b1 := f3.lt; have b2 := f2.lt; have b3 := f33.lt; have b4 := oR3.lt; have b5 := f31.lt
  have hn3 : τ1.next ≤ τ3.next := by have := g4.next; simp at this; omega
  refine begin__s1a l1 (f2.ld rfl agg32 (k := 0) rfl) mk g1 st
    (belowL_cons (belowB_sl1 (by show τ.next < τ1.next; omega)) belowL_nil) (belowL_cons (belowB_sl (fun a e => by have := (hpo a.block ⟨a, e, rfl⟩).2; simp; omega)) (belowL_cons (belowB_sl1 (by simp)) belowL_nil))
    (belowL_cons (belowB_ptr (by show n0 + 1 < τ3.next; omega)) (belowL_cons (belowB_sl (fun a e => (g2.bd ⟨a, e, rfl⟩).2)) belowL_nil))
    ⟨⟨by show n0 + 1 < τ1.next; omega, rfl⟩, l2⟩ ⟨⟨by show n0 + 1 < _; exact b5, rfl⟩, l3⟩ (fun a e => by subst e; have := slv_lt hg.sl a rfl; have := f1.nx; show _ < τ.next; have : σ.re.next = σ.next := rfl; omega) ?_
  refine ⟨k - 1, by omega, lo + 1, by omega, by omega, ?_, ?_, fun i => if i = lo then τ.next else B i, p', lo + 1, c', f33.put, ?_, ?_, ?_⟩
  · have h1 : New σ.re (τ1.row [.slice (some ⟨τ.next, 0, none⟩) g.ns g.ns] 1) := (f1.trans n1).row'
    exact (h1.of_only g4 (fun b hb => by have := (hpo b hb).1; have : σ.re.next = n0 := hn0.symm; omega)).own (by rw [show σ.re.next = n0 from hn0.symm]; omega)
  · exact (Only.own (S := (· = n0 + 1)) (.inr rfl)).own' (g4.own' ((f2.le n1.le).row) (fun hb => by have := (hpo _ hb).1; omega)) (by omega)
  · have e1 : ((List.range (lo + 1)).map fun i => Value.slice (some ⟨if i = lo then τ.next else B i, 0, none⟩) g.ns g.ns) = ((List.range lo).map fun i => Value.slice (some ⟨B i, 0, none⟩) g.ns g.ns) ++ [.slice (some ⟨τ.next, 0, none⟩) g.ns g.ns] := by
      rw [List.range_succ, List.map_append]
      congr 1
      · apply List.map_congr_left
        intro i hi
        rw [if_neg (by have := List.mem_range.1 hi; omega)]
      · simp
    rw [e1]
    exact g2.only (S := (· = n0 + 1)) (Only.own (.inr rfl)) (fun b hb e => by have := (g2.bd hb).1; omega)
  · intro i hi
    by_cases e : i = lo
    · subst e
      simp only [if_true]
      refine ⟨by omega, (Only.own (S := (· = n0 + 1)) (.inr rfl)).own' oR3 (by omega), fun hb => ?_⟩
      rcases g5 _ hb with h | h
      · have := (hpo _ h).2; omega
      · omega
    · simp only [if_neg e]
      obtain ⟨h1, h2, h3⟩ := f5 i (by omega)
      have h4 := h2.lt
      refine ⟨h1, (Only.own (S := (· = n0 + 1)) (.inr rfl)).own' (g4.own' ((h2.le n1.le).row) h3) (by omega), fun hb => ?_⟩
      rcases g5 _ hb with h | h
      · exact h3 h
      · omega
  · intro i i' hi hi' e
    by_cases e1 : i = lo <;> by_cases e2 : i' = lo <;> simp only [e1, e2, if_true, if_false] at e
    · omega
    · have := (f5 i' (by omega)).2.1.lt; omega
    · have := (f5 i (by omega)).2.1.lt; omega
    · exact f6 i i' (by omega) (by omega) e
end
end Go.Proofs.Ythcdddbghldmiaa
