
import Derived.Test.YtmdopblmkkameaaRN
namespace Go.Proofs.Ytmdopblmkkameaa
open Go Go.Lay
set_option linter.unusedVariables false
set_option linter.unusedSimpArgs false
set_option maxRecDepth 20000
theorem max_ex {P : Nat → Prop} : ∀ (n : Nat), (∃ a, P a) → (∀ a, P a → a ≤ n) → ∃ m, P m ∧ ∀ a, P a → a ≤ m
 | 0, ⟨a, ha⟩, hb => ⟨a, ha, fun b h => by have := hb b h; omega⟩
 | n + 1, h0, hb => by
  by_cases h : P (n + 1)
  ·exact ⟨n + 1, h, hb⟩
  ·exact max_ex n h0 fun a ha => by
    have := hb a ha
    have : a ≠ n + 1 := fun e => h (e ▸ ha)
    omega
theorem cntN_le_n {n : Nat} {P : Nat → Bool} : cntN n P ≤ n := by have := cntN_not (n := n) (P := P); omega
theorem isMax_ex (n : Nat) (E : Nat → Nat → Prop) : ∃ m, IsMax n E m := by
 obtain ⟨m, ⟨nx, bf, h1, h2⟩, h3⟩ := max_ex (P := fun m => ∃ nx bf, Mt n E nx bf ∧ cntN n (hasB bf) = m) n ⟨_, fun _ => -1, fun _ => -1, ⟨fun k _ h => absurd rfl h, fun i _ h => absurd rfl h⟩, rfl⟩ (by
  rintro a ⟨nx, bf, _, rfl⟩; exact cntN_le_n)
 exact ⟨m, ⟨nx, bf, h1, h2⟩, fun nx bf h => h3 _ ⟨nx, bf, h, rfl⟩⟩
theorem IsMax.le_n {n m : Nat} {E : Nat → Nat → Prop} (h : IsMax n E m) : m ≤ n := by
 obtain ⟨nx, bf, _, rfl⟩ := h.at_; exact cntN_le_n
theorem IsMax.congr {n m : Nat} {E F : Nat → Nat → Prop} (h : IsMax n E m) (e : ∀ i k, E i k ↔ F i k) : IsMax n F m := by
 have : E = F := by funext i k; exact propext (e i k)
 rw [← this]; exact h
section
variable {t : Tab} {ws : List Int}
def kdT (t : Tab) (i : Nat) : Int := (tripAt t i).kind
theorem mayI_kd (hv : Valid t) {i k : Nat} (h : mayI t i k = true) : kdT t i = kdT t k := by
 obtain ⟨h1, h2⟩ := mayI_lt h
 have e1 : t.trips[i]? = some t.trips[i] := by simp
 have e2 : t.trips[k]? = some t.trips[k] := by simp
 have := (mayI_st hv h e1 e2).2
 unfold kdT tripAt
 rw [e1, e2]; exact this
theorem mayI_only {ls : List Nat} (hlt : ∀ x ∈ ls, x < t.nt) {i k x y : Nat} (hx : ls[i]? = some x) (hy : ls[k]? = some y) : mayI (onlyT t ls) i k = mayI t x y := by
 have h1 := hlt x (List.mem_of_getElem? hx)
 have h2 := hlt y (List.mem_of_getElem? hy)
 have e1 : t.trips[x]? = some (tripAt t x) := by unfold tripAt; rw [List.getElem?_eq_getElem h1]; rfl
 have e2 : t.trips[y]? = some (tripAt t y) := by unfold tripAt; rw [List.getElem?_eq_getElem h2]; rfl
 have f1 : (onlyT t ls).trips[i]? = some (tripAt t x) := by show (ls.map (tripAt t))[i]? = _; rw [List.getElem?_map, hx]; rfl
 have f2 : (onlyT t ls).trips[k]? = some (tripAt t y) := by show (ls.map (tripAt t))[k]? = _; rw [List.getElem?_map, hy]; rfl
 rw [mayI_eq e1 e2, mayI_eq f1 f2]; rfl
theorem allL_nodup {kind : Int} {n : Nat} : (allL t kind ws n).Nodup := List.nodup_range.filter _
theorem kindB_eq {k : Int} (hk : 0 ≤ k) {i : Nat} (hi : i < t.nt) : kindB t k i = decide (kdT t i = k) := by
 have e1 : t.trips[i]? = some (tripAt t i) := by unfold tripAt; rw [List.getElem?_eq_getElem hi]; rfl
 unfold kindB kdT
 rw [e1, decide_eq_false (by omega)]; rfl
theorem aB_all {i : Nat} : aB t (-1) ws i = ws.all fun w => decide (w ≠ (i : Int)) := by unfold aB kindB; rfl
theorem mem_all {k : Int} (hk : 0 ≤ k) {x : Nat} : x ∈ allL t k ws t.nt ↔ x < t.nt ∧ kdT t x = k ∧ aB t (-1) ws x = true := by
 constructor
 ·intro h
  obtain ⟨h1, h2⟩ := allL_lt h
  unfold aB at h2
  rw [kindB_eq hk h1] at h2
  simp only [Bool.and_eq_true, decide_eq_true_eq] at h2
  exact ⟨h1, h2.1, by rw [aB_all]; exact h2.2⟩
 ·rintro ⟨h1, h2, h3⟩
  rw [aB_all] at h3
  refine List.mem_filter.2 ⟨by simpa using h1, ?_⟩
  unfold aB
  rw [kindB_eq hk h1, h3, decide_eq_true h2]; rfl
theorem names_k (hv : Valid t) {k : Int} (hk : 0 ≤ k) {a b : Nat} (h : IsMax (allL t k ws t.nt).length (EdS (onlyT t (allL t k ws t.nt)) fun _ => true) a) (h2 : IsMax t.nt (fun x y => EdS t (aB t (-1) ws) x y ∧ kdT t x = k) b) : a = b := by
 refine IsMax.names allL_nodup (fun x hx => (allL_lt hx).1) h h2 (fun i j x y hx hy => ?_) (fun x y hxy => ?_)
 ·have e := mayI_only (t := t) (fun x hx => (allL_lt hx).1) hx hy
  have m1 := (mem_all hk).1 (List.mem_of_getElem? hx)
  have m2 := (mem_all hk).1 (List.mem_of_getElem? hy)
  unfold EdS
  rw [e]
  exact ⟨fun q => ⟨⟨q.1, m1.2.2, m2.2.2⟩, m1.2.1⟩, fun q => ⟨q.1.1, rfl, rfl⟩⟩
 ·obtain ⟨⟨q1, q2, q3⟩, q4⟩ := hxy
  obtain ⟨l1, l2⟩ := mayI_lt q1
  exact ⟨(mem_all hk).2 ⟨l1, q4, q2⟩, (mem_all hk).2 ⟨l2, by rw [← mayI_kd hv q1]; exact q4, q3⟩⟩
theorem kd_range (hv : Valid t) {i : Nat} (hi : i < t.nt) : 0 ≤ kdT t i ∧ kdT t i ≤ 2 := by
 have e1 : t.trips[i]? = some (tripAt t i) := by unfold tripAt; rw [List.getElem?_eq_getElem hi]; rfl
 have := hv.trip e1
 unfold kdT; omega
theorem kinds_sum (hv : Valid t) {m : Nat} {f0 f1 f2 : Int} (hm : IsMax t.nt (EdS t (aB t (-1) ws)) m) (h0 : Fw t ws t.nt 0 f0) (h1 : Fw t ws t.nt 1 f1) (h2 : Fw t ws t.nt 2 f2) :
  (((allL t (-1) ws t.nt).length - m : Nat) : Int) = f0 + f1 + f2 := by
 obtain ⟨m0, i0, rfl⟩ := h0
 obtain ⟨m1, i1, rfl⟩ := h1
 obtain ⟨m2, i2, rfl⟩ := h2
 have l0 := i0.le_n; have l1 := i1.le_n; have l2 := i2.le_n
 obtain ⟨b0, B0⟩ := isMax_ex t.nt (fun x y => EdS t (aB t (-1) ws) x y ∧ kdT t x = 0)
 obtain ⟨b1, B1⟩ := isMax_ex t.nt (fun x y => EdS t (aB t (-1) ws) x y ∧ kdT t x = 1)
 obtain ⟨b2, B2⟩ := isMax_ex t.nt (fun x y => EdS t (aB t (-1) ws) x y ∧ kdT t x = 2)
 obtain ⟨c, C⟩ := isMax_ex t.nt (fun x y => EdS t (aB t (-1) ws) x y ∧ decide (kdT t x = 0) = false)
 have e0 := names_k hv (by omega) i0 B0
 have e1 := names_k hv (by omega) i1 B1
 have e2 := names_k hv (by omega) i2 B2
 have s1 := IsMax.split (Q := fun x => decide (kdT t x = 0)) (fun i k h => by show decide _ = decide _; rw [mayI_kd hv h.1]) hm (B0.congr fun i k => by simp) C
 have s2 := IsMax.split (Q := fun x => decide (kdT t x = 1)) (fun i k h => by show decide _ = decide _; rw [mayI_kd hv h.1.1]) C (b := b1) (c := b2) (B1.congr fun i k => by
   constructor
   ·rintro ⟨q1, q2⟩; exact ⟨⟨q1, by simp [q2]⟩, by simp [q2]⟩
   ·rintro ⟨⟨q1, _⟩, q2⟩; exact ⟨q1, by simpa using q2⟩) (B2.congr fun i k => by
   constructor
   ·rintro ⟨q1, q2⟩; exact ⟨⟨q1, by simp [q2]⟩, by simp [q2]⟩
   ·rintro ⟨⟨q1, q2⟩, q3⟩
    have := kd_range hv (mayI_lt q1.1).1
    simp at q2 q3
    exact ⟨q1, by omega⟩)
 have n_at : ∀ k : Int, 0 ≤ k → (allL t k ws t.nt).length = cntN t.nt (fun i => aB t (-1) ws i && decide (kdT t i = k)) := by
  intro k hk
  unfold allL
  rw [cntN_filter]
  refine cntN_congr fun i hi => ?_
  rw [aB_all]
  unfold aB
  rw [kindB_eq hk hi, Bool.and_comm]
 have n_all : (allL t (-1) ws t.nt).length = cntN t.nt (aB t (-1) ws) := by unfold allL; exact cntN_filter
 have t1 := cntN_split (n := t.nt) (P := aB t (-1) ws) (Q := fun i => decide (kdT t i = 0))
 have t2 := cntN_split (n := t.nt) (P := fun i => aB t (-1) ws i && !decide (kdT t i = 0)) (Q := fun i => decide (kdT t i = 1))
 have t3 : cntN t.nt (fun i => (aB t (-1) ws i && !decide (kdT t i = 0)) && decide (kdT t i = 1)) = cntN t.nt (fun i => aB t (-1) ws i && decide (kdT t i = 1)) := cntN_congr fun i hi => by
  by_cases e : kdT t i = 1 <;> simp [e]
 have t4 : cntN t.nt (fun i => (aB t (-1) ws i && !decide (kdT t i = 0)) && !decide (kdT t i = 1)) = cntN t.nt (fun i => aB t (-1) ws i && decide (kdT t i = 2)) := cntN_congr fun i hi => by
  have := kd_range hv hi
  have h3 : kdT t i = 0 ∨ kdT t i = 1 ∨ kdT t i = 2 := by omega
  rcases h3 with e | e | e <;> simp [e]
 have a0 : (allL t ((0 : Nat) : Int) ws t.nt).length = cntN t.nt (fun i => aB t (-1) ws i && decide (kdT t i = 0)) := n_at 0 (by omega)
 have a1 : (allL t ((1 : Nat) : Int) ws t.nt).length = cntN t.nt (fun i => aB t (-1) ws i && decide (kdT t i = 1)) := n_at 1 (by omega)
 have a2 : (allL t ((2 : Nat) : Int) ws t.nt).length = cntN t.nt (fun i => aB t (-1) ws i && decide (kdT t i = 2)) := n_at 2 (by omega)
 omega
end
section
variable {σ : St} {t : Tab} {pe pt : Option Addr} {le ce lt ct : Nat}
theorem aB_nil {i : Nat} : aB t (-1) [] i = true := rfl
theorem allL_nil {n : Nat} : (allL t (-1) [] n).length = n := by
 have e : allL t (-1) [] n = List.range n := List.filter_eq_self.2 (fun a _ => aB_nil)
 rw [e, List.length_range]
theorem ints_none : IntsP σ none 0 [] := ⟨SlP.nil _ _, rfl, by simp⟩
theorem lKinds_top (h : RefP σ pe le pt lt t) : TopQ Try.prog 17 8 [.agg ⟨tabL t pe le ce pt lt ct⟩] σ fun v _ => v = .bool true := by
 obtain ⟨σ1, hσ1⟩ : ∃ σ1, σ1 = σ.row (tabL t pe le ce pt lt ct) 4 := ⟨_, rfl⟩
 have n1 : New σ σ1 := by rw [hσ1]; exact New.row _ _ _
 have o1 : Own σ1 σ.next (tabL t pe le ce pt lt ct) 4 := by rw [hσ1]; exact own_new _ _ _
 have R1 := h.le' n1.le
 have hnt : t.nt = lt := h.len
 rcases lready_c (ce := ce) (ct := ct) R1 with c0 | ⟨hth, hv, c0⟩
 ·exact lKinds_re (by rw [← hσ1]; exact c0) rfl
 have bE : ∀ r ∈ t.empty, r.length ≤ 1073741824 := fun r hr => by have := hth.r r hr; omega
 have bl := hth.e
 have bn := hth.n
 obtain ⟨p6, c6, q6, d6, σ6, k2, n6, g6⟩ := table_c (ce := ce) (ct := ct) R1 (by omega) (by omega) bE
 obtain ⟨p9, l9, c9, e9, σ9, k3, n9, hC⟩ := Cut_c (ce := c6) (ct := d6) g6 (by omega) (by omega) bE
 rcases hC with ⟨hne, _⟩ | ⟨_, rfl, nx, bf, B, rfl, _⟩
 ·exact absurd hv.check hne
 have M9 := n6.trans n9
 have ld : loadA Try.prog σ9 25 ⟨σ.next, 0, none⟩ = some (.agg ⟨tabL t pe le ce pt lt ct⟩) := (o1.le M9.le).ldN agg25 size25 (k := 0) rfl rfl (by simp)
 obtain ⟨f, k5, hf⟩ := fewest_c (ce := ce) (ct := ct) (cw := 0) (R1.le' M9.le) hv ints_none (by omega)
 have hm := B.isMax (fun i k _ _ _ => rfl)
 have hsum := kinds_sum (ws := []) hv (m := cntN lt (hasB bf)) (by rw [hnt]; exact hm.congr fun i k => by unfold EdS; simp [aB_nil]) (by rw [hnt]; exact hf 0 (by omega)) (by rw [hnt]; exact hf 1 (by omega)) (by rw [hnt]; exact hf 2 (by omega))
 rw [hnt, allL_nil] at hsum
 have bnd : ∀ k, k < 3 → 0 ≤ f k ∧ f k ≤ lt := fun k hk => by
  obtain ⟨m, _, e⟩ := hf k hk
  have := allL_len (t := t) (kind := (k : Int)) (ws := []) (n := lt)
  omega
 have b0 := bnd 0 (by omega); have b1 := bnd 1 (by omega); have b2 := bnd 2 (by omega)
 rw [hσ1] at c0 k2
 exact lKinds_ra c0 k2 k3 ld k5 rfl rfl (by omega) (by omega) hsum
end
end Go.Proofs.Ytmdopblmkkameaa
