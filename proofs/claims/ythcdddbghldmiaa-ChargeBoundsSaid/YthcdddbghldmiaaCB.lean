
import Derived.Test.YthcdddbghldmiaaCA
import Derived.Test.YthcdddbghldmiaaXB
namespace Go.Proofs.Ythcdddbghldmiaa
open Go Go.Lay
open Try renaming prog → Pg
set_option linter.unusedVariables false
set_option linter.unusedSimpArgs false
set_option maxRecDepth 20000
theorem appT_ints : AppT Pg 59 59 3 1 := appT_of (by kernel_rfl)
theorem appT_rows : AppT Pg 28 28 59 1 := appT_of (by kernel_rfl)
theorem appT_slots : AppT Pg 32 32 94 2 := appT_of (by kernel_rfl)
theorem appT_buses : AppT Pg 33 33 97 9 := appT_of (by kernel_rfl)
theorem elOk_int (x : Int) : elOk Pg 3 1 (intV x) := .inl ⟨agg3, rfl, rfl⟩
theorem elOk_slot (s : Slot) : elOk Pg 94 2 (slotV s) := .inr ⟨agg94, size94, _, rfl, rfl⟩
theorem elOk_bus (b : Bus) : elOk Pg 97 9 (busV b) := .inr ⟨agg97, size97, _, rfl, rfl⟩
abbrev IntsP (σ : St) (p : Option Addr) (l : Nat) (xs : List Int) : Prop := SlV Pg σ 3 1 p l (xs.map intV)
theorem IntsP.len {σ : St} {p : Option Addr} {l : Nat} {xs : List Int} (h : IntsP σ p l xs) : xs.length = l := by have := h.2.1; simpa using this
section
variable {σ : St}
theorem list_c {p : Option Addr} {l c : Nat} {xs : List Int} (h : IntsP σ p l xs) (hl : l ≤ 1073741824) :
  ∃ p' c' σ', CallsA Pg 40 [.slice p l c] σ (.slice p' l c') σ' ∧ New σ σ' ∧ IntsP σ' p' l xs ∧ ∀ b, AtP p' b → σ.next ≤ b := by
 have hc : (flat (xs.map intV)).all cellB = true := by rw [flat_ints xs .i64]; simp [List.all_eq_true]; intro a _; rfl
 obtain ⟨p', c', σ', h1, h2, h3⟩ := append_copy (k := c) appT_ints h.re.1 hl hc
 exact RunsQ.newSl (list_ra h1 ⟨New.of_keep h3, p', c', rfl, h2.slv (by simpa using h.2.1) h.2.2, fun b hb => by obtain ⟨a, e, rfl⟩ := hb; exact h2.ge a e⟩)
structure RefP (σ : St) (p : Option Addr) (l : Nat) (q : Option Addr) (m : Nat) (g : Gar) : Prop where
 sl : SlV Pg σ 47 2 p l (g.slots.map slotV)
 bu : SlV Pg σ 52 9 q m (g.buses.map busV)
theorem RefP.le {σ' : St} {p q : Option Addr} {l m : Nat} {g : Gar} (h : RefP σ p l q m g) (k : Le σ σ') : RefP σ' p l q m g := ⟨h.sl.le k, h.bu.le k⟩
theorem RefP.len1 {p q : Option Addr} {l m : Nat} {g : Gar} (h : RefP σ p l q m g) : g.slots.length = l := by have := h.sl.2.1; simpa using this
theorem RefP.len2 {p q : Option Addr} {l m : Nat} {g : Gar} (h : RefP σ p l q m g) : g.buses.length = m := by have := h.bu.2.1; simpa using this
theorem RefP.lt1 {p q : Option Addr} {l m : Nat} {g : Gar} (h : RefP σ p l q m g) : ∀ a, p = some a → a.block < σ.next := slv_lt h.sl
theorem RefP.lt2 {p q : Option Addr} {l m : Nat} {g : Gar} (h : RefP σ p l q m g) : ∀ a, q = some a → a.block < σ.next := slv_lt h.bu
theorem pw_at {p : Option Addr} {l i : Nat} {t : TypeId} {xs : List Slot} (h : SlV Pg σ t 2 p l (xs.map slotV)) (hi : i < l) : ∃ a, p = some a ∧ ∃ x, xs[i]? = some x ∧ loadA Pg σ 3 (aadd a (Int.toNat (i : Int) * 2 + 0)) = some (iV x.pw) ∧ loadA Pg σ 3 (aadd a (Int.toNat (i : Int) * 2 + 1)) = some (iV x.pr) := by
 obtain ⟨a, rfl, _⟩ := h.some hi
 have hl : i < xs.length := by have := h.2.1; simp at this; omega
 have hx : (xs.map slotV)[i]? = some (slotV xs[i]) := by simp [hl]
 exact ⟨a, rfl, xs[i], by simp, slv_fld h hx rfl agg3, slv_fld h hx rfl agg3⟩
theorem garage_c {p q : Option Addr} {l c m d : Nat} {g : Gar} (h : RefP σ p l q m g) (hl : l ≤ 1073741823) (hm : m ≤ 1073741823) :
  ∃ p' c' q' d' σ', CallsA Pg 19 [.agg ⟨garL p l c q m d⟩] σ (.agg ⟨garL p' l c' q' m d'⟩) σ' ∧ New σ σ' ∧ GarP σ' p' l q' m g := by
 have hl1 := h.len1; have hl2 := h.len2
 obtain ⟨B, hB⟩ : ∃ B, B = σ.re.next := ⟨_, rfl⟩
 have o1 : Own (((σ.re.row (garL p l c q m d) 2).row [.slice none 0 0, .slice none 0 0] 2).row [.slice none 0 0, .slice none 0 0] 2) B (garL p l c q m d) 2 := by subst hB; exact (own_new σ.re _ _).row.row
 have o2 : Own (((σ.re.row (garL p l c q m d) 2).row [.slice none 0 0, .slice none 0 0] 2).row [.slice none 0 0, .slice none 0 0] 2) (B + 1) [.slice none 0 0, .slice none 0 0] 2 := by subst hB; exact (own_new (σ.re.row (garL p l c q m d) 2) _ _).row
 have o3 : Own (((σ.re.row (garL p l c q m d) 2).row [.slice none 0 0, .slice none 0 0] 2).row [.slice none 0 0, .slice none 0 0] 2) (B + 2) [.slice none 0 0, .slice none 0 0] 2 := by subst hB; exact own_new ((σ.re.row (garL p l c q m d) 2).row _ _) _ _
 generalize hτ0 : (((σ.re.row (garL p l c q m d) 2).row [.slice none 0 0, .slice none 0 0] 2).row [.slice none 0 0, .slice none 0 0] 2) = τ0 at o1 o2 o3
 have hN0 : New σ.re τ0 := by subst hτ0; exact ((New.row _ _ _).row').row'
 have hn0 : τ0.next = B + 3 := by subst hτ0 hB; rfl
 have hR0 : RefP τ0 p l q m g := h.le ((le0 σ).trans hN0.le)
 have hσB : σ.re.next = B := hB.symm
 have key : RunsQ Pg 19 [.agg ⟨garL p l c q m d⟩] σ.re fun v s => New σ.re s ∧ ∃ p' c' q' d', v = .agg ⟨garL p' l c' q' m d'⟩ ∧ GarP s p' l q' m g := by
  refine garage_ra (P0 := fun τ => New σ.re τ ∧ ∃ ps cs, RefP τ p l q m g ∧ Own τ B (garL p l c q m d) 2 ∧ Own τ (B + 1) [.slice none 0 0, .slice none 0 0] 2 ∧ Own τ (B + 2) [.slice ps l cs, .slice none 0 0] 2 ∧ SlV Pg τ 94 2 ps l (g.slots.map slotV) ∧ (∀ b, AtP ps b → B + 3 ≤ b ∧ b < τ.next)) ?_ ?_
  ·rw [hτ0]
   have := garage_loop1 (BA := B) (BB := B + 1) (BC := B + 2) (Inv := fun k i4 τ => New σ.re τ ∧ ∃ i : Nat, i4 = i ∧ i + k = l ∧ ∃ ps cs, RefP τ p l q m g ∧ Own τ B (garL p l c q m d) 2 ∧ Own τ (B + 1) [.slice none 0 0, .slice none 0 0] 2 ∧ Own τ (B + 2) [.slice ps i cs, .slice none 0 0] 2 ∧ Gr Pg τ (B + 3) 94 2 ps i cs ((g.slots.take i).map slotV) ∧ B + 3 ≤ τ.next)
    (Q0 := fun τ => New σ.re τ ∧ ∃ ps cs, RefP τ p l q m g ∧ Own τ B (garL p l c q m d) 2 ∧ Own τ (B + 1) [.slice none 0 0, .slice none 0 0] 2 ∧ Own τ (B + 2) [.slice ps l cs, .slice none 0 0] 2 ∧ SlV Pg τ 94 2 ps l (g.slots.map slotV) ∧ (∀ b, AtP ps b → B + 3 ≤ b ∧ b < τ.next)) ?_ l 0 τ0
    ⟨hN0, 0, rfl, by omega, none, 0, hR0, o1, o2, o3, by simpa using Gr.nil, by omega⟩
   ·subst hB; exact this
   rintro k i4 τ ⟨hN, i, rfl, hk, ps, cs, hR, w1, w2, w3, hg, hnx⟩
   by_cases hi : i < l
   ·obtain ⟨a, rfl, x, hx, ld1, ld2⟩ := pw_at hR.sl hi
    obtain ⟨p4, c4, τ2, g1, g2, g3, g4⟩ := grow1 (slotV x) appT_slots hg (Le.refl τ) (elOk_slot x) (by omega) hnx
    have hS : ∀ b, AtP ps b → B + 3 ≤ b := fun b hb => (hg.bd hb).1
    have hlt := hR.lt1 a rfl; have hw1 := w1.lt; have hw3 := w3.lt
    have hO : Only (AtP ps) τ τ2 := (Only.row τ _ _).trans g3 (fun _ _ x => x) (by intro m' h1 h2 b h3 h4; have := hg.bd h4; exact h2 b this.2 h4)
    have v1 := hO.own' w1 (fun x => by have := hS _ x; omega)
    have v2 := hO.own' w2 (fun x => by have := hS _ x; omega)
    have v3 := hO.own' w3 (fun x => by have := hS _ x; omega)
    have e5 : ∀ b, AtP p4 b → B + 3 ≤ b := fun b hb => (g2.bd hb).1
    have hN2 : New σ.re (τ2.own (B + 2) [.slice p4 (i + 1) c4, .slice none 0 0] 2) := (hN.of_only hO (fun b hb => by have := hS b hb; omega)).own (by omega)
    have hO2 : Only (fun b => AtP ps b ∨ b = B + 2) τ (τ2.own (B + 2) [.slice p4 (i + 1) c4, .slice none 0 0] 2) := (hO.mono (fun _ _ x => .inl x)).trans' (Only.own (.inr rfl)) (by rintro b _ rfl; exact .inl (.inr rfl))
    have hn2 : τ.next ≤ τ2.next := hO.next
    refine garage_s1a (w1.ld rfl agg22 (k := 0) rfl) (w3.ld rfl agg32 (k := 0) rfl) ld1 ld2 g1 (v3.store (vs := [.slice p4 (i + 1) c4]) (ds := [.slice p4 (i + 1) c4, .slice none 0 0]) rfl size32 rfl (by simp) rfl)
     (belowL_cons (belowB_ptr v3.lt) (belowL_cons (belowB_sl (fun a e => by subst e; exact (g2.bd ⟨a, rfl, rfl⟩).2)) belowL_nil)) (w3.row.ld rfl agg32 (k := 0) rfl) (fun a e => by subst e; exact (hg.bd ⟨a, rfl, rfl⟩).2)
     ⟨k - 1, by omega, hN2, i + 1, by omega, by omega, p4, c4, ?_, v1.own (by omega), v2.own (by omega), v3.put, ?_, by simp; omega⟩
    ·exact h.le ((le0 σ).trans hN2.le)
    ·rw [take_snoc hx, List.map_append]
     exact g2.only (S := (· = B + 2)) (Only.own (.inr rfl)) (by rintro b hb rfl; have := e5 _ hb; omega)
   ·have : i = l := by omega
    subst this
    rw [List.take_of_length_le (by omega)] at hg
    exact garage_s1b (w1.ld rfl agg22 (k := 0) rfl) ⟨hN, ps, cs, hR, w1, w2, w3, hg.slv, fun b hb => hg.bd hb⟩
  ·rintro τ1 ⟨hN1, ps, cs, hR1, x1, x2, x3, hs1, hsb⟩
   have hz : σ.re.next = B := hσB
   rw [hz]
   have hB3 : B + 2 < τ1.next := x3.lt
   refine garage_t1x0a (P2 := fun τ => New σ.re τ ∧ ∃ qs ds, Own τ (B + 1) [.slice none 0 0, .slice none 0 0] 2 ∧ Own τ (B + 2) [.slice ps l cs, .slice qs m ds] 2 ∧ SlV Pg τ 94 2 ps l (g.slots.map slotV) ∧ SlV Pg τ 97 9 qs m (g.buses.map busV) ∧ (∀ b, AtP ps b → B + 3 ≤ b) ∧ (∀ b, AtP qs b → B + 3 ≤ b)) (garage_loop2 (Inv := fun k i5 τ => New σ.re τ ∧ ∃ i : Nat, i5 = i ∧ i + k = m ∧ ∃ qs ds, RefP τ p l q m g ∧ Own τ B (garL p l c q m d) 2 ∧ Own τ (B + 1) [.slice none 0 0, .slice none 0 0] 2 ∧ Own τ (B + 2) [.slice ps l cs, .slice qs i ds] 2 ∧
    Gr Pg τ (B + 3) 97 9 qs i ds ((g.buses.take i).map busV) ∧ SlV Pg τ 94 2 ps l (g.slots.map slotV) ∧ (∀ b, AtP ps b → ¬ AtP qs b ∧ b < τ.next)) ?_ m 0 τ1 ⟨hN1, 0, rfl, by omega, none, 0, hR1, x1, x2, x3, by simpa using Gr.nil, hs1, fun b hb => ⟨AtP.none, (hsb b hb).2⟩⟩) ?_
   ·rintro k i5 τ ⟨hN, i, rfl, hk, qs, ds, hR, w1, w2, w3, hg, hs, hd⟩
    have hnx : B + 3 ≤ τ.next := w3.lt
    by_cases hi : i < m
    ·obtain ⟨a, rfl, x, hx, ld⟩ := slv_at hR.bu hi
     have hcp : New τ ((τ.row (ints9 0 0 0 0 0 0 0 0 0) 9).own τ.next (busL x) 9) := (New.row _ _ _).own (Nat.le_refl _)
     have k3 := (w3.row (ds := ints9 0 0 0 0 0 0 0 0 0) (m := 9)).own (ds := busL x) (m := 9) (show B + 2 ≠ τ.next by have := w3.lt; omega)
     obtain ⟨p4, c4, τ2, g1, g2, g3, g4⟩ := grow1 (busV x) (τ := (τ.row (ints9 0 0 0 0 0 0 0 0 0) 9).own τ.next (busL x) 9) appT_buses hg hcp.le (elOk_bus x) (by omega) hnx
     have hS : ∀ b, AtP qs b → B + 3 ≤ b := fun b hb => (hg.bd hb).1
     have hO : Only (AtP qs) τ τ2 := ((hcp.row').only (S := AtP qs)).trans g3 (fun _ _ x => x) (by intro m' h1 h2 b h3 h4; have := hg.bd h4; exact h2 b this.2 h4)
     have v1 := hO.own' w1 (fun x => by have := hS _ x; omega)
     have v2 := hO.own' w2 (fun x => by have := hS _ x; omega)
     have v3 := hO.own' w3 (fun x => by have := hS _ x; omega)
     have e5 : ∀ b, AtP p4 b → B + 3 ≤ b := fun b hb => (g2.bd hb).1
     have hN2 : New σ.re (τ2.own (B + 2) [.slice ps l cs, .slice p4 (i + 1) c4] 2) := (hN.of_only hO (fun b hb => by have := hS b hb; omega)).own (by omega)
     have hn2 : τ.next ≤ τ2.next := hO.next
     have hw3 := w3.lt
     refine garage_s2a (w1.ld rfl agg23 (k := 1) rfl) ld (k3.ld rfl agg33 (k := 1) rfl) toR_c toR_c g1 (v3.store (k := 1) (vs := [.slice p4 (i + 1) c4]) (ds := [.slice ps l cs, .slice p4 (i + 1) c4]) rfl size33 rfl (by simp) rfl)
      (belowL_cons (belowB_ptr v3.lt) (belowL_cons (belowB_sl (fun a e => by subst e; exact (g2.bd ⟨a, rfl, rfl⟩).2)) belowL_nil)) (k3.row.ld rfl agg33 (k := 1) rfl) (fun a e => by subst e; exact (hg.bd ⟨a, rfl, rfl⟩).2)
      ⟨k - 1, by omega, hN2, i + 1, by omega, by omega, p4, c4, ?_, v1.own (by omega), v2.own (by omega), v3.put, ?_, ?_, ?_⟩
     ·exact h.le ((le0 σ).trans hN2.le)
     ·rw [take_snoc hx, List.map_append]
      exact g2.only (S := (· = B + 2)) (Only.own (.inr rfl)) (by rintro b hb rfl; have := e5 _ hb; omega)
     ·refine (hO.slv' hs (fun a e hb => (hd a.block ⟨a, e, rfl⟩).1 hb)).own (.inr fun a e hb => ?_)
      have := (hsb a.block ⟨a, e, rfl⟩).1; omega
     ·intro b hb
      refine ⟨fun h4 => ?_, by have := (hd b hb).2; simp; omega⟩
      rcases g4 b h4 with h5 | h5
      ·exact (hd b hb).1 h5
      ·have := (hd b hb).2; have := hcp.nx; omega
    ·have : i = m := by omega
     subst this
     rw [List.take_of_length_le (by omega)] at hg
     exact garage_s2b (w1.ld rfl agg23 (k := 1) rfl) ⟨hN, qs, ds, w2, w3, hs, hg.slv, fun b hb => (hsb b hb).1, fun b hb => (hg.bd hb).1⟩
   ·rintro τ ⟨hN, qs, ds, w2, w3, hs, hb, e1, e2⟩
    refine garage_t2x2a (w3.ldN agg35 size35 (k := 0) rfl rfl (by simp)) (w2.store (vs := [.slice ps l cs, .slice qs m ds]) (ds := [.slice ps l cs, .slice qs m ds]) rfl size35 rfl (by simp) rfl) (w2.put.rw.ldN agg35 size35 (k := 0) rfl rfl (by simp)) ⟨hN.own (by omega), ps, cs, qs, ds, rfl, ?_, ?_⟩
    ·exact hs.own (.inr fun a e hb => by have := e1 a.block ⟨a, e, rfl⟩; omega)
    ·exact hb.own (.inr fun a e hb => by have := e2 a.block ⟨a, e, rfl⟩; omega)
 obtain ⟨v, σ', h1, h2, p', c', q', d', rfl, h3⟩ := RunsQ.new (Q := fun v s => ∃ p' c' q' d', v = .agg ⟨garL p' l c' q' m d'⟩ ∧ GarP s p' l q' m g) key (by rintro v s s' ⟨p', c', q', d', rfl, g⟩ hle; exact ⟨p', c', q', d', rfl, g.le hle⟩) (by
  rintro v s hv ⟨p', c', q', d', rfl, g⟩
  cases p' with
  | some a => exact Bool.noConfusion (show false = true from hv)
  | none => cases q' with
   | some a => exact Bool.noConfusion (show false = true from hv)
   | none => exact ⟨none, c', none, d', rfl, slv_none g.sl, slv_none g.bu⟩)
 exact ⟨p', c', q', d', σ', h1, h2, h3⟩
end
end Go.Proofs.Ythcdddbghldmiaa
