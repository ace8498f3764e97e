
import Derived.Test.YtgfiniccfpfplaaGreatRD
import Derived.Test.YtgfiniccfpfplaaGreatXL
namespace Go.Proofs.YtgfiniccfpfplaaGreat
open Go Go.Lay
open Tryz renaming prog → Pg
set_option linter.unusedVariables false
set_option linter.unusedSimpArgs false
set_option maxRecDepth 20000
abbrev zFH (b : Bch) : Value := .agg ⟨rcd b.kind b.drv b.dut⟩
theorem appT_rbch : AppT Pg 42 42 46 3 := zRG (by kernel_rfl)
theorem elOk_rbch (b : Bch) : zMD Pg 46 3 (zFH b) := .inr ⟨agg46, size46, _, rfl, rfl⟩
section
variable {w : Wk} {ros tru : Nat → Int} {k q j : Nat}
theorem refK_s : zNR w ros tru k q (j + 1) = zNR w ros tru k q j ++ (if xC w ros tru q k j then [⟨q, k, j⟩] else []) := by
 unfold zNR
 rw [List.range_succ, List.filterMap_append]
 simp only [List.filterMap_cons, List.filterMap_nil]
 split <;> simp_all
theorem refD_s : zNS w ros tru k (q + 1) = zNS w ros tru k q ++ zNR w ros tru k q w.duties.length := by
 unfold zNS
 rw [List.range_succ, List.flatMap_append]
 simp
theorem refB_s : zDN w ros tru (k + 1) = zDN w ros tru k ++ (zNS w ros tru k 5 ++ yJD w ros tru k) := by
 unfold zDN
 rw [List.range_succ, List.flatMap_append]
 simp
theorem yJE : (zNR w ros tru k q j).length ≤ j := by
 unfold zNR
 have := List.length_filterMap_le (fun i => if xC w ros tru q k i = true then some (⟨q, k, i⟩ : Bch) else none) (List.range j)
 simpa using this
theorem zWQ : (zNS w ros tru k q).length ≤ q * w.duties.length := by
 induction q with
 | zero => simp [zNS]
 | succ q ih => rw [refD_s, List.length_append, Nat.add_mul, Nat.one_mul]; have := yJE (w := w) (ros := ros) (tru := tru) (k := k) (q := q) (j := w.duties.length); omega
theorem refL_len : (yJD w ros tru k).length ≤ 1 := by unfold yJD; split <;> simp
theorem yJF : (zDN w ros tru k).length ≤ k * (5 * w.duties.length + 1) := by
 induction k with
 | zero => simp [zDN]
 | succ k ih =>
  rw [refB_s, List.length_append, List.length_append, Nat.add_mul, Nat.one_mul]
  have h1 := zWQ (w := w) (ros := ros) (tru := tru) (k := k) (q := 5)
  have h2 := refL_len (w := w) (ros := ros) (tru := tru) (k := k)
  omega
end
section
variable {σ : St} {w : Wk} {p q r t : Option Addr} {l m c d rc tc : Nat} {rs ts : List Int} {k i : Nat}
theorem yYN (h : WkP σ 92 76 w p l q m) (hs : Sane w l m) (hr : yS σ r l rs) (ht : yS σ t l ts) (hts : ∀ i, i < l → (dty w i).on ≤ zN ts i ∧ zN ts i ≤ (dty w i).on + 1440) :
  ∃ p' c' σ', zE Pg 23 [.agg ⟨wkL w p l c q m d⟩, .slice r l rc, .slice t l tc] σ (.slice p' (zDN w (zN rs) (zN ts) m).length c') σ' ∧ New σ σ' ∧ SlV Pg σ' 46 3 p' (zDN w (zN rs) (zN ts) m).length ((zDN w (zN rs) (zN ts) m).map zFH) ∧ ∀ b, AtP p' b → σ.next ≤ b := by
 have hn := h.len.1
 have hl12 := hs.l12
 have hm6 := hs.m6
 obtain ⟨σ1, hσ1⟩ : ∃ σ1, σ1 = σ.re.row (wkL w p l c q m d) 6 := ⟨_, rfl⟩
 have N1 : New σ.re σ1 := by rw [hσ1]; exact New.row _ _ _
 have L1 : Le σ σ1 := (le0 σ).trans N1.le
 have hW : ∀ {τ}, New σ1 τ → Row τ ⟨σ.re.next, 0, none⟩ (wkL w p l c q m d) := fun {τ} hN => by
  have := xQ σ.re (wkL w p l c q m d) 6
  rw [← hσ1] at this
  exact this.le hN.le
 have lD : ∀ {τ}, New σ1 τ → zC Pg τ 22 ⟨σ.re.next, 1, none⟩ = some (.slice p l c) := fun hN => (hW hN).ld zCF rfl
 have lV : ∀ {τ}, New σ1 τ → zC Pg τ 23 ⟨σ.re.next, 2, none⟩ = some (.slice q m d) := fun hN => (hW hN).ld zCT rfl
 have lW : ∀ {τ}, New σ1 τ → zC Pg τ 25 ⟨σ.re.next, 0, none⟩ = some (.agg ⟨wkL w p l c q m d⟩) := fun hN => (hW hN).ldN (k := 0) zDJ zAD (ds := wkL w p l c q m d) rfl rfl (by simp [wkL])
 have one : ∀ {τ : St} {p7 : Option Addr} {c7 : Nat} {A : List Bch} (b : Bch), New σ1 τ → Gr Pg τ σ1.next 46 3 p7 A.length c7 (A.map zFH) → A.length ≤ 1000 →
   ∃ q7 d7 τ', yU Pg 42 42 (.slice p7 A.length c7) (.slice (some ⟨τ.next, 0, none⟩) 1 1) (τ.row (rcd b.kind b.drv b.dut) 3) = some (.slice q7 (A ++ [b]).length d7, τ') ∧ New σ1 τ' ∧ Gr Pg τ' σ1.next 46 3 q7 (A ++ [b]).length d7 ((A ++ [b]).map zFH) := by
  intro τ p7 c7 A b hN hg hA
  obtain ⟨q7, d7, τ', g1, g2, g3, _, _⟩ := grow (zFH b) appT_rbch hg hN (New.refl τ) (elOk_rbch b) (by omega)
  refine ⟨q7, d7, τ', by rw [List.length_append]; exact g1, g3, ?_⟩
  rw [List.length_append, List.map_append]
  exact g2
 have loop3 : ∀ {k0 q0 : Nat} {A : List Bch} {τ : St} {p7 : Option Addr} {c7 : Nat}, k0 < m → q0 < 5 → A.length ≤ 500 → New σ1 τ → Gr Pg τ σ1.next 46 3 p7 A.length c7 (A.map zFH) →
   zPC r l rc t l tc σ.re.next (k0 : Int) (q0 : Int) p7 A.length c7 0 τ (fun p' l' c' τ' => New σ1 τ' ∧ l' = (A ++ zNR w (zN rs) (zN ts) k0 q0 l).length ∧ Gr Pg τ' σ1.next 46 3 p' l' c' ((A ++ zNR w (zN rs) (zN ts) k0 q0 l).map zFH)) := by
  intro k0 q0 A τ p7 c7 hk hq hA hN hg
  refine yAG (Inv := fun k' p' l' c' i τ' => New σ1 τ' ∧ ∃ j : Nat, i = j ∧ j + k' = l ∧ l' = (A ++ zNR w (zN rs) (zN ts) k0 q0 j).length ∧ Gr Pg τ' σ1.next 46 3 p' l' c' ((A ++ zNR w (zN rs) (zN ts) k0 q0 j).map zFH)) ?_ l p7 A.length c7 0 τ ⟨hN, 0, rfl, by omega, by simp [zNR], by simpa [zNR] using hg⟩
  rintro k' p' l' c' i τ' ⟨hN', j, rfl, hj, rfl, hg'⟩
  by_cases hjl : j < l
  ·have LL : Le σ τ' := L1.trans hN'.le
   have cb := yYM (c := c) (d := d) (rc := rc) (tc := tc) (h.le LL) hs (SlV.le hr LL) (SlV.le ht LL) hts hk hjl hq
   have hrk := yJE (w := w) (ros := zN rs) (tru := zN ts) (k := k0) (q := q0) (j := j)
   have es := refK_s (w := w) (ros := zN rs) (tru := zN ts) (k := k0) (q := q0) (j := j)
   cases hb : xC w (zN rs) (zN ts) q0 k0 j with
   | true =>
    rw [hb] at cb es
    rw [if_pos rfl] at es
    obtain ⟨q7, d7, τ2, g1, g2, g3⟩ := one ⟨q0, k0, j⟩ hN' hg' (by rw [List.length_append]; omega)
    rw [List.append_assoc, ← es] at g1 g3
    exact yKB (lD hN') (lW hN') cb g1 ⟨k' - 1, by omega, g2, j + 1, by omega, by omega, rfl, g3⟩ (by omega) (by omega)
   | false =>
    rw [hb] at cb es
    rw [if_neg (by simp), List.append_nil] at es
    rw [← es] at hg' ⊢
    exact yKA (lD hN') (lW hN') cb ⟨k' - 1, by omega, hN', j + 1, by omega, by omega, rfl, hg'⟩ (by omega) (by omega)
  ·have : j = l := by omega
   subst this
   exact yJZ (lD hN') ⟨hN', rfl, hg'⟩ (by omega)
 have loop2 : ∀ {k0 : Nat} {A : List Bch} {τ : St} {p7 : Option Addr} {c7 : Nat}, k0 < m → A.length ≤ 400 → New σ1 τ → Gr Pg τ σ1.next 46 3 p7 A.length c7 (A.map zFH) →
   zPD r l rc t l tc σ.re.next (k0 : Int) p7 A.length c7 0 τ (fun p' l' c' τ' => New σ1 τ' ∧ l' = (A ++ zNS w (zN rs) (zN ts) k0 5).length ∧ Gr Pg τ' σ1.next 46 3 p' l' c' ((A ++ zNS w (zN rs) (zN ts) k0 5).map zFH)) := by
  intro k0 A τ p7 c7 hk hA hN hg
  refine yAH (Inv := fun k' p' l' c' i τ' => New σ1 τ' ∧ ∃ j : Nat, i = j ∧ j + k' = 5 ∧ l' = (A ++ zNS w (zN rs) (zN ts) k0 j).length ∧ Gr Pg τ' σ1.next 46 3 p' l' c' ((A ++ zNS w (zN rs) (zN ts) k0 j).map zFH)) ?_ 5 p7 A.length c7 0 τ ⟨hN, 0, rfl, by omega, by simp [zNS], by simpa [zNS] using hg⟩
  rintro k' p' l' c' i τ' ⟨hN', j, rfl, hj, rfl, hg'⟩
  by_cases hjl : j < 5
  ·have hrd := zWQ (w := w) (ros := zN rs) (tru := zN ts) (k := k0) (q := j)
   have hjm : j * w.duties.length ≤ 5 * 12 := Nat.mul_le_mul (by omega) (by omega)
   refine yKD (loop3 hk hjl (by rw [List.length_append]; omega) hN' hg') ?_ (by omega)
   rintro p3 l3 c3 τ3 ⟨hN3, rfl, hg3⟩
   have es := refD_s (w := w) (ros := zN rs) (tru := zN ts) (k := k0) (q := j)
   rw [List.append_assoc, ← hn, ← es] at hg3 ⊢
   refine yAC (zB := ((j + 1 : Nat) : Int)) ?_ ⟨k' - 1, by omega, hN3, j + 1, rfl, by omega, rfl, hg3⟩
   have : j = 0 ∨ j = 1 ∨ j = 2 ∨ j = 3 ∨ j = 4 := by omega
   rcases this with rfl | rfl | rfl | rfl | rfl <;> rfl
  ·have : j = 5 := by omega
   subst this
   exact yKC ⟨hN', rfl, hg'⟩ (by omega)
 refine zL.newSl (yQJ (yAI (Inv := fun k' p' l' c' i τ' => New σ1 τ' ∧ ∃ j : Nat, i = j ∧ j + k' = m ∧ l' = (zDN w (zN rs) (zN ts) j).length ∧ Gr Pg τ' σ1.next 46 3 p' l' c' ((zDN w (zN rs) (zN ts) j).map zFH))
  (Q0 := fun p' l' c' τ' => New σ1 τ' ∧ l' = (zDN w (zN rs) (zN ts) m).length ∧ Gr Pg τ' σ1.next 46 3 p' l' c' ((zDN w (zN rs) (zN ts) m).map zFH)) ?_ m none 0 0 0 _ ⟨by rw [← hσ1]; exact New.refl _, 0, rfl, by omega, by simp [zDN], by simpa [zDN] using Gr.nil⟩) ?_)
 ·rintro k' p' l' c' i τ' ⟨hN', j, rfl, hj, rfl, hg'⟩
  by_cases hjl : j < m
  ·have hrb := yJF (w := w) (ros := zN rs) (tru := zN ts) (k := j)
   have hjm : j * (5 * w.duties.length + 1) ≤ 6 * (5 * 12 + 1) := Nat.mul_le_mul (by omega) (by omega)
   refine yKF (lV hN') (loop2 hjl (by omega) hN' hg') ?_ (by omega)
   rintro p3 l3 c3 τ3 ⟨hN3, rfl, hg3⟩
   have LL : Le σ τ3 := L1.trans hN3.le
   have cb := yQI (c := c) (d := d) (rc := rc) (tc := tc) (i := 0) (n := 0) (h.le LL) hs (SlV.le hr LL) (SlV.le ht LL) hts hjl
   have es := refB_s (w := w) (ros := zN rs) (tru := zN ts) (k := j)
   have hrd := zWQ (w := w) (ros := zN rs) (tru := zN ts) (k := j) (q := 5)
   have el : yJD w (zN rs) (zN ts) j = if xC w (zN rs) (zN ts) 5 j 0 then [⟨5, j, 0⟩] else [] := rfl
   cases hb : xC w (zN rs) (zN ts) 5 j 0 with
   | true =>
    rw [hb] at cb el
    rw [if_pos rfl] at el
    obtain ⟨q7, d7, τ4, g1, g2, g3⟩ := one ⟨5, j, 0⟩ hN3 hg3 (by rw [List.length_append]; omega)
    rw [List.append_assoc, ← el, ← es] at g1 g3
    exact yAE (lW hN3) cb g1 ⟨k' - 1, by omega, g2, j + 1, by omega, by omega, rfl, g3⟩ (by omega)
   | false =>
    rw [hb] at cb el
    rw [if_neg (by simp)] at el
    rw [el, List.append_nil] at es
    rw [← es] at hg3 ⊢
    exact yAD (lW hN3) cb ⟨k' - 1, by omega, hN3, j + 1, by omega, by omega, rfl, hg3⟩ (by omega)
  ·have : j = m := by omega
   subst this
   exact yKE (lV hN') ⟨hN', rfl, hg'⟩ (by omega)
 ·rintro p' l' c' τ' ⟨hN', rfl, hg'⟩
  refine yAF ⟨N1.trans hN', p', c', rfl, hg'.slv, fun b hb => ?_⟩
  have := (hg'.bd hb).1
  have := N1.nx
  show σ.re.next ≤ b
  omega
end
end Go.Proofs.YtgfiniccfpfplaaGreat
