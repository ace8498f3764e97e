
import Derived.Test.YthcdddbghldmiaaCD2
namespace Go.Proofs.Ythcdddbghldmiaa
open Go Go.Lay
set_option linter.unusedVariables false
set_option linter.unusedSimpArgs false
set_option maxRecDepth 20000
section
variable {σ : St}
theorem RowsP.row {p : Option Addr} {l i : Nat} {rs : List (List Int)} {r : List Int} (h : RowsP σ p l rs) (hi : rs[i]? = some r) : ∃ a, p = some a ∧ ∃ q c, (∀ τ, Le σ τ → loadA Try.prog τ 59 (aadd a (Int.toNat (i : Int) * 1)) = some (.slice q r.length c)) ∧ IntsP σ q r.length r := by
 obtain ⟨vs, s1, s2, s3⟩ := h
 obtain ⟨a, rfl, _⟩ := s1.some (i := i) (by have := (List.getElem?_eq_some_iff.1 hi).1; omega)
 obtain ⟨q, c, f1, f2⟩ := s3 i r hi
 exact ⟨a, rfl, q, c, fun τ hτ => (s1.le hτ).at rfl f1, f2⟩
theorem sum_c {p q : Option Addr} {l c m d : Nat} {g : Gar} {pp : Option Addr} {lp cp : Nat} {rs : List (List Int)} (h : GarP σ p l q m g) (hr : RowsP σ pp lp rs) (hv : Valid g) (hp : PlanOK g rs) :
  CallsA Try.prog 52 [.agg ⟨garL p l c q m d⟩, .slice pp lp cp, .agg ⟨[.func (.func 53) ⟨[]⟩ ⟨[]⟩]⟩] σ (iV (costZ g rs)) σ := by
 have hl1 : g.ns = l := h.len1; have hl2 : g.nb = m := h.len2; have hlr := hr.len
 have hns := hv.ns; have hnb := hv.nb
 have hlp : lp = g.nb := by rw [← hlr]; exact hp.len
 have hN : New σ.re ((σ.re.row (garL p l c q m d) 2).row [.func (.func 53) ⟨[]⟩ ⟨[]⟩] 1) := (New.row _ _ _).row'
 have o1 := (own_new σ.re (garL p l c q m d) 2).row (ds := [.func (.func 53) ⟨[]⟩ ⟨[]⟩]) (m := 1)
 have o2 := own_new (σ.re.row (garL p l c q m d) 2) [.func (.func 53) ⟨[]⟩ ⟨[]⟩] 1
 have hle : Le σ ((σ.re.row (garL p l c q m d) 2).row [.func (.func 53) ⟨[]⟩ ⟨[]⟩] 1) := (le0 σ).trans hN.le
 refine (sum_ra (P0 := fun n τ => τ = (σ.re.row (garL p l c q m d) 2).row [.func (.func 53) ⟨[]⟩ ⟨[]⟩] 1 ∧ n = costZ g rs) ?_ ?_).pure
 rotate_left
 ·rintro n τ ⟨rfl, rfl⟩
  exact sum_t1x0a ⟨rfl, Nat.le_refl _⟩
 obtain ⟨τ0, hτ0⟩ : ∃ τ0, τ0 = (σ.re.row (garL p l c q m d) 2).row [.func (.func 53) ⟨[]⟩ ⟨[]⟩] 1 := ⟨_, rfl⟩
 rw [← hτ0] at o1 o2 hle ⊢
 refine sum_loop1 (Inv := fun k n i13 τ => τ = τ0 ∧ ∃ i : Nat, i13 = i ∧ i + k = lp ∧ n = sumN i fun i => sumN g.ns fun s => cell rs i s * prS g s) (Q0 := fun n τ => τ = τ0 ∧ n = costZ g rs) ?_ lp 0 0 τ0 ⟨rfl, 0, rfl, by omega, rfl⟩
 rintro k n i13 τ ⟨rfl, i, rfl, hk, rfl⟩
 by_cases hi : i < lp
 rotate_left
 ·have : i = g.nb := by omega
  subst this
  exact sum_s1b ⟨rfl, rfl⟩
 have hri : rs[i]? = some rs[i] := by simp
 obtain ⟨a, rfl, qr, cr, hld, hq⟩ := hr.row hri
 have hrl : rs[i].length = g.ns := hp.row _ (List.getElem_mem _)
 refine sum_s1a (hld _ hle) (sum_loop2 (Inv := fun k' n i19 τ' => τ' = τ ∧ ∃ s : Nat, i19 = s ∧ s + k' = l ∧ n = (sumN i fun i => sumN g.ns fun s => cell rs i s * prS g s) + sumN s fun s => cell rs i s * prS g s) (Q2 := fun n τ' => τ' = τ ∧ n = sumN (i + 1) fun i => sumN g.ns fun s => cell rs i s * prS g s) ?_ l _ 0 τ ⟨rfl, 0, rfl, by omega, by simp [sumN]⟩) ?_
 rotate_left
 ·rintro n τ' ⟨rfl, rfl⟩
  exact sum_t2x2a ⟨k - 1, by omega, rfl, i + 1, by omega, by omega, rfl⟩
 rintro k' n i19 τ' ⟨rfl, s, rfl, hk', rfl⟩
 by_cases hs : s < l
 rotate_left
 ·have : s = g.ns := by omega
  subst this
  exact sum_s2b ⟨rfl, rfl⟩
 obtain ⟨ar, rfl, x, hx, ldx⟩ := slv_at (hq.le hle) (i := s) (by omega)
 obtain ⟨az, rfl, y, hy, ldy⟩ := slv_at (h.le hle).sl hs
 have e1 : cell rs i s = x := cell_eq hri hx
 have e2 : prS g s = y.pr := prS_eq hy
 have h1 := hp.term hv (i := i) (s := s) (by omega) (by omega)
 have h2 := hp.part hv (i := i) (s := s) (by omega) (by omega)
 rw [e1, e2] at h1
 have e3 : sumN (s + 1) (fun s => cell rs i s * prS g s) = sumN s (fun s => cell rs i s * prS g s) + x * y.pr := by simp only [sumN, e1, e2]
 exact sum_s2a ldx (o2.ld rfl agg107 (k := 0) rfl) (o1.ld rfl agg32 (k := 0) rfl) ldy slotPrice_c ⟨k' - 1, by omega, rfl, s + 1, by omega, by omega, by rw [e3]; omega⟩
theorem rCost_c {p q : Option Addr} {l c m d : Nat} {g : Gar} {pp : Option Addr} {lp cp : Nat} {rs : List (List Int)} (h : RefP σ p l q m g) (hr : RowsP σ pp lp rs) (hv : Valid g) (hp : PlanOK g rs) :
  CallsA Try.prog 24 [.agg ⟨garL p l c q m d⟩, .slice pp lp cp] σ (iV (costZ g rs)) σ := by
 have hl1 : g.ns = l := h.len1; have hl2 : g.nb = m := h.len2; have hlr := hr.len
 have hns := hv.ns; have hnb := hv.nb
 have hlp : lp = g.nb := by rw [← hlr]; exact hp.len
 have hN : New σ.re (σ.re.row (garL p l c q m d) 2) := New.row _ _ _
 have o1 := own_new σ.re (garL p l c q m d) 2
 have hle : Le σ (σ.re.row (garL p l c q m d) 2) := (le0 σ).trans hN.le
 refine (rCost_ra (P0 := fun n τ => τ = σ.re.row (garL p l c q m d) 2 ∧ n = costZ g rs) ?_ ?_).pure
 rotate_left
 ·rintro n τ ⟨rfl, rfl⟩
  exact rCost_t1x0a ⟨rfl, Nat.le_refl _⟩
 obtain ⟨τ0, hτ0⟩ : ∃ τ0, τ0 = σ.re.row (garL p l c q m d) 2 := ⟨_, rfl⟩
 rw [← hτ0] at o1 hle ⊢
 refine rCost_loop1 (Inv := fun k n i13 τ => τ = τ0 ∧ ∃ i : Nat, i13 = i ∧ i + k = lp ∧ n = sumN i fun i => sumN g.ns fun s => cell rs i s * prS g s) (Q0 := fun n τ => τ = τ0 ∧ n = costZ g rs) ?_ lp 0 0 τ0 ⟨rfl, 0, rfl, by omega, rfl⟩
 rintro k n i13 τ ⟨rfl, i, rfl, hk, rfl⟩
 by_cases hi : i < lp
 rotate_left
 ·have : i = g.nb := by omega
  subst this
  exact rCost_s1b ⟨rfl, rfl⟩
 have hri : rs[i]? = some rs[i] := by simp
 obtain ⟨a, rfl, qr, cr, hld, hq⟩ := hr.row hri
 have hrl : rs[i].length = g.ns := hp.row _ (List.getElem_mem _)
 refine rCost_s1a (rCost_loop2 (Inv := fun k' n i19 τ' => τ' = τ ∧ ∃ s : Nat, i19 = s ∧ s + k' = l ∧ n = (sumN i fun i => sumN g.ns fun s => cell rs i s * prS g s) + sumN s fun s => cell rs i s * prS g s) (Q2 := fun n τ' => τ' = τ ∧ n = sumN (i + 1) fun i => sumN g.ns fun s => cell rs i s * prS g s) ?_ l _ 0 τ ⟨rfl, 0, rfl, by omega, by simp [sumN]⟩) ?_
 rotate_left
 ·rintro n τ' ⟨rfl, rfl⟩
  exact rCost_t2x2a ⟨k - 1, by omega, rfl, i + 1, by omega, by omega, rfl⟩
 rintro k' n i19 τ' ⟨rfl, s, rfl, hk', rfl⟩
 by_cases hs : s < l
 rotate_left
 ·have : s = g.ns := by omega
  subst this
  exact rCost_s2b (hld _ hle) ⟨rfl, rfl⟩
 obtain ⟨ar, rfl, x, hx, ldx⟩ := slv_at (hq.le hle) (i := s) (by omega)
 obtain ⟨az, rfl, y, hy, _, ldy⟩ := pw_at (h.le hle).sl hs
 have e1 : cell rs i s = x := cell_eq hri hx
 have e2 : prS g s = y.pr := prS_eq hy
 have h1 := hp.term hv (i := i) (s := s) (by omega) (by omega)
 have h2 := hp.part hv (i := i) (s := s) (by omega) (by omega)
 rw [e1, e2] at h1
 have e3 : sumN (s + 1) (fun s => cell rs i s * prS g s) = sumN s (fun s => cell rs i s * prS g s) + x * y.pr := by simp only [sumN, e1, e2]
 exact rCost_s2a (hld _ hle) ldx (o1.ld rfl agg22 (k := 0) rfl) ldy ⟨k' - 1, by omega, rfl, s + 1, by omega, by omega, by rw [e3]; omega⟩
end
end Go.Proofs.Ythcdddbghldmiaa
