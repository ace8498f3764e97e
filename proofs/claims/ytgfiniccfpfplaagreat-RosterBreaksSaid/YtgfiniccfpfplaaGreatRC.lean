
import Derived.Test.YtgfiniccfpfplaaGreatRB
namespace Go.Proofs.YtgfiniccfpfplaaGreat
open Go Go.Lay
set_option linter.unusedVariables false
set_option linter.unusedSimpArgs false
set_option maxRecDepth 20000
def zN (rs : List Int) (i : Nat) : Int := rs.getD i 0
def zKE : Option Nat → Int
 | some i => (i : Int)
 | none => -1
section
variable {w : Wk} {ros tru : Nat → Int} {k D i : Nat}
theorem ySM (hi : i < w.duties.length) (hh : his w ros k D i = true) (hb : ∀ j, j < i → his w ros k D j = false) : xW w ros k D = some i := by
 rw [yDN hi hh]
 unfold onL
 apply List.filter_eq_nil_iff.2
 intro j hj h
 rw [hb j (List.mem_range.1 hj)] at h; cases h
theorem ySN (hb : ∀ j, j < w.duties.length → his w ros k D j = false) : xW w ros k D = none := by
 unfold xW onL
 rw [List.filter_eq_nil_iff.2]
 ·rfl
 ·intro j hj h
  rw [hb j (List.mem_range.1 hj)] at h; cases h
def inR (w : Wk) (ros : Nat → Int) (k : Nat) : Nat → Int
 | 0 => (drv w k).row
 | j + 1 => vT w ros k j
theorem yMD : ∀ {j : Nat}, vT w ros k j = if zCW w ros k j then 1 + inR w ros k j else 0
 | 0 => rfl
 | j + 1 => rfl
end
section
variable {σ : St} {w : Wk} {p q r t : Option Addr} {l m c d rc tc : Nat} {rs ts : List Int} {k D : Nat}
abbrev wkL (w : Wk) (p : Option Addr) (l c : Nat) (q : Option Addr) (m d : Nat) : List Value := wkc w.days p l c q m d w.rest w.run w.hours
theorem zXC (h : WkP σ 92 76 w p l q m) (hr : yS σ r l rs) (hl : l ≤ 100000) : zE Tryz.prog 61 [.agg ⟨wkL w p l c q m d⟩, .slice r l rc, iV (k : Int), iV (D : Int)] σ (iV (zKE (xW w (zN rs) k D))) σ := by
 have hn := h.len.1
 have hk0 := xQ σ.re (wkL w p l c q m d) 6
 have h0 := (h.le (le0 σ)).le (Le.row _ (wkL w p l c q m d) 6)
 have hr0 := (hr.re).le (Le.row _ (wkL w p l c q m d) 6)
 have ldD : zC Tryz.prog (σ.re.row (wkL w p l c q m d) 6) 22 ⟨σ.re.next, 1, none⟩ = some (.slice p l c) := hk0.ld zCF rfl
 refine (yYE (yFM (Inv := fun k' i τ => τ = σ.re.row (wkL w p l c q m d) 6 ∧ ∃ j : Nat, i = j ∧ j + k' = l ∧ ∀ i, i < j → his w (zN rs) k D i = false) (Qr := fun x τ => τ = σ.re.row (wkL w p l c q m d) 6 ∧ ∃ j : Nat, x = j ∧ xW w (zN rs) k D = some j)
  (Q0 := fun τ => τ = σ.re.row (wkL w p l c q m d) 6 ∧ xW w (zN rs) k D = none) ?_ l 0 _ ⟨rfl, 0, rfl, by omega, fun i h => by omega⟩) ?_ ?_).pure
 ·rintro k' i τ ⟨rfl, j, rfl, hk, he⟩
  by_cases hj : j < l
  ·obtain ⟨a, rfl, x, hx, l2⟩ := vN hr0 hj
   obtain ⟨b, hb, l3⟩ := h0.dld (i := j) (k := 0) (n := (dty w j).day) hj (by omega) rfl
   subst hb
   have gx : zN rs j = x := yF hx
   by_cases e1 : x = (k : Int)
   ·by_cases e2 : (dty w j).day = (D : Int)
    ·exact yPN ldD l2 l3 ⟨rfl, j, rfl, ySM (by omega) (by unfold his; simp [gx, e1, e2]) he⟩
    ·refine yPM ldD l2 l3 ⟨k' - 1, by omega, rfl, j + 1, by omega, by omega, ?_⟩
     intro i hi
     by_cases e3 : i = j
     ·subst e3; unfold his; simp [e2]
     ·exact he i (by omega)
   ·refine yPL ldD l2 ⟨k' - 1, by omega, rfl, j + 1, by omega, by omega, ?_⟩
    intro i hi
    by_cases e3 : i = j
    ·subst e3; unfold his; simp [gx, e1]
    ·exact he i (by omega)
  ·exact yPK ldD ⟨rfl, ySN fun i hi => he i (by omega)⟩
 ·rintro x τ ⟨rfl, j, rfl, e⟩
  exact yFK ⟨by rw [e]; rfl, Nat.le_refl _⟩
 ·rintro τ ⟨rfl, e⟩
  exact yFL ⟨by rw [e]; rfl, Nat.le_refl _⟩
theorem yDO {o : Option Nat} : 0 ≤ zKE o ↔ o.isSome = true := by cases o <;> simp [zKE]
theorem rInRow_c (h : WkP σ 92 76 w p l q m) (hr : yS σ r l rs) (hl : l ≤ 100000) (hkm : k < m) (hm : m ≤ 100000) (hD : D ≤ 100000) (hrow : 0 ≤ (drv w k).row ∧ (drv w k).row ≤ 100000) : zE Tryz.prog 82 [.agg ⟨wkL w p l c q m d⟩, .slice r l rc, iV (k : Int), iV (D : Int)] σ (iV (vT w (zN rs) k D)) σ := by
 have hk0 := xQ σ.re (wkL w p l c q m d) 6
 have h0 := (h.le (le0 σ)).le (Le.row _ (wkL w p l c q m d) 6)
 have hr0 := (hr.re).le (Le.row _ (wkL w p l c q m d) 6)
 have ldW : zC Tryz.prog (σ.re.row (wkL w p l c q m d) 6) 25 ⟨σ.re.next, 0, none⟩ = some (.agg ⟨wkL w p l c q m d⟩) := hk0.ldN (k := 0) zDJ zAD (ds := wkL w p l c q m d) rfl rfl (by simp [wkL])
 have ldV : zC Tryz.prog (σ.re.row (wkL w p l c q m d) 6) 23 ⟨σ.re.next, 2, none⟩ = some (.slice q m d) := hk0.ld zCT rfl
 refine (yYA (yFJ (Inv := fun k' i3 i9 τ => τ = σ.re.row (wkL w p l c q m d) 6 ∧ ∃ j : Nat, k' = j ∧ j ≤ D + 1 ∧ i3 = (j : Int) - 1 ∧ i9 = (D : Int) + 1 - j ∧ vT w (zN rs) k D + (if j = D + 1 then 1 else 0) * (inR w (zN rs) k (D + 1) - vT w (zN rs) k D) = i9 + inR w (zN rs) k j)
  (Q0 := fun i3 i9 τ => τ = σ.re.row (wkL w p l c q m d) 6 ∧ ((i3 = -1 ∧ vT w (zN rs) k D = i9 + (drv w k).row ∧ 0 ≤ i9 ∧ i9 ≤ 200000) ∨ (0 ≤ i3 ∧ vT w (zN rs) k D = i9))) ?_ (D + 1) D 0 _ ⟨rfl, D + 1, rfl, Nat.le_refl _, by omega, by omega, ?_⟩) ?_).pure
 ·rintro j i3 i9 τ ⟨rfl, _, rfl, hj, rfl, rfl, he⟩
  cases j with
  | zero =>
   refine yPE ⟨rfl, .inl ⟨by omega, ?_, by omega, by omega⟩⟩
   rw [if_neg (by omega)] at he
   unfold inR at he
   simp only [Int.zero_mul, Int.add_zero] at he
   exact he
  | succ j =>
   have e1 : ((j + 1 : Nat) : Int) - 1 = (j : Int) := by omega
   rw [e1]
   have cf := zXC (c := c) (d := d) (rc := rc) (k := k) (D := j) h0 hr0 hl
   have he' : vT w (zN rs) k D = (D : Int) + 1 - ((j + 1 : Nat) : Int) + vT w (zN rs) k j := by
    have e2 : inR w (zN rs) k (j + 1) = vT w (zN rs) k j := rfl
    rw [e2] at he
    by_cases e3 : j + 1 = D + 1
    ·have : j = D := by omega
     subst this; omega
    ·rw [if_neg e3] at he
     simp only [Int.zero_mul, Int.add_zero] at he
     exact he
   by_cases hw : zCW w (zN rs) k j = true
   ·have e4 : vT w (zN rs) k j = 1 + inR w (zN rs) k j := by rw [yMD, if_pos hw]
    refine yPG ldW cf ⟨j, by omega, rfl, j, rfl, by omega, by omega, by omega, ?_⟩ (by omega) (yDO.2 hw)
    rw [if_neg (by omega)]
    simp only [Int.zero_mul, Int.add_zero]
    omega
   ·have e4 : vT w (zN rs) k j = 0 := by rw [yMD, if_neg hw]
    refine yPF ldW cf ⟨rfl, .inr ⟨by omega, by omega⟩⟩ (by omega) (fun h => hw (yDO.1 h))
 ·rw [if_pos rfl]
  have e2 : inR w (zN rs) k (D + 1) = vT w (zN rs) k D := rfl
  rw [e2]
  simp
 ·rintro i3 i9 τ ⟨rfl, ⟨h1, h2, h3, h4⟩ | ⟨h1, h2⟩⟩
  ·obtain ⟨a, rfl, p', l', c', r', n', d', s', j', e', _, _, _, _, hf⟩ := h0.vld yEC uQ hkm
   have ld := hf 4 (iV (drv w k).row) rfl 3 zO
   refine yFI ldV ld ⟨by rw [h2], Nat.le_refl _⟩ (by omega) (by omega) (by omega)
  ·exact yFH ⟨by rw [h2], Nat.le_refl _⟩ (by omega)
theorem rFree_c (h : WkP σ 92 76 w p l q m) (hr : yS σ r l rs) (ht : yS σ t l ts) (hl : l ≤ 100000) (hkm : k < m) (hm : m ≤ 100000) (hD : D ≤ 100000) (hts : ∀ i, i < l → -1000000 ≤ zN ts i ∧ zN ts i ≤ 1000000) : zE Tryz.prog 81 [.agg ⟨wkL w p l c q m d⟩, .slice r l rc, .slice t l tc, iV (k : Int), iV (D : Int)] σ (iV (xL w (zN rs) (zN ts) k D)) σ := by
 have hn := h.len.1
 have hk0 := xQ σ.re (wkL w p l c q m d) 6
 have h0 := (h.le (le0 σ)).le (Le.row _ (wkL w p l c q m d) 6)
 have hr0 := (hr.re).le (Le.row _ (wkL w p l c q m d) 6)
 have ht0 := (ht.re).le (Le.row _ (wkL w p l c q m d) 6)
 have ldW : zC Tryz.prog (σ.re.row (wkL w p l c q m d) 6) 25 ⟨σ.re.next, 0, none⟩ = some (.agg ⟨wkL w p l c q m d⟩) := hk0.ldN (k := 0) zDJ zAD (ds := wkL w p l c q m d) rfl rfl (by simp [wkL])
 have ldV : zC Tryz.prog (σ.re.row (wkL w p l c q m d) 6) 23 ⟨σ.re.next, 2, none⟩ = some (.slice q m d) := hk0.ld zCT rfl
 refine (rFree_ra (yJK (Inv := fun k' i τ => τ = σ.re.row (wkL w p l c q m d) 6 ∧ ∃ j : Nat, k' = j ∧ j ≤ D ∧ i = (j : Int) - 1 ∧ xL w (zN rs) (zN ts) k D = xL w (zN rs) (zN ts) k j)
  (Qr := fun x τ => τ = σ.re.row (wkL w p l c q m d) 6 ∧ x = xL w (zN rs) (zN ts) k D)
  (Q0 := fun τ => τ = σ.re.row (wkL w p l c q m d) 6 ∧ xL w (zN rs) (zN ts) k D = (drv w k).off) ?_ D (D - 1) _ ⟨rfl, D, rfl, Nat.le_refl _, rfl, rfl⟩) ?_ ?_ (by omega)).pure
 ·rintro j i τ ⟨rfl, _, rfl, hj, rfl, he⟩
  cases j with
  | zero => exact yYB ⟨rfl, he⟩
  | succ j =>
   have e1 : ((j + 1 : Nat) : Int) - 1 = (j : Int) := by omega
   rw [e1]
   have cf := zXC (c := c) (d := d) (rc := rc) (k := k) (D := j) h0 hr0 hl
   cases hf : xW w (zN rs) k j with
   | some i =>
    rw [hf, show zKE (some i) = (i : Int) from rfl] at cf
    have hi := (yDM hf).1
    obtain ⟨a, rfl, x, hx, l2⟩ := vN ht0 (show i < l by omega)
    have gx : zN ts i = x := yF hx
    have hb := hts i (by omega)
    refine yYD ldW cf l2 ⟨rfl, ?_⟩ (by omega) (by omega) (by omega) (by omega) (by omega)
    rw [he]
    unfold xL
    rw [hf, ← gx]
   | none =>
    rw [hf, show zKE none = -1 from rfl] at cf
    refine yYC ldW cf ⟨j, by omega, rfl, j, rfl, by omega, by omega, ?_⟩ (by omega) (by omega) (by omega)
    rw [he]
    show (match xW w (zN rs) k j with | some i => 1440 * (j : Int) + zN ts i | none => xL w (zN rs) (zN ts) k j) = _
    rw [hf]
 ·rintro x τ ⟨rfl, rfl⟩
  exact yJI ⟨rfl, Nat.le_refl _⟩
 ·rintro τ ⟨rfl, e⟩
  obtain ⟨a, rfl, p', l', c', r', n', d', s', j', e', _, _, _, _, hf⟩ := h0.vld yEC uQ hkm
  have ld := hf 3 (iV (drv w k).off) rfl 3 zO
  refine yJJ ldV ld ⟨by rw [e], Nat.le_refl _⟩ (by omega)
end
end Go.Proofs.YtgfiniccfpfplaaGreat
