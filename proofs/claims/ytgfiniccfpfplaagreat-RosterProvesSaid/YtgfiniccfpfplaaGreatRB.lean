
import Derived.Test.YtgfiniccfpfplaaGreatRA
import Derived.Test.YtgfiniccfpfplaaGreatXA
import Derived.Test.YtgfiniccfpfplaaGreatPE
namespace Go.Proofs.YtgfiniccfpfplaaGreat
open Go Go.Lay
open Tryz renaming prog → Pg
set_option linter.unusedVariables false
set_option linter.unusedSimpArgs false
set_option maxRecDepth 20000
theorem zSM : AppT Pg 26 26 3 1 := zRA (by kernel_rfl)
theorem zQX (x : Int) : zLX Pg 3 1 (xE x) := .inl ⟨zP, rfl, rfl⟩
abbrev yU (σ : St) (p : Option Addr) (l : Nat) (xs : List Int) : Prop := SlV Pg σ 3 1 p l (xs.map xE)
theorem yU.len {σ : St} {p : Option Addr} {l : Nat} {xs : List Int} (h : yU σ p l xs) : xs.length = l := by have := h.2.1; simpa using this
theorem vQ {σ : St} {α : Type} {t n len i : Nat} {p : Option Addr} {xs : List α} {f : α → Value} (h : SlV Pg σ t n p len (xs.map f)) (hi : i < len) : ∃ a, p = some a ∧ ∃ x, xs[i]? = some x ∧ zC Pg σ t (zK a (Int.toNat (i : Int) * n)) = some (f x) := by
 obtain ⟨a, rfl, _⟩ := h.some hi
 have hl : i < xs.length := by have := h.2.1; simp at this; omega
 exact ⟨a, rfl, xs[i], by simp, h.at rfl (by simp [hl])⟩
abbrev zDK (d : Dty) : Value := .agg ⟨zF d.day d.on d.lo d.hi d.route⟩
abbrev yNM (σ : St) (t : Nat) (p : Option Addr) (l : Nat) (xs : List Dty) : Prop := SlV Pg σ t 5 p l (xs.map zDK)
def zUP (σ : St) (v : Value) (x : Drv) : Prop := ∃ p l c q m d r n e, v = .agg ⟨zG p l c q m d r n e x.off x.row x.used⟩ ∧ yU σ p l x.knows ∧ yU σ q m x.leave ∧ yU σ r n x.wish
def zUH (σ : St) (t : Nat) (p : Option Addr) (l : Nat) (xs : List Drv) : Prop := ∃ vs : List Value, SlV Pg σ t 6 p l vs ∧ xs.length = l ∧ ∀ (i : Nat) (x : Drv), xs[i]? = some x → ∃ v, vs[i]? = some v ∧ zUP σ v x
section
variable {σ σ' : St} {td tv : Nat} {p q : Option Addr} {l m c d : Nat} {w : Wk}
theorem zUP.le {v : Value} {x : Drv} (h : zUP σ v x) (k : Le σ σ') : zUP σ' v x := by
 obtain ⟨p, l, c, q, m, d, r, n, e, h1, h2, h3, h4⟩ := h
 exact ⟨p, l, c, q, m, d, r, n, e, h1, h2.le k, h3.le k, h4.le k⟩
theorem zUH.le {xs : List Drv} (h : zUH σ tv p l xs) (k : Le σ σ') : zUH σ' tv p l xs := by
 obtain ⟨vs, h1, h2, h3⟩ := h
 exact ⟨vs, h1.le k, h2, fun i x hi => by obtain ⟨v, g1, g2⟩ := h3 i x hi; exact ⟨v, g1, g2.le k⟩⟩
structure WkP (σ : St) (td tv : Nat) (w : Wk) (p : Option Addr) (l : Nat) (q : Option Addr) (m : Nat) : Prop where
 dty : yNM σ td p l w.duties
 drv : zUH σ tv q m w.drivers
theorem WkP.le (h : WkP σ td tv w p l q m) (k : Le σ σ') : WkP σ' td tv w p l q m := ⟨h.dty.le k, h.drv.le k⟩
theorem WkP.len (h : WkP σ td tv w p l q m) : w.duties.length = l ∧ w.drivers.length = m := by
 have h1 := h.dty.2.1
 exact ⟨by simpa using h1, h.drv.choose_spec.2.1⟩
theorem yMI {α : Type} {F : α → Value} {n k : Nat} {x : α} {v : Value} (hn : ∀ y, (F y).cells.toList.length = n) (hk : k < n) (hv : (F x).cells.toList[k]? = some v) : ∀ {xs : List α} {i : Nat}, xs[i]? = some x → (zBZ (xs.map F))[i * n + k]? = some v
 | [], i, h => by simp at h
 | y :: ys, 0, h => by
  have : y = x := by simpa using h
  subst this
  have hl := hn y
  simp only [zBZ, List.map_cons, List.flatMap_cons, Nat.zero_mul, Nat.zero_add]
  rw [List.getElem?_append_left (by omega)]; exact hv
 | y :: ys, i + 1, h => by
  have ih := yMI hn hk hv (xs := ys) (i := i) (by simpa using h)
  have hl := hn y
  have e : (i + 1) * n + k = (F y).cells.toList.length + (i * n + k) := by rw [hl, Nat.add_mul, Nat.one_mul]; omega
  simp only [zBZ, List.map_cons, List.flatMap_cons] at ih ⊢
  rw [e, List.getElem?_append_right (by omega), Nat.add_sub_cancel_left]
  exact ih
theorem yDA {n k : Nat} {x v : Value} (hk : k < n) (hv : x.cells.toList[k]? = some v) : ∀ {vs : List Value} {i : Nat}, (∀ y ∈ vs, y.cells.toList.length = n) → vs[i]? = some x → (zBZ vs)[i * n + k]? = some v
 | [], i, _, h => by simp at h
 | y :: ys, 0, hn, h => by
  have : y = x := by simpa using h
  subst this
  have hl := hn y List.mem_cons_self
  simp only [zBZ, List.flatMap_cons, Nat.zero_mul, Nat.zero_add]
  rw [List.getElem?_append_left (by omega)]; exact hv
 | y :: ys, i + 1, hn, h => by
  have ih := yDA hk hv (vs := ys) (i := i) (fun z hz => hn z (List.mem_cons_of_mem _ hz)) (by simpa using h)
  have hl := hn y List.mem_cons_self
  have e : (i + 1) * n + k = y.cells.toList.length + (i * n + k) := by rw [hl, Nat.add_mul, Nat.one_mul]; omega
  simp only [zBZ, List.flatMap_cons] at ih ⊢
  rw [e, List.getElem?_append_right (by omega), Nat.add_sub_cancel_left]
  exact ih
theorem WkP.dld (h : WkP σ td tv w p l q m) {i k : Nat} {n : Int} (hi : i < l) (hk : k < 5) (hv : [(Go.Proofs.YtgfiniccfpfplaaGreat.dty w i).day, (Go.Proofs.YtgfiniccfpfplaaGreat.dty w i).on, (Go.Proofs.YtgfiniccfpfplaaGreat.dty w i).lo, (Go.Proofs.YtgfiniccfpfplaaGreat.dty w i).hi, (Go.Proofs.YtgfiniccfpfplaaGreat.dty w i).route][k]? = some n) : ∃ a, p = some a ∧ zC Pg σ 3 (zK a (Int.toNat (i : Int) * 5 + k)) = some (xE n) := by
 obtain ⟨a, rfl, hr⟩ := h.dty.some hi
 have hl := h.len.1
 have hx : w.duties[i]? = some (Go.Proofs.YtgfiniccfpfplaaGreat.dty w i) := by
  unfold Go.Proofs.YtgfiniccfpfplaaGreat.dty
  rw [List.getD_eq_getElem?_getD, List.getElem?_eq_getElem (by omega)]; rfl
 refine ⟨a, rfl, ?_⟩
 rw [Int.toNat_natCast]
 refine hr.load1 zP ?_
 refine yMI (F := zDK) (fun _ => rfl) hk ?_ hx
 match k, hk with
 | 0, _ => exact congrArg (Option.map xE) hv
 | 1, _ => exact congrArg (Option.map xE) hv
 | 2, _ => exact congrArg (Option.map xE) hv
 | 3, _ => exact congrArg (Option.map xE) hv
 | 4, _ => exact congrArg (Option.map xE) hv
theorem WkP.vld (h : WkP σ td tv w p l q m) (ht : zAB Pg tv = some true) (hs : yX Pg tv = some 6) {i : Nat} (hi : i < m) : ∃ a, q = some a ∧ ∃ p l c r n d s j e, zC Pg σ tv (zK a (Int.toNat (i : Int) * 6)) = some (.agg ⟨zG p l c r n d s j e (Go.Proofs.YtgfiniccfpfplaaGreat.drv w i).off (Go.Proofs.YtgfiniccfpfplaaGreat.drv w i).row (Go.Proofs.YtgfiniccfpfplaaGreat.drv w i).used⟩) ∧
  yU σ p l (Go.Proofs.YtgfiniccfpfplaaGreat.drv w i).knows ∧ yU σ r n (Go.Proofs.YtgfiniccfpfplaaGreat.drv w i).leave ∧ yU σ s j (Go.Proofs.YtgfiniccfpfplaaGreat.drv w i).wish ∧
  ∀ (k : Nat) (v : Value), (zG p l c r n d s j e (Go.Proofs.YtgfiniccfpfplaaGreat.drv w i).off (Go.Proofs.YtgfiniccfpfplaaGreat.drv w i).row (Go.Proofs.YtgfiniccfpfplaaGreat.drv w i).used)[k]? = some v → ∀ t, zAB Pg t = some false → zC Pg σ t (zK a (Int.toNat (i : Int) * 6 + k)) = some v := by
 obtain ⟨vs, h1, h2, h3⟩ := h.drv
 obtain ⟨a, rfl, hr⟩ := h1.some hi
 have hx : w.drivers[i]? = some (Go.Proofs.YtgfiniccfpfplaaGreat.drv w i) := by
  unfold Go.Proofs.YtgfiniccfpfplaaGreat.drv
  rw [List.getD_eq_getElem?_getD, List.getElem?_eq_getElem (by omega)]; rfl
 obtain ⟨v, g1, p, l, c, r, n, d, s, j, e, rfl, g2, g3, g4⟩ := h3 i _ hx
 refine ⟨a, rfl, p, l, c, r, n, d, s, j, e, h1.at rfl g1, g2, g3, g4, ?_⟩
 intro k v hk t htt
 rw [Int.toNat_natCast]
 refine hr.load1 htt ?_
 have hk6 : k < 6 := by
  rcases Nat.lt_or_ge k 6 with h | h
  ·exact h
  ·rw [List.getElem?_eq_none (by simpa using h)] at hk; cases hk
 exact yDA hk6 (by exact hk) (fun y hy => (h1.2.2 y hy).len) g1
theorem zKS {n lo hi : Int} : zE Pg 47 [iV n, iV lo, iV hi] σ (.bool (inB n lo hi)) σ := by
 by_cases h1 : lo ≤ n <;> by_cases h2 : n ≤ hi
 ·exact (yWZ ⟨by simp [inB, h1, h2], Nat.le_refl _⟩).pure
 ·exact (yWY ⟨by simp [inB, h1, h2], Nat.le_refl _⟩).pure
 ·exact (yAM ⟨by simp [inB, h1], Nat.le_refl _⟩).pure
 ·exact (yAM ⟨by simp [inB, h1], Nat.le_refl _⟩).pure
theorem rIn_c {n lo hi : Int} : zE Pg 33 [iV n, iV lo, iV hi] σ (.bool (inB n lo hi)) σ := by
 by_cases h1 : lo ≤ n <;> by_cases h2 : n ≤ hi
 ·exact (rIn_ra ⟨by simp [inB, h1, h2], Nat.le_refl _⟩).pure
 ·exact (rIn_rb ⟨by simp [inB, h1, h2], Nat.le_refl _⟩).pure
 ·exact (rIn_rc ⟨by simp [inB, h1], Nat.le_refl _⟩).pure
 ·exact (rIn_rc ⟨by simp [inB, h1], Nat.le_refl _⟩).pure
theorem rHas_c {xs : List Int} {n : Int} (h : yU σ p l xs) (hl : l ≤ 1073741824) : zE Pg 43 [.slice p l c, iV n] σ (.bool (xs.contains n)) σ := by
 have h1 := h.re
 have e1 := h.len
 refine (rHas_ra (yPB (Inv := fun k i τ => τ = σ.re ∧ ∃ j : Nat, i = j ∧ j + k = l ∧ n ∉ xs.take j) (Qr := fun b τ => τ = σ.re ∧ b = true ∧ n ∈ xs) (Q0 := fun τ => τ = σ.re ∧ n ∉ xs) ?_ l 0 σ.re ⟨rfl, 0, rfl, by omega, by simp⟩) ?_ ?_).pure
 ·rintro k i τ ⟨rfl, j, rfl, hk, he⟩
  by_cases hi : j < l
  ·obtain ⟨a, rfl, x, hx, l1⟩ := vQ h1 hi
   by_cases hxy : x = n
   ·exact rHas_s1a l1 ⟨rfl, rfl, hxy ▸ List.mem_of_getElem? hx⟩
   ·exact rHas_s1b l1 ⟨k - 1, by omega, rfl, j + 1, by omega, by omega, by rw [uS hx, List.mem_append]; simp; exact ⟨he, fun e => hxy e.symm⟩⟩
  ·rw [List.take_of_length_le (by omega)] at he
   exact rHas_s1c ⟨rfl, he⟩
 ·rintro b τ ⟨rfl, rfl, hn⟩
  exact yOZ ⟨by simp [hn], Nat.le_refl _⟩
 ·rintro τ ⟨rfl, hn⟩
  exact yPA ⟨by simp [hn], Nat.le_refl _⟩
def vZ (xs : List Int) (lo hi : Int) : Bool := (List.range xs.length).all fun i => inB (xs.getD i 0) lo hi && (i == 0 || decide (xs.getD (i - 1) 0 < xs.getD i 0))
theorem yH {xs : List Int} {i : Nat} {x : Int} (h : xs[i]? = some x) : xs.getD i 0 = x := by rw [List.getD_eq_getElem?_getD, h]; rfl
theorem zMO {f : Nat → Bool} {n : Nat} : (List.range n).all f = true ↔ ∀ i, i < n → f i = true := by simp
theorem zWI {xs : List Int} {lo hi : Int} (h : yU σ p l xs) (hl : l ≤ 1073741824) : zE Pg 42 [.slice p l c, iV lo, iV hi] σ (.bool (vZ xs lo hi)) σ := by
 have h1 := h.re
 have e1 := h.len
 have no : ∀ j, j < l → (inB (xs.getD j 0) lo hi && (j == 0 || decide (xs.getD (j - 1) 0 < xs.getD j 0))) = false → vZ xs lo hi = false := by
  intro j hj hf
  cases hr : vZ xs lo hi with
  | false => rfl
  | true => rw [zMO.1 hr j (by omega)] at hf; cases hf
 refine (yXV (yET (Inv := fun k i τ => τ = σ.re ∧ ∃ j : Nat, i = j ∧ j + k = l ∧ ∀ i, i < j → (inB (xs.getD i 0) lo hi && (i == 0 || decide (xs.getD (i - 1) 0 < xs.getD i 0))) = true) (Qr := fun b τ => τ = σ.re ∧ b = false ∧ vZ xs lo hi = false) (Q0 := fun τ => τ = σ.re ∧ vZ xs lo hi = true) ?_ l 0 σ.re ⟨rfl, 0, rfl, by omega, fun i h => by omega⟩) ?_ ?_).pure
 ·rintro k i τ ⟨rfl, j, rfl, hk, he⟩
  by_cases hj : j < l
  ·obtain ⟨a, rfl, x, hx, l1⟩ := vQ h1 hj
   have cin := rIn_c (σ := σ.re) (n := x) (lo := lo) (hi := hi)
   have gx := yH hx
   cases hb : inB x lo hi with
   | false =>
    rw [hb] at cin
    exact yOR l1 cin ⟨rfl, rfl, no j hj (by rw [gx, hb]; rfl)⟩
   | true =>
    rw [hb] at cin
    by_cases h0 : 0 < j
    ·obtain ⟨a', ea, y, hy, l2⟩ := vQ h1 (show j - 1 < l by omega)
     cases ea
     have gy := yH hy
     have e : ((j : Int) - 1) = ((j - 1 : Nat) : Int) := by omega
     rw [← e] at l2
     by_cases hxy : x ≤ y
     ·exact yOU l1 cin l2 ⟨rfl, rfl, no j hj (by rw [gx, gy, hb]; simp; omega)⟩
     ·refine yOT l1 cin l2 ⟨k - 1, by omega, rfl, j + 1, by omega, by omega, ?_⟩
      intro i hi2
      by_cases e2 : i = j
      ·subst e2; rw [gx, gy, hb]; simp; omega
      ·exact he i (by omega)
    ·refine yOS l1 cin ⟨k - 1, by omega, rfl, j + 1, by omega, by omega, ?_⟩
     intro i hi2
     have e2 : i = j := by omega
     subst e2
     have : i = 0 := by omega
     rw [gx, hb, this]; rfl
  ·exact yOQ ⟨rfl, zMO.2 fun i hi2 => he i (by omega)⟩
 ·rintro b τ ⟨rfl, rfl, hn⟩
  exact yER ⟨by rw [hn], Nat.le_refl _⟩
 ·rintro τ ⟨rfl, hn⟩
  exact yES ⟨by rw [hn], Nat.le_refl _⟩
theorem yEN {xs : List Int} {lo hi : Int} (h : yU σ p l xs) (hl : l ≤ 1073741824) : zE Pg 71 [.slice p l c, iV lo, iV hi] σ (.bool (vZ xs lo hi)) σ := by
 have h1 := h.re
 have e1 := h.len
 have no : ∀ j, j < l → (inB (xs.getD j 0) lo hi && (j == 0 || decide (xs.getD (j - 1) 0 < xs.getD j 0))) = false → vZ xs lo hi = false := by
  intro j hj hf
  cases hr : vZ xs lo hi with
  | false => rfl
  | true => rw [zMO.1 hr j (by omega)] at hf; cases hf
 refine (rises_ra (yIO (Inv := fun k i τ => τ = σ.re ∧ ∃ j : Nat, i = j ∧ j + k = l ∧ ∀ i, i < j → (inB (xs.getD i 0) lo hi && (i == 0 || decide (xs.getD (i - 1) 0 < xs.getD i 0))) = true) (Qr := fun b τ => τ = σ.re ∧ b = false ∧ vZ xs lo hi = false) (Q0 := fun τ => τ = σ.re ∧ vZ xs lo hi = true) ?_ l 0 σ.re ⟨rfl, 0, rfl, by omega, fun i h => by omega⟩) ?_ ?_).pure
 ·rintro k i τ ⟨rfl, j, rfl, hk, he⟩
  by_cases hj : j < l
  ·obtain ⟨a, rfl, x, hx, l1⟩ := vQ h1 hj
   have cin := zKS (σ := σ.re) (n := x) (lo := lo) (hi := hi)
   have gx := yH hx
   cases hb : inB x lo hi with
   | false =>
    rw [hb] at cin
    exact yXQ l1 cin ⟨rfl, rfl, no j hj (by rw [gx, hb]; rfl)⟩
   | true =>
    rw [hb] at cin
    by_cases h0 : 0 < j
    ·obtain ⟨a', ea, y, hy, l2⟩ := vQ h1 (show j - 1 < l by omega)
     cases ea
     have gy := yH hy
     have e : ((j : Int) - 1) = ((j - 1 : Nat) : Int) := by omega
     rw [← e] at l2
     by_cases hxy : x ≤ y
     ·exact yXT l1 cin l2 ⟨rfl, rfl, no j hj (by rw [gx, gy, hb]; simp; omega)⟩
     ·refine yXS l1 cin l2 ⟨k - 1, by omega, rfl, j + 1, by omega, by omega, ?_⟩
      intro i hi2
      by_cases e2 : i = j
      ·subst e2; rw [gx, gy, hb]; simp; omega
      ·exact he i (by omega)
    ·refine yXR l1 cin ⟨k - 1, by omega, rfl, j + 1, by omega, by omega, ?_⟩
     intro i hi2
     have e2 : i = j := by omega
     subst e2
     have : i = 0 := by omega
     rw [gx, hb, this]; rfl
  ·exact yXP ⟨rfl, zMO.2 fun i hi2 => he i (by omega)⟩
 ·rintro b τ ⟨rfl, rfl, hn⟩
  exact yIM ⟨by rw [hn], Nat.le_refl _⟩
 ·rintro τ ⟨rfl, hn⟩
  exact yIN ⟨by rw [hn], Nat.le_refl _⟩
end
end Go.Proofs.YtgfiniccfpfplaaGreat
