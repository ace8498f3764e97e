
import Derived.Test.YthcdddbghldmiaaCA
namespace Go.Proofs.Ythcdddbghldmiaa
set_option linter.unusedVariables false
def sumN : Nat → (Nat → Int) → Int
 | 0, _ => 0
 | n + 1, f => sumN n f + f n
section
variable {f g : Nat → Int} {n m : Nat}
theorem sumN_congr : ∀ {n : Nat}, (∀ i, i < n → f i = g i) → sumN n f = sumN n g
 | 0, _ => rfl
 | n + 1, h => by simp only [sumN]; rw [sumN_congr (fun i hi => h i (by omega)), h n (by omega)]
theorem sumN_le : ∀ {n : Nat}, (∀ i, i < n → f i ≤ g i) → sumN n f ≤ sumN n g
 | 0, _ => Int.le_refl _
 | n + 1, h => by
  have h1 := sumN_le (n := n) (fun i hi => h i (by omega))
  have h2 := h n (by omega)
  simp only [sumN]; omega
theorem sumN_zero : ∀ {n : Nat}, (∀ i, i < n → f i = 0) → sumN n f = 0
 | 0, _ => rfl
 | n + 1, h => by simp only [sumN]; rw [sumN_zero (fun i hi => h i (by omega)), h n (by omega)]; rfl
theorem sumN_nn : ∀ {n : Nat}, (∀ i, i < n → 0 ≤ f i) → 0 ≤ sumN n f
 | 0, _ => Int.le_refl _
 | n + 1, h => by
  have h1 := sumN_nn (n := n) (fun i hi => h i (by omega))
  have h2 := h n (by omega)
  simp only [sumN]; omega
theorem sumN_add : ∀ {n : Nat}, sumN n (fun i => f i + g i) = sumN n f + sumN n g
 | 0 => rfl
 | n + 1 => by simp only [sumN]; rw [sumN_add]; omega
theorem sumN_sub : ∀ {n : Nat}, sumN n (fun i => f i - g i) = sumN n f - sumN n g
 | 0 => rfl
 | n + 1 => by simp only [sumN]; rw [sumN_sub]; omega
theorem sumN_mul {c : Int} : ∀ {n : Nat}, sumN n (fun i => c * f i) = c * sumN n f
 | 0 => by simp [sumN]
 | n + 1 => by simp only [sumN]; rw [sumN_mul, Int.mul_add]
theorem sumN_mul' {c : Int} : ∀ {n : Nat}, sumN n (fun i => f i * c) = sumN n f * c
 | 0 => by simp [sumN]
 | n + 1 => by simp only [sumN]; rw [sumN_mul', Int.add_mul]
theorem sumN_swap {F : Nat → Nat → Int} : ∀ {n m : Nat}, sumN n (fun i => sumN m (fun s => F i s)) = sumN m (fun s => sumN n (fun i => F i s))
 | 0, m => by simp only [sumN]; exact (sumN_zero (fun _ _ => rfl)).symm
 | n + 1, m => by simp only [sumN]; rw [sumN_swap, ← sumN_add]
theorem sumN_mono (h : ∀ i, i < n → 0 ≤ f i) (hm : m ≤ n) : sumN m f ≤ sumN n f := by
  induction n with
  | zero => have : m = 0 := by omega
            subst this; exact Int.le_refl _
  | succ n ih =>
    by_cases e : m = n + 1
    · subst e; exact Int.le_refl _
    · have := ih (fun i hi => h i (by omega)) (by omega)
      have := h n (by omega)
      simp only [sumN]; omega
theorem sumN_one (h : ∀ i, i < n → 0 ≤ f i) {k : Nat} (hk : k < n) : f k ≤ sumN n f := by
 have h1 := sumN_mono (m := k + 1) h (by omega)
 have h2 := sumN_nn (n := k) (f := f) (fun i hi => h i (by omega))
 simp only [sumN] at h1; omega
theorem sumN_bd {B : Int} : ∀ {n : Nat}, (∀ i, i < n → 0 ≤ f i ∧ f i ≤ B) → 0 ≤ sumN n f ∧ sumN n f ≤ n * B
 | 0, _ => by simp [sumN]
 | n + 1, h => by
  have h1 := sumN_bd (n := n) (fun i hi => h i (by omega))
  have h2 := h n (by omega)
  simp only [sumN]
  have e : ((n + 1 : Nat) : Int) * B = n * B + B := by rw [Int.natCast_succ, Int.add_mul, Int.one_mul]
  rw [e]; omega
theorem sumN_upd {d : Int} {k : Nat} (hk : k < n) (h : ∀ i, i < n → i ≠ k → g i = f i) (hd : g k = f k + d) : sumN n g = sumN n f + d := by
 induction n with
 | zero => omega
 | succ n ih =>
  simp only [sumN]
  by_cases e : k = n
  ·subst e
   rw [sumN_congr (f := g) (g := f) (fun i hi => h i (by omega) (by omega)), hd]; omega
  ·rw [ih (by omega) (fun i hi hne => h i (by omega) hne), h n (by omega) (by omega)]; omega
end
def cell (rs : List (List Int)) (i s : Nat) : Int := (rs.getD i []).getD s 0
def pwS (g : Gar) (s : Nat) : Int := (g.slots.map (·.pw)).getD s 0
def prS (g : Gar) (s : Nat) : Int := (g.slots.map (·.pr)).getD s 0
abbrev Gar.ns (g : Gar) : Nat := g.slots.length
abbrev Gar.nb (g : Gar) : Nat := g.buses.length
theorem pwS_eq {g : Gar} {s : Nat} {x : Slot} (h : g.slots[s]? = some x) : pwS g s = x.pw := by simp [pwS, h]
theorem prS_eq {g : Gar} {s : Nat} {x : Slot} (h : g.slots[s]? = some x) : prS g s = x.pr := by simp [prS, h]
structure PlanOK (g : Gar) (rs : List (List Int)) : Prop where
 len : rs.length = g.nb
 row : ∀ r ∈ rs, r.length = g.ns
 cap : ∀ (i : Nat) (b : Bus), g.buses[i]? = some b → ∀ s, s < g.ns → 0 ≤ cell rs i s ∧ cell rs i s ≤ b.rate ∧ (0 < cell rs i s → thereB b s = true)
 need : ∀ (i : Nat) (b : Bus), g.buses[i]? = some b → needZ b ≤ sumN g.ns (cell rs i)
 pow : ∀ s, s < g.ns → sumN g.nb (fun i => cell rs i s) ≤ pwS g s
def costZ (g : Gar) (rs : List (List Int)) : Int := sumN g.nb fun i => sumN g.ns fun s => cell rs i s * prS g s
structure Valid (g : Gar) : Prop where
 ns : g.ns ≤ 12
 nb : g.nb ≤ 5
 slot : ∀ s ∈ g.slots, slotB s = true
 bus : ∀ b ∈ g.buses, busB b = true
theorem valid_of {g : Gar} (h : checkZ g = 0) : Valid g := by obtain ⟨h1, h2, h3, h4⟩ := check_zero h; exact ⟨h1, h2, h3, h4⟩
theorem Valid.pw {g : Gar} (h : Valid g) (s : Nat) : 0 ≤ pwS g s ∧ pwS g s ≤ 1000 := by
 unfold pwS
 cases hs : g.slots[s]? with
 | none => simp [hs]
 | some x =>
  have := h.slot x (List.mem_of_getElem? hs)
  simp only [slotB, inB, Bool.and_eq_true, decide_eq_true_eq] at this
  simp [hs]; omega
theorem Valid.pr {g : Gar} (h : Valid g) (s : Nat) : 0 ≤ prS g s ∧ prS g s ≤ 1000 := by
 unfold prS
 cases hs : g.slots[s]? with
 | none => simp [hs]
 | some x =>
  have := h.slot x (List.mem_of_getElem? hs)
  simp only [slotB, inB, Bool.and_eq_true, decide_eq_true_eq] at this
  simp [hs]; omega
theorem Valid.b {g : Gar} (h : Valid g) {i : Nat} {b : Bus} (hb : g.buses[i]? = some b) : busB b = true := h.bus b (List.mem_of_getElem? hb)
theorem bus_at {g : Gar} {i : Nat} (h : i < g.nb) : ∃ b, g.buses[i]? = some b := ⟨g.buses[i], by simp⟩
theorem mul_bd {a b : Int} (h1 : 0 ≤ a) (h2 : a ≤ 1000) (h3 : 0 ≤ b) (h4 : b ≤ 1000) : 0 ≤ a * b ∧ a * b ≤ 1000000 :=
 ⟨Int.mul_nonneg h1 h3, Int.le_trans (Int.mul_le_mul h2 h4 h3 (by omega)) (by omega)⟩
end Go.Proofs.Ythcdddbghldmiaa
