
import Derived.Test.YthcdddbghldmiaaCC
import Derived.Test.YthcdddbghldmiaaPA
namespace Go.Proofs.Ythcdddbghldmiaa
open Go Go.Lay
set_option linter.unusedVariables false
set_option linter.unusedSimpArgs false
set_option maxRecDepth 20000
structure Upto (g : Gar) (rs : List (List Int)) (i : Nat) : Prop where
 row : ∀ i', i' < i → ∀ r, rs[i']? = some r → r.length = g.ns
 cap : ∀ i', i' < i → ∀ b, g.buses[i']? = some b → ∀ s, s < g.ns → 0 ≤ cell rs i' s ∧ cell rs i' s ≤ b.rate ∧ (0 < cell rs i' s → thereB b s = true)
 need : ∀ i', i' < i → ∀ b, g.buses[i']? = some b → needZ b ≤ sumN g.ns (cell rs i')
 pow : ∀ s, s < g.ns → sumN i (fun i' => cell rs i' s) ≤ pwS g s
def UptoS (g : Gar) (rs : List (List Int)) (i : Nat) (b : Bus) (s : Nat) : Prop := ∀ s', s' < s → (0 ≤ cell rs i s' ∧ cell rs i s' ≤ b.rate ∧ (0 < cell rs i s' → thereB b s' = true)) ∧ sumN (i + 1) (fun i' => cell rs i' s') ≤ pwS g s'
theorem Upto.zero {g : Gar} {rs : List (List Int)} (hv : Valid g) : Upto g rs 0 := ⟨fun _ h => by omega, fun _ h => by omega, fun _ h => by omega, fun s _ => by simp only [sumN]; exact (hv.pw s).1⟩
theorem Upto.next {g : Gar} {rs : List (List Int)} {i : Nat} {b : Bus} {r : List Int} (h : Upto g rs i) (hb : g.buses[i]? = some b) (hr : rs[i]? = some r) (hl : r.length = g.ns) (hs : UptoS g rs i b g.ns) (hn : needZ b ≤ sumN g.ns (cell rs i)) : Upto g rs (i + 1) := by
 refine ⟨fun i' hi r' hr' => ?_, fun i' hi b' hb' => ?_, fun i' hi b' hb' => ?_, fun s hs' => (hs s hs').2⟩
 ·by_cases e : i' = i
  ·subst e; rw [hr] at hr'; cases hr'; exact hl
  ·exact h.row i' (by omega) r' hr'
 ·by_cases e : i' = i
  ·subst e; rw [hb] at hb'; cases hb'; exact fun s hs' => (hs s hs').1
  ·exact h.cap i' (by omega) b' hb'
 ·by_cases e : i' = i
  ·subst e; rw [hb] at hb'; cases hb'; exact hn
  ·exact h.need i' (by omega) b' hb'
theorem Upto.all {g : Gar} {rs : List (List Int)} (h : Upto g rs g.nb) (hl : rs.length = g.nb) : PlanOK g rs :=
 ⟨hl, fun r hr => by obtain ⟨i, hi⟩ := List.getElem?_of_mem hr; exact h.row i (by have := (List.getElem?_eq_some_iff.1 hi).1; rw [hl] at this; exact this) r hi, fun i b hb => h.cap i (List.getElem?_eq_some_iff.1 hb).1 b hb, fun i b hb => h.need i (List.getElem?_eq_some_iff.1 hb).1 b hb, h.pow⟩
theorem PlanOK.pre {g : Gar} {rs : List (List Int)} (h : PlanOK g rs) {i s : Nat} (hi : i ≤ g.nb) (hs : s < g.ns) : sumN i (fun i' => cell rs i' s) ≤ pwS g s :=
 Int.le_trans (sumN_mono (fun j hj => by obtain ⟨b, hb⟩ := bus_at hj; exact (h.cap j b hb s hs).1) hi) (h.pow s hs)
def pz (rs : List (List Int)) (i s : Nat) (s' : Nat) : Int := sumN i (fun i' => cell rs i' s') + if s' < s then cell rs i s' else 0
theorem pz_bd {g : Gar} {rs : List (List Int)} {i s s' : Nat} {b : Bus} (hv : Valid g) (h : Upto g rs i) (hb : g.buses[i]? = some b) (hs : UptoS g rs i b s) (hss : s ≤ g.ns) (h' : s' < g.ns) : 0 ≤ pz rs i s s' ∧ pz rs i s s' ≤ 1000 := by
 have hi : i < g.nb := (List.getElem?_eq_some_iff.1 hb).1
 have h1 : 0 ≤ sumN i (fun i' => cell rs i' s') := sumN_nn (fun i' hi' => by obtain ⟨b', hb'⟩ := bus_at (g := g) (i := i') (by omega); exact (h.cap i' hi' b' hb' s' h').1)
 have h2 := h.pow s' h'
 have h3 := hv.pw s'
 unfold pz
 split
 ·rename_i hlt
  obtain ⟨⟨k1, _, _⟩, k2⟩ := hs s' hlt
  simp only [sumN] at k2
  omega
 ·omega
theorem pz_step {rs : List (List Int)} {i s : Nat} : (fun s' => if s' = s then pz rs i s s + cell rs i s else pz rs i s s') = pz rs i (s + 1) := by
 funext s'
 unfold pz
 by_cases h1 : s' = s
 ·subst h1; simp
 ·rw [if_neg h1]
  by_cases h2 : s' < s
  ·rw [if_pos h2, if_pos (by omega)]
  ·rw [if_neg h2, if_neg (by omega)]
theorem pz_row {g : Gar} {rs : List (List Int)} {i : Nat} {r : List Int} (hr : rs[i]? = some r) (hl : r.length = g.ns) : pz rs i g.ns = pz rs (i + 1) 0 := by
 funext s'
 unfold pz
 simp only [sumN, Nat.not_lt_zero, if_false]
 by_cases h : s' < g.ns
 ·rw [if_pos h]; omega
 ·rw [if_neg h, cell_row hr]
  have : r.getD s' 0 = 0 := by simp [List.getD_eq_getElem?_getD, List.getElem?_eq_none (show r.length ≤ s' by omega)]
  rw [this]; omega
theorem pz_zero {rs : List (List Int)} : pz rs 0 0 = fun _ => 0 := by funext s; simp [pz, sumN]
section
variable {σ : St}
end
end Go.Proofs.Ythcdddbghldmiaa
