
import Derived.Test.YthcdddbghldmiaaHX
import Derived.Test.YthcdddbghldmiaaCC
import Derived.Test.YthcdddbghldmiaaPL
import Derived.Test.YthcdddbghldmiaaXD
namespace Go.Proofs.Ythcdddbghldmiaa
open Go Go.Lay
set_option linter.unusedVariables false
set_option linter.unusedSimpArgs false
set_option maxRecDepth 20000
abbrev natI (l : List Nat) : List Int := l.map fun i : Nat => (i : Int)
theorem natI_get {l : List Nat} {j : Nat} {x : Int} (h : (natI l)[j]? = some x) : ∃ i : Nat, l[j]? = some i ∧ x = i := by
 rw [List.getElem?_map] at h
 cases hl : l[j]? with
 | none => rw [hl] at h; cases h
 | some i => rw [hl] at h; cases h; exact ⟨i, rfl, rfl⟩
theorem sum_snoc {f : Nat → Int} {l : List Nat} {j i : Nat} (h : l[j]? = some i) : ((l.take (j + 1)).map f).sum = ((l.take j).map f).sum + f i := by rw [take_snoc h]; simp
section
variable {σ τ : St} {g : Gar} {p q pb : Option Addr} {c d lb cb : Nat} {l : List Nat}
theorem sums_bd (hv : Valid g) (hl : l.length ≤ 5) : (∀ j, 0 ≤ ((l.take j).map (needI g)).sum ∧ ((l.take j).map (needI g)).sum ≤ 5000) ∧ (∀ j s, 0 ≤ ((l.take j).map fun i => rateI g i s).sum ∧ ((l.take j).map fun i => rateI g i s).sum ≤ 5000) := by
 have hj : ∀ j, (l.take j).length ≤ 5 := fun j => by rw [List.length_take]; omega
 refine ⟨fun j => ?_, fun j s => ?_⟩
 ·have := sum_bd (f := needI g) (B := 1000) (l := l.take j) (fun i _ => needI_le hv i)
  have := hj j; omega
 ·have := sum_bd (f := fun i => rateI g i s) (B := 1000) (l := l.take j) (fun i _ => rateI_le hv i s)
  have := hj j; omega
theorem mins_bd (hv : Valid g) {R : Nat → Int} (hR : ∀ s, 0 ≤ R s) (n : Nat) (hn : n ≤ 12) : 0 ≤ sumN n (fun s => min (R s) (pwS g s)) ∧ sumN n (fun s => min (R s) (pwS g s)) ≤ 12000 := by
 have := sumN_bd (n := n) (B := 1000) (f := fun s => min (R s) (pwS g s)) (fun s _ => by have := hv.pw s; have := hR s; omega)
 omega
theorem rLack_c (hR : RefP σ p g.ns q g.nb g) (hv : Valid g) (hb : IntsP σ pb lb (natI l)) (hl : RiseN g.nb 0 l) : CallsA Try.prog 48 [.agg ⟨garL p g.ns c q g.nb d⟩, .slice pb lb cb] σ (iV (lackL g l)) σ := by
 have hns := hv.ns; have hnb := hv.nb
 have hlen : l.length = lb := by have := hb.len; simpa using this
 have hl5 := hl.len
 obtain ⟨τ0, hτ0⟩ : ∃ τ0, τ0 = σ.re.row (garL p g.ns c q g.nb d) 2 := ⟨_, rfl⟩
 have hN : New σ.re τ0 := by rw [hτ0]; exact New.row _ _ _
 have o1 : Own τ0 σ.re.next (garL p g.ns c q g.nb d) 2 := by rw [hτ0]; exact own_new _ _ _
 have hle : Le σ τ0 := (le0 σ).trans hN.le
 have hB : IntsP τ0 pb lb (natI l) := SlV.le hb hle
 have hR' := hR.le hle
 obtain ⟨bN, bR⟩ := sums_bd (g := g) hv (l := l) (by omega)
 obtain ⟨N, hNd⟩ : ∃ N, N = (l.map (needI g)).sum := ⟨_, rfl⟩
 obtain ⟨R, hRd⟩ : ∃ R : Nat → Int, R = fun s => (l.map fun i => rateI g i s).sum := ⟨_, rfl⟩
 have hlk : lackL g l = max 0 (N - sumN g.ns fun s => min (R s) (pwS g s)) := by rw [hNd, hRd]; rfl
 have bNN : 0 ≤ N ∧ N ≤ 5000 := by have := bN l.length; rw [List.take_length] at this; rw [hNd]; exact this
 have bRR : ∀ s, 0 ≤ R s ∧ R s ≤ 5000 := fun s => by have := bR l.length s; rw [List.take_length] at this; rw [hRd]; exact this
 have bM := fun n (hn : n ≤ 12) => mins_bd (g := g) hv (R := R) (fun s => (bRR s).1) n hn
 refine (rLack_ra (P0 := fun n τ => τ = τ0 ∧ n = N) ?_ ?_).pure
 ·rw [← hτ0]
  refine rLack_loop1 (Inv := fun k n i τ => ∃ j : Nat, i = j ∧ j + k = lb ∧ τ = τ0 ∧ n = ((l.take j).map (needI g)).sum) ?_ lb 0 0 _ ⟨0, rfl, by omega, rfl, by simp⟩
  rintro k n i τ ⟨j, rfl, hk, rfl, rfl⟩
  by_cases hj : j < lb
  rotate_left
  ·exact rLack_s1b ⟨rfl, by rw [List.take_of_length_le (by omega), hNd]⟩
  obtain ⟨a, rfl, x, hx, ldx⟩ := slv_at hB hj
  obtain ⟨i, hi, rfl⟩ := natI_get hx
  have hib := hl.mem i (List.mem_of_getElem? hi)
  obtain ⟨aq, rfl, bus, hbus, ldb⟩ := slv_at hR'.bu hib.2
  have s1 := sum_snoc (f := needI g) hi
  rw [needI_eq hbus] at s1
  have b1 := bN j
  have b2 := bN (j + 1)
  rw [s1] at b2
  exact rLack_s1a (o1.ld rfl agg23 (k := 1) rfl) ldx ldb (rNeed_c (hv.b hbus)) ⟨k - 1, by omega, j + 1, by omega, by omega, rfl, by rw [s1]⟩
 rintro n τ ⟨rfl, rfl⟩
 refine rLack_t1x0a (P2 := fun n' τ' => τ' = τ ∧ n' = n - sumN g.ns fun s => min (R s) (pwS g s)) ?_ ?_
 rotate_left
 ·rintro n' τ' ⟨rfl, rfl⟩
  exact rLack_t2x2a max_see ⟨by rw [hlk], hN.lw⟩
 refine rLack_loop2 (Inv := fun k n' i τ' => ∃ s : Nat, i = s ∧ s + k = g.ns ∧ τ' = τ ∧ n' = n - sumN s fun s => min (R s) (pwS g s)) ?_ g.ns _ 0 _ ⟨0, rfl, by omega, rfl, by simp [sumN]⟩
 rintro k n' i τ' ⟨s, rfl, hk, rfl, rfl⟩
 by_cases hs : s < g.ns
 rotate_left
 ·have : s = g.ns := by omega
  subst this
  exact rLack_s2b (o1.ld rfl agg22 (k := 0) rfl) ⟨rfl, rfl⟩
 refine rLack_s2a (P4 := fun r τ'' => τ'' = τ' ∧ r = R s) (o1.ld rfl agg22 (k := 0) rfl) ?_ ?_
 ·refine rLack_loop3 (Inv := fun k r i τ'' => ∃ j : Nat, i = j ∧ j + k = lb ∧ τ'' = τ' ∧ r = ((l.take j).map fun i => rateI g i s).sum) ?_ lb 0 0 _ ⟨0, rfl, by omega, rfl, by simp⟩
  rintro k r i τ'' ⟨j, rfl, hk, rfl, rfl⟩
  by_cases hj : j < lb
  rotate_left
  ·exact rLack_s3c ⟨rfl, by rw [List.take_of_length_le (by omega), hRd]⟩
  obtain ⟨a, rfl, x, hx, ldx⟩ := slv_at hB hj
  obtain ⟨i, hi, rfl⟩ := natI_get hx
  have hib := hl.mem i (List.mem_of_getElem? hi)
  obtain ⟨aq, rfl, bus, hbus, ldb⟩ := slv_at hR'.bu hib.2
  have s1 := sum_snoc (f := fun i => rateI g i s) hi
  simp only [rateI_eq hbus] at s1
  have b1 := bR j s
  have b2 := bR (j + 1) s
  rw [s1] at b2
  have ct := rThere_c (σ := τ'') (b := bus) (s := (s : Int))
  cases ht : thereB bus (s : Int) with
  | false =>
   rw [ht] at ct s1
   exact rLack_s3b (o1.ld rfl agg23 (k := 1) rfl) ldx ldb ct ⟨k - 1, by omega, j + 1, by omega, by omega, rfl, by rw [s1]; simp⟩
  | true =>
   rw [ht] at ct s1 b2
   simp only [if_true] at s1 b2
   exact rLack_s3a (o1.ld rfl agg23 (k := 1) rfl) ldx ldb ct (slv_fld hR'.bu (by rw [List.getElem?_map, hbus]; rfl) (k := 2) rfl agg3) ⟨k - 1, by omega, j + 1, by omega, by omega, rfl, by rw [s1]⟩
 rintro r τ'' ⟨rfl, rfl⟩
 obtain ⟨az, rfl, y, hy, ldw, _⟩ := pw_at hR'.sl hs
 have e2 : pwS g s = y.pw := pwS_eq hy
 have b1 := bM s (by omega)
 have b2 := bM (s + 1) (by omega)
 have b3 := bRR s
 have b4 := hv.pw s
 rw [e2] at b4
 have e3 : sumN (s + 1) (fun s => min (R s) (pwS g s)) = sumN s (fun s => min (R s) (pwS g s)) + min (R s) y.pw := by simp only [sumN, e2]
 rw [e3] at b2
 exact rLack_t3x4a (o1.ld rfl agg22 (k := 0) rfl) ldw min_see ⟨k - 1, by omega, s + 1, by omega, by omega, rfl, by rw [e3]; omega⟩
theorem rRising_c (hnb : g.nb ≤ 100000) (hb : IntsP σ pb lb (natI l)) (hl : RiseN g.nb 0 l) : CallsA Try.prog 47 [.agg ⟨garL p g.ns c q g.nb d⟩, .slice pb lb cb] σ (.bool true) σ := by
 have hlen : l.length = lb := by have := hb.len; simpa using this
 have hl5 := hl.len
 obtain ⟨τ0, hτ0⟩ : ∃ τ0, τ0 = σ.re.row (garL p g.ns c q g.nb d) 2 := ⟨_, rfl⟩
 have hN : New σ.re τ0 := by rw [hτ0]; exact New.row _ _ _
 have o1 : Own τ0 σ.re.next (garL p g.ns c q g.nb d) 2 := by rw [hτ0]; exact own_new _ _ _
 have hB : IntsP τ0 pb lb (natI l) := SlV.le hb ((le0 σ).trans hN.le)
 refine (rRising_ra (Pr := fun _ _ => False) (P0 := fun τ => τ = τ0) ?_ (fun _ _ h => h.elim) ?_).pure
 rotate_left
 ·rintro τ rfl
  exact rRising_t1x0a ⟨rfl, hN.lw⟩
 rw [← hτ0]
 refine rRising_loop1 (Inv := fun k i τ => ∃ j : Nat, i = j ∧ j + k = lb ∧ τ = τ0) (Qr := fun _ _ => False) ?_ lb 0 _ ⟨0, rfl, by omega, rfl⟩
 rintro k i τ ⟨j, rfl, hk, rfl⟩
 by_cases hj : j < lb
 rotate_left
 ·exact rRising_s1e rfl
 obtain ⟨a, rfl, x, hx, ldx⟩ := slv_at hB hj
 obtain ⟨i, hi, rfl⟩ := natI_get hx
 have hib := hl.mem i (List.mem_of_getElem? hi)
 have ci := rIn_c (σ := τ) (n := (i : Int)) (lo := 0) (hi := (g.nb : Int) - 1)
 rw [show inB (i : Int) 0 ((g.nb : Int) - 1) = true from inB_iff.2 (by omega)] at ci
 by_cases h0 : j = 0
 ·subst h0
  exact rRising_s1c ldx (o1.ld rfl agg23 (k := 1) rfl) ci ⟨k - 1, by omega, 1, by omega, by omega, rfl⟩
 obtain ⟨_, e, y, hy, ldy⟩ := slv_at hB (i := j - 1) (by omega)
 cases e
 obtain ⟨i', hi', rfl⟩ := natI_get hy
 have hlt : i' < i := by
  have h1 := List.pairwise_iff_getElem.1 (rise_iff.1 hl).1 (j - 1) j (by omega) (by omega) (by omega)
  have e1 := (List.getElem?_eq_some_iff.1 hi).2
  have e2 := (List.getElem?_eq_some_iff.1 hi').2
  rw [e1, e2] at h1; exact h1
 have ej : ((j - 1 : Nat) : Int) = (j : Int) - 1 := by omega
 rw [ej] at ldy
 exact rRising_s1b ldx (o1.ld rfl agg23 (k := 1) rfl) ci ldy ⟨k - 1, by omega, j + 1, by omega, by omega, rfl⟩
end
end Go.Proofs.Ythcdddbghldmiaa
