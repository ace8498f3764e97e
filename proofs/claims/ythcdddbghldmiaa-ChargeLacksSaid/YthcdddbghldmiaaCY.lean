
import Derived.Test.YthcdddbghldmiaaHX
import Derived.Test.YthcdddbghldmiaaCC
import Derived.Test.YthcdddbghldmiaaPL
import Derived.Test.YthcdddbghldmiaaXD
namespace Go.Proofs.Ythcdddbghldmiaa
open Go Go.Lay
set_option linter.unusedVariables false
set_option linter.unusedSimpArgs false
set_option maxRecDepth 20000
abbrev natI (l : List Nat) : List Int := l.map fun i : Nat => (i : Int)
theorem natI_get {l : List Nat} {j : Nat} {x : Int} (h : (natI l)[j]? = some x) : ∃ i : Nat, l[j]? = some i ∧ x = i := by
 rw [List.getElem?_map] at h
 cases hl : l[j]? with
 | none => rw [hl] at h; cases h
 | some i => rw [hl] at h; cases h; exact ⟨i, rfl, rfl⟩
theorem sum_snoc {f : Nat → Int} {l : List Nat} {j i : Nat} (h : l[j]? = some i) : ((l.take (j + 1)).map f).sum = ((l.take j).map f).sum + f i := by rw [take_snoc h]; simp
theorem shl_small {n : Nat} (h : n ≤ 5) : wrapK .u64 (n : Int) = n ∧ binA Try.prog .shl 3 (.const (iV 1)) (.tmp 11) (iV 1) (.int .u64 (n : Int)) = some (iV ((2 ^ n : Nat) : Int)) := by
 have : n = 0 ∨ n = 1 ∨ n = 2 ∨ n = 3 ∨ n = 4 ∨ n = 5 := by omega
 rcases this with rfl | rfl | rfl | rfl | rfl | rfl <;> exact ⟨by kernel_rfl, by kernel_rfl⟩
theorem shr_nat {s n : Nat} (h : n ≤ 5) : wrapK .u64 (n : Int) = n ∧ binA Try.prog .shr 3 (.tmp 23) (.tmp 25) (iV (s : Int)) (.int .u64 (n : Int)) = some (iV ((s / 2 ^ n : Nat) : Int)) := by
 refine ⟨(shl_small h).1, ?_⟩
 have e : Op.shift .shr .i64 (s : Int) .u64 (n : Int) = pure (iV ((s / 2 ^ n : Nat) : Int)) := by
  unfold Op.shift
  rw [if_neg (by omega)]
  have e1 : min (n : Int).toNat IntKind.i64.bits = n := by
   have : IntKind.i64.bits = 64 := rfl
   omega
  show pure (Value.int .i64 (Int.fdiv (s : Int) (2 ^ (min (n : Int).toNat IntKind.i64.bits)))) = _
  rw [e1]
  congr 2
  rw [Int.ofNat_fdiv]
  congr 1
 show ((pureVal Try.prog (do eqGuard .shr 3 (.tmp 23) (.tmp 25) (iV (s : Int)) (.int .u64 (n : Int)); Op.shift .shr .i64 (s : Int) .u64 (n : Int))).filter (rigidB RD)) = _
 rw [e]; rfl
section
variable {σ τ : St} {g : Gar} {p q pb : Option Addr} {c d lb cb : Nat} {l : List Nat}
theorem sums_bd (hv : Valid g) (hl : l.length ≤ 5) : (∀ j, 0 ≤ ((l.take j).map (needI g)).sum ∧ ((l.take j).map (needI g)).sum ≤ 5000) ∧ (∀ j s, 0 ≤ ((l.take j).map fun i => rateI g i s).sum ∧ ((l.take j).map fun i => rateI g i s).sum ≤ 5000) := by
 have hj : ∀ j, (l.take j).length ≤ 5 := fun j => by rw [List.length_take]; omega
 refine ⟨fun j => ?_, fun j s => ?_⟩
 ·have := sum_bd (f := needI g) (B := 1000) (l := l.take j) (fun i _ => needI_le hv i)
  have := hj j; omega
 ·have := sum_bd (f := fun i => rateI g i s) (B := 1000) (l := l.take j) (fun i _ => rateI_le hv i s)
  have := hj j; omega
theorem mins_bd (hv : Valid g) {R : Nat → Int} (hR : ∀ s, 0 ≤ R s) (n : Nat) (hn : n ≤ 12) : 0 ≤ sumN n (fun s => min (R s) (pwS g s)) ∧ sumN n (fun s => min (R s) (pwS g s)) ≤ 12000 := by
 have := sumN_bd (n := n) (B := 1000) (f := fun s => min (R s) (pwS g s)) (fun s _ => by have := hv.pw s; have := hR s; omega)
 omega
theorem rLack_c (hR : RefP σ p g.ns q g.nb g) (hv : Valid g) (hb : IntsP σ pb lb (natI l)) (hl : RiseN g.nb 0 l) : CallsA Try.prog 48 [.agg ⟨garL p g.ns c q g.nb d⟩, .slice pb lb cb] σ (iV (lackL g l)) σ := by
 have hns := hv.ns; have hnb := hv.nb
 have hlen : l.length = lb := by have := hb.len; simpa using this
 have hl5 := hl.len
 obtain ⟨τ0, hτ0⟩ : ∃ τ0, τ0 = σ.re.row (garL p g.ns c q g.nb d) 2 := ⟨_, rfl⟩
 have hN : New σ.re τ0 := by rw [hτ0]; exact New.row _ _ _
 have o1 : Own τ0 σ.re.next (garL p g.ns c q g.nb d) 2 := by rw [hτ0]; exact own_new _ _ _
 have hle : Le σ τ0 := (le0 σ).trans hN.le
 have hB : IntsP τ0 pb lb (natI l) := SlV.le hb hle
 have hR' := hR.le hle
 obtain ⟨bN, bR⟩ := sums_bd (g := g) hv (l := l) (by omega)
 obtain ⟨N, hNd⟩ : ∃ N, N = (l.map (needI g)).sum := ⟨_, rfl⟩
 obtain ⟨R, hRd⟩ : ∃ R : Nat → Int, R = fun s => (l.map fun i => rateI g i s).sum := ⟨_, rfl⟩
 have hlk : lackL g l = max 0 (N - sumN g.ns fun s => min (R s) (pwS g s)) := by rw [hNd, hRd]; rfl
 have bNN : 0 ≤ N ∧ N ≤ 5000 := by have := bN l.length; rw [List.take_length] at this; rw [hNd]; exact this
 have bRR : ∀ s, 0 ≤ R s ∧ R s ≤ 5000 := fun s => by have := bR l.length s; rw [List.take_length] at this; rw [hRd]; exact this
 have bM := fun n (hn : n ≤ 12) => mins_bd (g := g) hv (R := R) (fun s => (bRR s).1) n hn
 refine (rLack_ra (P0 := fun n τ => τ = τ0 ∧ n = N) ?_ ?_).pure
 ·rw [← hτ0]
  refine rLack_loop1 (Inv := fun k n i τ => ∃ j : Nat, i = j ∧ j + k = lb ∧ τ = τ0 ∧ n = ((l.take j).map (needI g)).sum) ?_ lb 0 0 _ ⟨0, rfl, by omega, rfl, by simp⟩
  rintro k n i τ ⟨j, rfl, hk, rfl, rfl⟩
  by_cases hj : j < lb
  rotate_left
  ·exact rLack_s1b ⟨rfl, by rw [List.take_of_length_le (by omega), hNd]⟩
  obtain ⟨a, rfl, x, hx, ldx⟩ := slv_at hB hj
  obtain ⟨i, hi, rfl⟩ := natI_get hx
  have hib := hl.mem i (List.mem_of_getElem? hi)
  obtain ⟨aq, rfl, bus, hbus, ldb⟩ := slv_at hR'.bu hib.2
  have s1 := sum_snoc (f := needI g) hi
  rw [needI_eq hbus] at s1
  have b1 := bN j
  have b2 := bN (j + 1)
  rw [s1] at b2
  exact rLack_s1a (o1.ld rfl agg23 (k := 1) rfl) ldx ldb (rNeed_c (hv.b hbus)) ⟨k - 1, by omega, j + 1, by omega, by omega, rfl, by rw [s1]⟩
 rintro n τ ⟨rfl, rfl⟩
 refine rLack_t1x0a (P2 := fun n' τ' => τ' = τ ∧ n' = n - sumN g.ns fun s => min (R s) (pwS g s)) ?_ ?_
 rotate_left
 ·rintro n' τ' ⟨rfl, rfl⟩
  exact rLack_t2x2a max_see ⟨by rw [hlk], hN.lw⟩
 refine rLack_loop2 (Inv := fun k n' i τ' => ∃ s : Nat, i = s ∧ s + k = g.ns ∧ τ' = τ ∧ n' = n - sumN s fun s => min (R s) (pwS g s)) ?_ g.ns _ 0 _ ⟨0, rfl, by omega, rfl, by simp [sumN]⟩
 rintro k n' i τ' ⟨s, rfl, hk, rfl, rfl⟩
 by_cases hs : s < g.ns
 rotate_left
 ·have : s = g.ns := by omega
  subst this
  exact rLack_s2b (o1.ld rfl agg22 (k := 0) rfl) ⟨rfl, rfl⟩
 refine rLack_s2a (P4 := fun r τ'' => τ'' = τ' ∧ r = R s) (o1.ld rfl agg22 (k := 0) rfl) ?_ ?_
 ·refine rLack_loop3 (Inv := fun k r i τ'' => ∃ j : Nat, i = j ∧ j + k = lb ∧ τ'' = τ' ∧ r = ((l.take j).map fun i => rateI g i s).sum) ?_ lb 0 0 _ ⟨0, rfl, by omega, rfl, by simp⟩
  rintro k r i τ'' ⟨j, rfl, hk, rfl, rfl⟩
  by_cases hj : j < lb
  rotate_left
  ·exact rLack_s3c ⟨rfl, by rw [List.take_of_length_le (by omega), hRd]⟩
  obtain ⟨a, rfl, x, hx, ldx⟩ := slv_at hB hj
  obtain ⟨i, hi, rfl⟩ := natI_get hx
  have hib := hl.mem i (List.mem_of_getElem? hi)
  obtain ⟨aq, rfl, bus, hbus, ldb⟩ := slv_at hR'.bu hib.2
  have s1 := sum_snoc (f := fun i => rateI g i s) hi
  simp only [rateI_eq hbus] at s1
  have b1 := bR j s
  have b2 := bR (j + 1) s
  rw [s1] at b2
  have ct := rThere_c (σ := τ'') (b := bus) (s := (s : Int))
  cases ht : thereB bus (s : Int) with
  | false =>
   rw [ht] at ct s1
   exact rLack_s3b (o1.ld rfl agg23 (k := 1) rfl) ldx ldb ct ⟨k - 1, by omega, j + 1, by omega, by omega, rfl, by rw [s1]; simp⟩
  | true =>
   rw [ht] at ct s1 b2
   simp only [if_true] at s1 b2
   exact rLack_s3a (o1.ld rfl agg23 (k := 1) rfl) ldx ldb ct (slv_fld hR'.bu (by rw [List.getElem?_map, hbus]; rfl) (k := 2) rfl agg3) ⟨k - 1, by omega, j + 1, by omega, by omega, rfl, by rw [s1]⟩
 rintro r τ'' ⟨rfl, rfl⟩
 obtain ⟨az, rfl, y, hy, ldw, _⟩ := pw_at hR'.sl hs
 have e2 : pwS g s = y.pw := pwS_eq hy
 have b1 := bM s (by omega)
 have b2 := bM (s + 1) (by omega)
 have b3 := bRR s
 have b4 := hv.pw s
 rw [e2] at b4
 have e3 : sumN (s + 1) (fun s => min (R s) (pwS g s)) = sumN s (fun s => min (R s) (pwS g s)) + min (R s) y.pw := by simp only [sumN, e2]
 rw [e3] at b2
 exact rLack_t3x4a (o1.ld rfl agg22 (k := 0) rfl) ldw min_see ⟨k - 1, by omega, s + 1, by omega, by omega, rfl, by rw [e3]; omega⟩
theorem rRising_c (hnb : g.nb ≤ 100000) (hb : IntsP σ pb lb (natI l)) (hl : RiseN g.nb 0 l) : CallsA Try.prog 47 [.agg ⟨garL p g.ns c q g.nb d⟩, .slice pb lb cb] σ (.bool true) σ := by
 have hlen : l.length = lb := by have := hb.len; simpa using this
 have hl5 := hl.len
 obtain ⟨τ0, hτ0⟩ : ∃ τ0, τ0 = σ.re.row (garL p g.ns c q g.nb d) 2 := ⟨_, rfl⟩
 have hN : New σ.re τ0 := by rw [hτ0]; exact New.row _ _ _
 have o1 : Own τ0 σ.re.next (garL p g.ns c q g.nb d) 2 := by rw [hτ0]; exact own_new _ _ _
 have hB : IntsP τ0 pb lb (natI l) := SlV.le hb ((le0 σ).trans hN.le)
 refine (rRising_ra (Pr := fun _ _ => False) (P0 := fun τ => τ = τ0) ?_ (fun _ _ h => h.elim) ?_).pure
 rotate_left
 ·rintro τ rfl
  exact rRising_t1x0a ⟨rfl, hN.lw⟩
 rw [← hτ0]
 refine rRising_loop1 (Inv := fun k i τ => ∃ j : Nat, i = j ∧ j + k = lb ∧ τ = τ0) (Qr := fun _ _ => False) ?_ lb 0 _ ⟨0, rfl, by omega, rfl⟩
 rintro k i τ ⟨j, rfl, hk, rfl⟩
 by_cases hj : j < lb
 rotate_left
 ·exact rRising_s1e rfl
 obtain ⟨a, rfl, x, hx, ldx⟩ := slv_at hB hj
 obtain ⟨i, hi, rfl⟩ := natI_get hx
 have hib := hl.mem i (List.mem_of_getElem? hi)
 have ci := rIn_c (σ := τ) (n := (i : Int)) (lo := 0) (hi := (g.nb : Int) - 1)
 rw [show inB (i : Int) 0 ((g.nb : Int) - 1) = true from inB_iff.2 (by omega)] at ci
 by_cases h0 : j = 0
 ·subst h0
  exact rRising_s1c ldx (o1.ld rfl agg23 (k := 1) rfl) ci ⟨k - 1, by omega, 1, by omega, by omega, rfl⟩
 obtain ⟨_, e, y, hy, ldy⟩ := slv_at hB (i := j - 1) (by omega)
 cases e
 obtain ⟨i', hi', rfl⟩ := natI_get hy
 have hlt : i' < i := by
  have h1 := List.pairwise_iff_getElem.1 (rise_iff.1 hl).1 (j - 1) j (by omega) (by omega) (by omega)
  have e1 := (List.getElem?_eq_some_iff.1 hi).2
  have e2 := (List.getElem?_eq_some_iff.1 hi').2
  rw [e1, e2] at h1; exact h1
 have ej : ((j - 1 : Nat) : Int) = (j : Int) - 1 := by omega
 rw [ej] at ldy
 exact rRising_s1b ldx (o1.ld rfl agg23 (k := 1) rfl) ci ldy ⟨k - 1, by omega, j + 1, by omega, by omega, rfl⟩
theorem bits_step {n set i : Nat} : (List.range (i + 1)).filter (bitB set) = (List.range i).filter (bitB set) ++ if bitB set i then [i] else [] := by
 rw [List.range_succ, List.filter_append]
 cases h : bitB set i <;> simp [h]
theorem rMost_c (hR : RefP σ p g.ns q g.nb g) (hv : Valid g) : CallsA Try.prog 46 [.agg ⟨garL p g.ns c q g.nb d⟩] σ (iV (mostTo g (2 ^ g.nb))) σ := by
 have hns := hv.ns; have hnb := hv.nb
 obtain ⟨n0, hn0⟩ : ∃ n0, n0 = σ.re.next := ⟨_, rfl⟩
 have h32 : 2 ^ g.nb ≤ 32 := by
  have : (2 : Nat) ^ g.nb ≤ 2 ^ 5 := Nat.pow_le_pow_right (by omega) hnb
  exact this
 obtain ⟨z1, z2⟩ := shl_small hnb
 refine (rMost_ra (P0 := fun n τ => New σ.re τ ∧ n = mostTo g (2 ^ g.nb)) ?_ ?_).pure
 rotate_left
 ·rintro n τ ⟨h1, rfl⟩
  exact rMost_t1x0a ⟨rfl, h1.lw⟩
 refine rMost_loop1 (Inv := fun k n i τ => ∃ j : Nat, i = j ∧ j + k = 2 ^ g.nb ∧ New σ.re τ ∧ Own τ n0 (garL p g.ns c q g.nb d) 2 ∧ n = mostTo g j) ?_ (2 ^ g.nb) 0 0 _ ⟨0, rfl, by omega, New.row _ _ _, by rw [hn0]; exact own_new _ _ _, rfl⟩
 rintro k n i τ ⟨j, rfl, hk, hN, o1, rfl⟩
 rw [← hn0]
 by_cases hj : j < 2 ^ g.nb
 rotate_left
 ·have : j = 2 ^ g.nb := by omega
  subst this
  exact rMost_s1b (o1.ld rfl agg23 (k := 1) rfl) z1 z2 ⟨hN, rfl⟩
 refine rMost_s1a (P2 := fun p5 l5 c5 τ' => New τ τ' ∧ Gr Try.prog τ' τ.next 3 1 p5 l5 c5 ((natI (bitsL g.nb j)).map intV)) (o1.ld rfl agg23 (k := 1) rfl) z1 z2 ?_ ?_
 ·refine rMost_loop2 (Inv := fun k p5 l5 c5 i τ' => ∃ b : Nat, i = b ∧ b + k = g.nb ∧ New τ τ' ∧ Gr Try.prog τ' τ.next 3 1 p5 l5 c5 ((natI ((List.range b).filter (bitB j))).map intV)) ?_ g.nb none 0 0 0 _ ⟨0, rfl, by omega, New.refl _, Gr.nil⟩
  rintro k p5 l5 c5 i τ' ⟨b, rfl, hk, h1, h2⟩
  have o1' := o1.le h1.le
  by_cases hb : b < g.nb
  rotate_left
  ·have : b = g.nb := by omega
   subst this
   exact rMost_s2c (o1'.ld rfl agg23 (k := 1) rfl) ⟨h1, h2⟩
  obtain ⟨y1, y2⟩ := shr_nat (s := j) (n := b) (by omega)
  have hm : Int.tmod ((j / 2 ^ b : Nat) : Int) 2 = ((j / 2 ^ b % 2 : Nat) : Int) := (Int.ofNat_tmod _ _).symm
  have hst := bits_step (n := g.nb) (set := j) (i := b)
  have hlb : l5 ≤ 5 := by
   have e1 := h2.len_eq
   have e2 := List.length_filter_le (bitB j) (List.range b)
   simp only [List.length_map, List.length_range] at e1 e2
   omega
  cases hbit : bitB j b with
  | true =>
   rw [hbit] at hst
   have hbit : j / 2 ^ b % 2 = 1 := by simpa [bitB] using hbit
   obtain ⟨p', c', τ2, a1, a2, a3, a4, a5⟩ := grow (σ0 := τ) (τ := τ') (intV (b : Int)) appT_ints h2 h1 (New.refl _) (elOk_int _) (by omega)
   exact rMost_s2a (o1'.ld rfl agg23 (k := 1) rfl) y1 y2 a1 ⟨k - 1, by omega, b + 1, by omega, by omega, a3, by rw [hst]; simpa using a2⟩
  | false =>
   rw [hbit] at hst
   have hbit : ¬ j / 2 ^ b % 2 = 1 := by simpa [bitB] using hbit
   exact rMost_s2b (o1'.ld rfl agg23 (k := 1) rfl) y1 y2 ⟨k - 1, by omega, b + 1, by omega, by omega, h1, by rw [hst]; simpa using h2⟩
 rintro p5 l5 c5 τ' ⟨h1, h2⟩
 have h3 := hN.trans h1
 have o1' := o1.le h1.le
 have cl := rLack_c (c := c) (d := d) (cb := c5) (hR.le ((le0 σ).trans h3.le)) hv (show IntsP τ' p5 l5 (natI (bitsL g.nb j)) from h2.slv) bitsL_rise
 exact rMost_t2x2a (o1'.ldN agg25 size25 (k := 0) rfl rfl (by simp)) cl max_see ⟨k - 1, by omega, j + 1, by omega, by omega, h3, o1', by rw [mostTo]⟩
end
end Go.Proofs.Ythcdddbghldmiaa
