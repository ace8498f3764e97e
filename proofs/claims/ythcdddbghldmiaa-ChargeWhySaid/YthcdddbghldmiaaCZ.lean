
import Derived.Test.YthcdddbghldmiaaCY
import Derived.Test.YthcdddbghldmiaaCQ
import Derived.Test.YthcdddbghldmiaaCC
import Derived.Test.YthcdddbghldmiaaPA
namespace Go.Proofs.Ythcdddbghldmiaa
open Go Go.Lay
set_option linter.unusedVariables false
set_option linter.unusedSimpArgs false
set_option maxRecDepth 20000
section
variable {σ τ : St} {g : Gar} {p q pb : Option Addr} {c d lb cb : Nat} {l : List Nat}
def rtv (g : Gar) (l : List Nat) (j t : Nat) : Nat → Int := fun s => if s < t then ((l.take (j + 1)).map fun i => rateI g i s).sum else if s < g.ns then ((l.take j).map fun i => rateI g i s).sum else 0
theorem rtv_zero : rtv g l 0 0 = fun _ => 0 := by
 funext s
 unfold rtv
 rw [if_neg (by omega)]
 split <;> simp
theorem rtv_full {j : Nat} : rtv g l j g.ns = rtv g l (j + 1) 0 := by
 funext s
 unfold rtv
 by_cases h : s < g.ns
 ·rw [if_pos h, if_neg (by omega), if_pos h]
 ·rw [if_neg h, if_neg h, if_neg (by omega), if_neg h]
theorem rtv_step {j s i : Nat} (hs : s < g.ns) (hi : l[j]? = some i) : rtv g l j (s + 1) = fun s' => if s' = s then rtv g l j s s + rateI g i s else rtv g l j s s' := by
 funext s'
 have e := sum_snoc (f := fun i => rateI g i s) hi
 unfold rtv
 by_cases h : s' = s
 ·subst h
  rw [if_pos (by omega), if_pos rfl, if_neg (by omega), if_pos hs, e]
 ·rw [if_neg h]
  by_cases h2 : s' < s
  ·rw [if_pos (by omega), if_pos h2]
  ·rw [if_neg (by omega), if_neg h2]
theorem rtv_skip {j s i : Nat} (hs : s < g.ns) (hi : l[j]? = some i) (h0 : rateI g i s = 0) : rtv g l j (s + 1) = rtv g l j s := by
 rw [rtv_step hs hi, h0]
 funext s'
 by_cases h : s' = s
 ·subst h; simp
 ·rw [if_neg h]
theorem rtv_bd (hv : Valid g) (hl : l.length ≤ 5) (j t s : Nat) : 0 ≤ rtv g l j t s ∧ rtv g l j t s ≤ 5000 := by
 obtain ⟨_, b⟩ := sums_bd (g := g) hv (l := l) hl
 have h1 := b j s
 have h2 := b (j + 1) s
 unfold rtv
 split
 ·exact h2
 ·split
  ·exact h1
  ·omega
theorem lack_c (hg : GarP σ p g.ns q g.nb g) (hv : Valid g) (hb : IntsP σ pb lb (natI l)) (hl : RiseN g.nb 0 l) : CallsA Try.prog 73 [.agg ⟨garL p g.ns c q g.nb d⟩, .slice pb lb cb] σ (iV (lackL g l)) σ := by
 have hns := hv.ns; have hnb := hv.nb
 have hlen : l.length = lb := by have := hb.len; simpa using this
 have hl5 := hl.len
 obtain ⟨bN, bR⟩ := sums_bd (g := g) hv (l := l) (by omega)
 have bV := rtv_bd (g := g) hv (l := l) (by omega)
 obtain ⟨N, hNd⟩ : ∃ N, N = (l.map (needI g)).sum := ⟨_, rfl⟩
 obtain ⟨R, hRd⟩ : ∃ R : Nat → Int, R = fun s => (l.map fun i => rateI g i s).sum := ⟨_, rfl⟩
 have hlk : lackL g l = max 0 (N - sumN g.ns fun s => min (R s) (pwS g s)) := by rw [hNd, hRd]; rfl
 have bNN : 0 ≤ N ∧ N ≤ 5000 := by have := bN l.length; rw [List.take_length] at this; rw [hNd]; exact this
 have bRR : ∀ s, 0 ≤ R s ∧ R s ≤ 5000 := fun s => by have := bR l.length s; rw [List.take_length] at this; rw [hRd]; exact this
 have bM := fun n (hn : n ≤ 12) => mins_bd (g := g) hv (R := R) (fun s => (bRR s).1) n hn
 obtain ⟨n0, hn0⟩ : ∃ n0, n0 = σ.re.next := ⟨_, rfl⟩
 have hn0' : n0 = σ.next := hn0
 let FB : St → (Nat → Int) → Prop := fun z V => GarP z p g.ns q g.nb g ∧ IntsP z pb lb (natI l) ∧ Own z n0 (garL p g.ns c q g.nb d) 2 ∧ Own z (n0 + 1) (vecL 12 V) 1
 have fsame : ∀ {z z' V}, FB z V → Same n0 z z' → FB z' V := by
  rintro z z' n ⟨a1, a2, a3, a4⟩ h
  exact ⟨⟨h.slv a1.sl, h.slv a1.bu⟩, h.slv a2, h.own a3, h.own a4⟩
 have hpl : ∀ {z : St} {t n len : Nat} {x : Option Addr} {vs : List Value}, SlV Try.prog σ t n x len vs → ∀ a, x = some a → a.block < n0 := by
  intro z t n len x vs h a e; rw [hn0']; exact slv_lt h a e
 have fle : ∀ {z z' V}, FB z V → Le z z' → n0 ≤ z.next → FB z' V := fun h k hn => fsame h (Same.of_le k hn)
 refine RunsQ.pure ?_
 refine lack_ra (P0 := fun n ms τ => n = N ∧ New σ.re τ ∧ FB τ (rtv g l lb 0) ∧ (∀ m ∈ ms, getB τ.heap m = some .defd ∧ m < τ.next) ∧ ms.Nodup ∧ ∀ m ∈ ms, n0 ≤ m) ?_ ?_
 ·rw [← hn0]
  refine lack_loop1 (Inv := fun k n i ms τ => ∃ j : Nat, i = j ∧ j + k = lb ∧ New σ.re τ ∧ FB τ (rtv g l j 0) ∧ n = ((l.take j).map (needI g)).sum ∧ (∀ m ∈ ms, getB τ.heap m = some .defd ∧ m < τ.next) ∧ ms.Nodup ∧ ∀ m ∈ ms, n0 ≤ m) ?_ lb 0 0 [] _
   ⟨0, rfl, by omega, (New.row _ _ _).row', ?_, by simp, by simp, by simp, by simp⟩
  rotate_left
  ·have hN : New σ.re ((σ.re.row (garL p g.ns c q g.nb d) 2).row (ints12 0 0 0 0 0 0 0 0 0 0 0 0) 1) := (New.row _ _ _).row'
   have hl := (le0 σ).trans hN.le
   refine ⟨hg.le hl, SlV.le hb hl, ?_, ?_⟩ <;> rw [hn0]
   ·exact (own_new _ _ _).row
   ·rw [rtv_zero]; exact own_new (σ.re.row (garL p g.ns c q g.nb d) 2) _ _
  rintro k n i ms τ ⟨j, rfl, hk, h1, h2, rfl, h3, h4, h5⟩
  by_cases hj : j < lb
  rotate_left
  ·have : j = lb := by omega
   subst this
   exact lack_s1b ⟨by rw [List.take_of_length_le (by omega), hNd], h1, h2, h3, h4, h5⟩
  have fn := h1.nx
  have fn' : n0 ≤ τ.next := by rw [hn0]; exact fn
  have b3l := h2.2.2.2.lt
  obtain ⟨a, rfl, x, hx, ldx⟩ := slv_at h2.2.1 hj
  obtain ⟨i, hi, rfl⟩ := natI_get hx
  have hib := hl.mem i (List.mem_of_getElem? hi)
  obtain ⟨aq, rfl, bus, hbus, ldb⟩ := slv_at h2.1.bu hib.2
  obtain ⟨τ2, hτ2⟩ : ∃ τ2, τ2 = (τ.row (ints9 0 0 0 0 0 0 0 0 0) 9).own τ.next (busL bus) 9 := ⟨_, rfl⟩
  have n2 : New τ τ2 := by rw [hτ2]; exact (New.row _ _ _).own (Nat.le_refl _)
  have ob : Own τ2 τ.next (busL bus) 9 := by rw [hτ2]; exact Own.cp _ _ _ _
  have h22 := fle h2 n2.le fn'
  obtain ⟨z1, z2, τ4, q1, q2, q3, q4⟩ := stay_c (σ := τ2) (p := p) (l := g.ns) (c := c) (q := some aq) (m := g.nb) (d := d) (b := bus)
  have nx2 : τ2.next = τ.next + 1 := by rw [hτ2]; rfl
  have f5 := fle h22 q2.le (by omega)
  have N5 : New σ.re τ4 := (h1.trans n2).trans q2
  have ob4 := ob.le q2.le
  have hm4 : ∀ m ∈ ms, getB τ4.heap m = some .defd := fun m hm => by
   have h := h3 m hm
   rw [q2.le.get m (by omega), n2.le.get m h.2]
   exact h.1
  have q2n := q2.nx
  have s1 := sum_snoc (f := needI g) hi
  rw [needI_eq hbus] at s1
  have b1 := bN j
  have b2 := bN (j + 1)
  rw [s1] at b2
  have hvb := hv.b hbus
  have o1 := h2.2.2.1
  refine lack_s1a (Pn := fun z => New σ.re z ∧ FB z (rtv g l (j + 1) 0) ∧ (∀ m ∈ ms, getB z.heap m = some .defd ∧ m < z.next) ∧ getB z.heap τ4.next = some .defd ∧ τ4.next < z.next) ldx (o1.ld rfl agg33 (k := 1) rfl) ldb (need_c hvb)
   (by rw [← hτ2]; exact h22.2.2.1.ldN agg35 size35 (k := 0) rfl rfl (by simp)) (by rw [← hτ2]; exact q1) ?_ ?_
  rotate_left
  ·rintro z ⟨z1, z2, z3, z4, z5⟩
   have hz4 : n0 ≤ τ4.next := by omega
   refine lack_t2xna ⟨k - 1, by omega, j + 1, by omega, by omega, z1, z2, by rw [s1], ?_, ?_, ?_⟩
   ·intro m hm
    rcases List.mem_cons.1 hm with rfl | hm
    ·exact ⟨z4, z5⟩
    ·exact z3 m hm
   ·exact List.nodup_cons.2 ⟨fun hm => by have := (h3 _ hm).2; omega, h4⟩
   ·intro m hm
    rcases List.mem_cons.1 hm with rfl | hm
    ·exact hz4
    ·exact h5 m hm
  let J : Nat → St → Prop := fun s z => (∀ y, y < n0 → getB z.heap y = getB σ.re.heap y) ∧ n0 ≤ z.next ∧ FB z (rtv g l j s) ∧ Own z τ.next (busL bus) 9 ∧ ∀ m ∈ ms, getB z.heap m = some .defd ∧ m < z.next
  refine stay_range (n0 := n0) (J := J) (bus := bus) (fun g0 => by kernel_rfl) hvb q3 q4 (by omega) (by omega) ⟨fun y hy => N5.le.get y (by rw [← hn0]; exact hy), by omega, f5, ob4, fun m hm => ⟨hm4 m hm, by have := (h3 m hm).2; omega⟩⟩ ?_ ?_ ?_ ?_
  ·rintro s z z' ⟨j1, j2, j3, j5, j6⟩ hs
   exact ⟨fun y hy => (hs.old y hy).trans (j1 y hy), Nat.le_trans j2 hs.next, fsame j3 hs, hs.own j5, fun m hm => ⟨(hs.get m (j6 m hm).2 (fun _ _ _ _ _ _ _ e => by rw [(j6 m hm).1] at e; cases e)).trans (j6 m hm).1, Nat.lt_of_lt_of_le (j6 m hm).2 hs.next⟩⟩
  ·rintro s z hs ht ⟨j1, j2, j3, j5, j6⟩
   have : rtv g l j (s + 1) = rtv g l j s := rtv_skip hs hi (by rw [rateI_eq hbus, if_neg (by simp [ht])])
   exact ⟨j1, j2, by rw [this]; exact j3, j5, j6⟩
  ·rintro s z zz lo g0 db hs ht hl hzz ⟨j1, j2, j3, j5, j6⟩ hnz
   obtain ⟨c1, c2, c3, c4⟩ := id j3
   have er : rateI g i s = bus.rate := by rw [rateI_eq hbus, if_pos ht]
   have hst := rtv_step hs hi
   rw [er] at hst
   have hVs : rtv g l j s s + bus.rate = rtv g l j (s + 1) s := by rw [hst]; simp
   have hb1 := bV j s s
   have hb2 := bV j (s + 1) s
   rw [← hVs] at hb2
   have hu1 : 0 ≤ (s : Int) ∧ (s : Int) < 12 := by omega
   have hu2 : -9223372036854775808 ≤ rtv g l j s s + bus.rate ∧ rtv g l j s s + bus.rate ≤ 9223372036854775807 := by omega
   have st : effOp Try.prog (evL [.pointer (some ⟨n0 + 1, 0 + Int.toNat (s : Int) * 1, none⟩), iV (rtv g l j s s + bus.rate)]) zz (.store 3 (.tmp 0) (.tmp 1)) = some (undef, zz.own (n0 + 1) (vecL 12 (rtv g l j (s + 1))) 1) := by
    have := c4.stI (t := 3) (v := iV (rtv g l j s s + bus.rate)) (i := s) rfl size3 rfl (by rw [vecL_len]; omega)
    rw [vecL_set (by omega), ← hst] at this
    exact this
   have kk : Only (· = n0 + 1) zz (zz.own (n0 + 1) (vecL 12 (rtv g l j (s + 1))) 1) := Only.own (.inr rfl)
   have f6 : FB (zz.own (n0 + 1) (vecL 12 (rtv g l j (s + 1))) 1) (rtv g l j (s + 1)) :=
    ⟨⟨kk.slv' c1.sl (fun a e => by have := hpl (z := z) hg.sl a e; omega), kk.slv' c1.bu (fun a e => by have := hpl (z := z) hg.bu a e; omega)⟩, kk.slv' c2 (fun a e => by have := hpl (z := z) hb a e; omega), kk.own' c3 (by omega), by
     refine ⟨?_, c4.lt⟩
     show getB (zz.put _ _).heap (n0 + 1) = _
     rw [St.put_get, if_pos rfl]⟩
   refine ⟨_, lack_y2a hl hzz (c4.ldI (t := 3) agg3 (vecL_get (n := 12) (s := s) (P := rtv g l j s) (by omega))) (j5.ld rfl agg3 (k := 2) rfl) st rfl, ⟨?_, ?_, f6, kk.own' j5 (by omega), ?_⟩, _, kk, ?_⟩
   ·intro y hy
    rw [kk.get y (by omega) (by omega)]; exact j1 y hy
   ·exact Nat.le_trans j2 kk.next
   ·intro m hm
    have := j6 m hm
    exact ⟨(kk.get m this.2 (fun e => by have e : m = n0 + 1 := e; rw [e, c4.get] at this; cases this.1)).trans this.1, Nat.lt_of_lt_of_le this.2 kk.next⟩
   ·rintro y rfl
    exact ⟨by omega, fun _ => ⟨_, _, _, _, _, c4.get⟩⟩
  ·rintro z ⟨j1, j2, j3, j5, j6⟩ hd hlt hlow
   refine ⟨⟨⟨by rw [← hn0]; exact j2, fun y hy => j1 y (by rw [hn0]; exact hy)⟩, fun m h1 h2 => hlow m (by rw [hn0]; exact h2) (N5.low m h1 h2)⟩, by rw [← rtv_full]; exact j3, j6, hd, hlt⟩
 rintro n ms τ ⟨rfl, h1, h2, h3, h4, h5⟩
 rw [← hn0]
 have hR1 : ∀ s, s < g.ns → rtv g l lb 0 s = R s := fun s hs => by
  unfold rtv
  rw [if_neg (by omega), if_pos hs, List.take_of_length_le (by omega), hRd]
 refine lack_t1x0a (P4 := fun n' τ' => New τ τ' ∧ n' = n - sumN g.ns fun s => min (R s) (pwS g s)) (h2.2.2.1.ld rfl agg32 (k := 0) rfl) ?_ ?_
 ·refine lack_loop3 (Inv := fun k n' i τ' => ∃ s : Nat, i = s ∧ s + k = g.ns ∧ New τ τ' ∧ n' = n - sumN s fun s => min (R s) (pwS g s)) ?_ g.ns _ 0 _ ⟨0, rfl, by omega, New.refl _, by simp [sumN]⟩
  rintro k n' i τ' ⟨s, rfl, hk, k1, rfl⟩
  by_cases hs : s < g.ns
  rotate_left
  ·have : s = g.ns := by omega
   subst this
   exact lack_s3b ⟨k1, rfl⟩
  have fn := h1.nx
  obtain ⟨a1, a2, a3, a4⟩ := fle h2 k1.le (by rw [hn0]; exact fn)
  obtain ⟨az, rfl, y, hy, ldy⟩ := slv_at a1.sl hs
  have n2 : New τ' ((τ'.row [iV 0, iV 0] 2).own τ'.next (slotL y) 2) := (New.row _ _ _).own (Nat.le_refl _)
  have a4' := a4.le n2.le
  have e2 : pwS g s = y.pw := pwS_eq hy
  have b1 := bM s (by omega)
  have b2 := bM (s + 1) (by omega)
  have b3 := bRR s
  have b4 := hv.pw s
  rw [e2] at b4
  have e3 : sumN (s + 1) (fun s => min (R s) (pwS g s)) = sumN s (fun s => min (R s) (pwS g s)) + min y.pw (R s) := by simp only [sumN, e2, Int.min_comm]
  rw [e3] at b2
  have ldr : loadA Try.prog ((τ'.row [iV 0, iV 0] 2).own τ'.next (slotL y) 2) 3 ⟨n0 + 1, 0 + Int.toNat (s : Int) * 1, none⟩ = some (iV (R s)) := by
   have := a4'.ldI (P := Try.prog) (t := 3) agg3 (vecL_get (n := 12) (s := s) (P := rtv g l lb 0) (by omega)); rw [hR1 s hs] at this; exact this
  have c62 := lesser2_c (σ := (τ'.row [iV 0, iV 0] 2).own τ'.next (slotL y) 2) (a := y.pw) (b := R s)
  refine lack_s3a (nZ := min y.pw (R s)) ldy ldr c62 ⟨k - 1, by omega, s + 1, by omega, by omega, (k1.trans n2).row', ?_⟩
  rw [e3]; omega
 rintro n' τ' ⟨k1, rfl⟩
 have h6 := (h1.trans k1).row' (cs := [iV 0, iV (n - sumN g.ns fun s => min (R s) (pwS g s))]) (n := 1)
 have k2 := k1.row' (cs := [iV 0, iV (n - sumN g.ns fun s => min (R s) (pwS g s))]) (n := 1)
 obtain ⟨s_end, e1, e2, e3, e4⟩ := shut_all (σ := τ'.row [iV 0, iV (n - sumN g.ns fun s => min (R s) (pwS g s))] 1) (ms := ms) (fun m hm => by rw [k2.le.get m (h3 m hm).2]; exact (h3 m hm).1) h4
 refine lack_t3x4a greater2_c e1 ⟨by rw [hlk], e4 _ (h6.low _ (Nat.le_refl _) (Nat.le_refl _)) (fun m hm => by have := h5 m hm; show σ.next ≤ m; omega)⟩
end
end Go.Proofs.Ythcdddbghldmiaa
