
import Derived.Test.YtmdopblmkkameaaRD
import Derived.Test.YtmdopblmkkameaaXB
namespace Go.Proofs.Ytmdopblmkkameaa
open Go Go.Lay
open Try renaming prog → Pg
set_option linter.unusedVariables false
set_option linter.unusedSimpArgs false
set_option maxRecDepth 20000
section
variable {σ : St} {t : Tab} {pe pt : Option Addr} {le ce lt ct : Nat}
theorem slv_trip (h : TabP σ pe le pt lt t) {i : Nat} (hi : i < lt) : ∃ a, pt = some a ∧ ∃ x, t.trips[i]? = some x ∧ zB Pg σ 79 (zH a (Int.toNat (i : Int) * 6)) = some (vB x) := vP h.tr hi
theorem pairs1_run {lo a1 : Nat} (hv : Valid t) (hlt : lt ≤ 100000) {J : Nat → Nat → St → Prop} {X : St → Prop}
  (hT : ∀ i k z, J i k z → Row z ⟨a1, 0, none⟩ (yB t pe le ce pt lt ct) ∧ TabP z pe le pt lt t) (h0 : J 0 0 σ) (hrow : ∀ i z, i < lt → J i lt z → J (i + 1) 0 z)
  (hS : ∀ i k z z', J i k z → New z z' → z'.low ≤ z.low → J i k z')
  (hskip : ∀ i k z, i < lt → k < lt → xL t i k = false → J i k z → J i (k + 1) z)
  (hJ : ∀ i k z, i < lt → k < lt → xL t i k = true → J i k z → (∃ z', CallsY Pg lo [iV (i : Int), iV (k : Int)] z (.bool true) z' ∧ J i (k + 1) z' ∧ ∀ b cs, Own z b cs 6 → Own z' b cs 6) ∨ ∃ z', CallsY Pg lo [iV (i : Int), iV (k : Int)] z (.bool false) z' ∧ X z') :
  zN Pg 86 [.func (.yield lo) ⟨[]⟩ ⟨[]⟩, .pointer (some ⟨a1, 0, none⟩)] σ fun v s => v = .tuple ⟨[]⟩ ∧ (J lt 0 s ∨ X s) := by
 have own_low : ∀ (τ : St) (b n : Nat) (cs : List Value), (τ.own b cs n).low ≤ τ.low := fun τ b n cs => by simp [St.own]; omega
 refine pairs1_ra (P0 := fun τ => J lt 0 τ) (Pr := X) (by simpa [zH] using (hT _ _ _ h0).1.load1 (t := 32) zEB (k := 3) rfl)
  (pairs1_loop1 (Inv := fun m i τ => ∃ s : Nat, i = s ∧ s + m = lt ∧ J s 0 τ) (Q0 := fun τ => J lt 0 τ) (Qr := X) ?_ lt 0 σ ⟨0, rfl, by omega, h0⟩) (fun τ h => pairs1_t1x0a ⟨rfl, .inl h⟩) (fun τ h => pairs1_t1xra ⟨rfl, .inr h⟩)
 rintro m i τ ⟨s, rfl, hm, hj⟩
 by_cases hs : s < lt
 rotate_left
 ·have : s = lt := by omega
  subst this
  exact pairs1_s1b hj
 obtain ⟨a, rfl, x, hx, hl⟩ := slv_trip (hT _ _ _ hj).2 hs
 have hN : New τ ((τ.row (zA 0 0 0 0 0 0) 6).own τ.next (zA x.fr x.to x.st x.least x.most x.kind) 6) := (New.row _ _ _).own (Nat.le_refl _)
 have hj1 := hS _ _ _ _ hj hN (own_low _ _ _ _)
 have ho : Own ((τ.row (zA 0 0 0 0 0 0) 6).own τ.next (zA x.fr x.to x.st x.least x.most x.kind) 6) τ.next (zA x.fr x.to x.st x.least x.most x.kind) 6 := (zC _ _ _).put
 refine pairs1_s1a (Pr := X) (P2 := fun τ' => J (s + 1) 0 τ') hl (by simpa [zH] using (hT _ _ _ hj1).1.load1 (t := 32) zEB (k := 3) rfl)
  (pairs1_loop2 (Inv := fun m k τ' => ∃ q : Nat, k = q ∧ q + m = lt ∧ J s q τ' ∧ Own τ' τ.next (zA x.fr x.to x.st x.least x.most x.kind) 6) (Q2 := fun τ' => J (s + 1) 0 τ') (Qr := X) ?_ lt 0 _ ⟨0, rfl, by omega, hj1, ho⟩) (fun τ' h => pairs1_t2xra h) (fun τ' h => pairs1_t2x2a ⟨m - 1, by omega, s + 1, by omega, by omega, h⟩)
 rintro m' k τ' ⟨q, rfl, hm', hj', ho'⟩
 by_cases hq : q < lt
 rotate_left
 ·have : q = lt := by omega
  subst this
  exact pairs1_s2d (hrow _ _ hs hj')
 obtain ⟨a', e', y, hy, hl'⟩ := slv_trip (hT _ _ _ hj').2 hq
 cases e'
 have hN' : New τ' ((τ'.row (zA 0 0 0 0 0 0) 6).own τ'.next (zA y.fr y.to y.st y.least y.most y.kind) 6) := (New.row _ _ _).own (Nat.le_refl _)
 have hj2 := hS _ _ _ _ hj' hN' (own_low _ _ _ _)
 have ho2 := ho'.le hN'.le
 have hT2 := hT _ _ _ hj2
 have hm2 := may_c (ce := ce) (ct := ct) hT2.2 hv hx hy
 have eI : xL t s q = mayB t x y := mayI_eq hx hy
 have l2 := hT2.1.loadN (t := 34) wB yY (k := 0) rfl rfl (by simp)
 have l3 := ho2.rw.loadN (t := 79) zCP vQ (k := 0) rfl rfl (by simp)
 cases hb : mayB t x y with
 | false =>
  rw [hb] at hm2 eI
  exact pairs1_s2c hl' (by simpa [zH] using l2) (by simpa [zH] using l3) hm2 ⟨m' - 1, by omega, q + 1, by omega, by omega, hskip _ _ _ hs hq eI hj2, ho2⟩
 | true =>
  rw [hb] at hm2 eI
  rcases hJ _ _ _ hs hq eI hj2 with ⟨z', c1, c2, c3⟩ | ⟨z', c1, c2⟩
  ·exact pairs1_s2a hl' (by simpa [zH] using l2) (by simpa [zH] using l3) hm2 c1 ⟨m' - 1, by omega, q + 1, by omega, by omega, c2, c3 _ _ ho2⟩
  ·exact pairs1_s2b hl' (by simpa [zH] using l2) (by simpa [zH] using l3) hm2 c1 c2
end
structure Same (n0 : Nat) (z z' : St) : Prop where
 next : z.next ≤ z'.next
 get : ∀ y, y < z.next → (∀ tm ps a b st pend db, yE z.heap y ≠ some (.loop tm ps a b st pend db)) → yE z'.heap y = yE z.heap y
 old : ∀ y, y < n0 → yE z'.heap y = yE z.heap y
theorem Same.own {n0 : Nat} {z z' : St} {b n : Nat} {cs : List Value} (h : Same n0 z z') (k : Own z b cs n) : Own z' b cs n := k.at_ (h.get b k.lt (fun _ _ _ _ _ _ _ e => by rw [k.get] at e; cases e)) h.next
theorem Same.of_le {n0 : Nat} {z z' : St} (h : Le z z') (hn : n0 ≤ z.next) : Same n0 z z' := ⟨h.next, fun y hy _ => h.get y hy, fun y hy => h.get y (by omega)⟩
theorem Same.rw {n0 : Nat} {z z' : St} {a : Addr} {cs : List Value} (h : Same n0 z z') (k : Row z a cs) : Row z' a cs := by
 refine ⟨?_, Nat.lt_of_lt_of_le k.lt h.next⟩
 have := k.rd
 unfold yM at this ⊢
 rw [h.get a.block k.lt (fun tm ps x y st pend db e => by rw [e] at this; simp at this)]
 exact this
theorem Same.slv {n0 : Nat} {z z' : St} {t n len : Nat} {p : Option Addr} {vs : List Value} (h : Same n0 z z') (k : SlV Pg z t n p len vs) : SlV Pg z' t n p len vs := by
 refine ⟨⟨k.1.1, ?_⟩, k.2⟩
 cases p with
 | none => exact k.1.2
 | some a => exact h.rw k.1.2
theorem mut_c {σ s : St} {f : FuncId} {args : List Value} {v : Value} (h : ∃ N0, ∀ N, N0 ≤ N → yG Pg N (.func f) args σ.re = some (v, s)) (h1 : σ.next ≤ s.next) (h2 : s.low < σ.next) : zD Pg f args σ v ⟨s.heap, s.next, min σ.low s.low⟩ := by
 obtain ⟨N0, hN⟩ := h
 refine ⟨N0, fun N hl => ?_⟩
 unfold zAZ
 rw [show (⟨σ.heap, σ.next, σ.next⟩ : St) = σ.re from rfl, hN N hl]
 show zBT σ v s = _
 unfold zBT
 have e1 : (Nat.ble σ.next s.low && zS RD v) = false := by
  rw [Bool.and_eq_false_iff]; left
  rw [Bool.eq_false_iff]; intro e; have := (zW _ _).1 e; omega
 have e2 : Nat.ble σ.next s.next = true := (zW _ _).2 h1
 rw [e1, cond_false, e2, cond_true, vF, zDV]
theorem pair_range {t : Tab} {pe pt : Option Addr} {le ce lt ct : Nat} {gx : Operand} {ps : Array Tmp} {a b : Code} {n : Nat} {l : List (Nat × Value)} {Qn : St → Prop} {τ : St} {a1 n0 : Nat} {J : Nat → Nat → St → Prop} (hv : Valid t) (hlt : lt ≤ 100000)
  (hg : ∀ g0, yH (Fm n (ov l g0)) gx = .func (.func 86) ⟨[]⟩ ⟨[.pointer (some ⟨a1, 0, none⟩)]⟩) (hn0 : n0 ≤ τ.next)
  (hT : ∀ i k z, J i k z → Row z ⟨a1, 0, none⟩ (yB t pe le ce pt lt ct) ∧ TabP z pe le pt lt t) (h0 : J 0 0 τ) (hS : ∀ i k z z', J i k z → Same n0 z z' → J i k z') (hrow : ∀ i z, i < lt → J i lt z → J (i + 1) 0 z)
  (hskip : ∀ i k z, i < lt → k < lt → xL t i k = false → J i k z → J i (k + 1) z)
  (hR : ∀ i k z z1 lo g0 db, i < lt → k < lt → xL t i k = true → yE z.heap lo = some (.loop (Fm n (ov l g0)) ps.toList a b .ready none db) → z1 = z.re.put lo (.loop (Fm n (ov l g0)) ps.toList a b .busy none db) → J i k z1 → τ.next ≤ z1.next →
   ∃ z4, zJU Pg lo [iV (i : Int), iV (k : Int)] z (Fm n (ov l g0)) ps.toList a b db [⟨Unit, .normal, fun _ => [], fun _ => [], fun _ z => z = z4⟩] ∧ J i (k + 1) z4 ∧ ∃ S, Only S z1 z4 ∧ ∀ y, S y → n0 ≤ y ∧ (y < z1.next → ∃ cs k log nx ro, k ≠ 6 ∧ yE z1.heap y = some (.cells cs k log nx ro)))
  (hQ : ∀ z, J lt 0 z → yE z.heap τ.next = some .defd → τ.next < z.next → (∀ m, m ≤ n0 → m ≤ τ.low → m ≤ z.low) → Qn z) : RangeG Pg (yG Pg) gx ps a b n l [(.normal, Qn)] τ := by
 refine rangeG_of (fs := [.pointer (some ⟨a1, 0, none⟩)]) (f := 86) hg (fun g0 => ?_)
 obtain ⟨τa, hτa⟩ : ∃ τa, τa = (τ.add .defd).add (.loop (Fm n (ov l g0)) ps.toList a b .ready none τ.next) := ⟨_, rfl⟩
 have hN : New τ τa := by rw [hτa]; exact (New.add _ _).trans (New.add _ _)
 have nxa : τa.next = τ.next + 2 := by rw [hτa]; rfl
 have Ld : yE τa.heap τ.next = some .defd := by rw [hτa, St.add_get, if_neg (by simp), St.add_get, if_pos rfl]
 have Ll : yE τa.heap (τ.next + 1) = some (.loop (Fm n (ov l g0)) ps.toList a b .ready none τ.next) := by rw [hτa, St.add_get, if_pos (by simp)]
 have sm_re : ∀ z : St, Same n0 z z.re := fun z => ⟨Nat.le_refl _, fun _ _ _ => rfl, fun _ _ => rfl⟩
 let K : Nat → Nat → St → Prop := fun i k z => J i k z ∧ yE z.heap τ.next = some .defd ∧ yE z.heap (τ.next + 1) = some (.loop (Fm n (ov l g0)) ps.toList a b .ready none τ.next) ∧ τa.next ≤ z.next ∧ n0 ≤ z.low ∧ ((J i k τa.re ∧ New τa.re z) ∨ z.low ≤ τ.next + 1)
 have J0 : J 0 0 τa.re := hS _ _ _ _ (hS _ _ _ _ h0 (Same.of_le hN.le hn0)) (sm_re τa)
 have hrun : zN Pg 86 [.func (.yield (τ.next + 1)) ⟨[]⟩ ⟨[]⟩, .pointer (some ⟨a1, 0, none⟩)] τa.re fun v s => v = .tuple ⟨[]⟩ ∧ (K lt 0 s ∨ False) := by
  refine pairs1_run (ce := ce) (ct := ct) hv hlt (J := K) (X := fun _ => False) (fun i k z h => hT i k z h.1) ⟨J0, Ld, Ll, Nat.le_refl _, by show n0 ≤ τa.next; omega, .inl ⟨J0, New.refl _⟩⟩ ?_ ?_ ?_ ?_
  ·rintro i z hi ⟨j1, j2, j3, j4, j5, j6⟩
   exact ⟨hrow i z hi j1, j2, j3, j4, j5, j6.imp (fun h => ⟨hrow _ _ hi h.1, h.2⟩) id⟩
  ·rintro i k z z' ⟨j1, j2, j3, j4, j5, j6⟩ hz hlw
   exact ⟨hS _ _ _ _ j1 (Same.of_le hz.le (by omega)), by rw [hz.le.get _ (by omega)]; exact j2, by rw [hz.le.get _ (by omega)]; exact j3, by have := hz.nx; omega, hz.low _ j5 (by omega), j6.imp (fun h => ⟨h.1, h.2.trans hz⟩) (fun h => by omega)⟩
  ·rintro i k z hi hk hm ⟨j1, j2, j3, j4, j5, j6⟩
   exact ⟨hskip i k z hi hk hm j1, j2, j3, j4, j5, j6.imp (fun h => ⟨hskip _ _ _ hi hk hm h.1, h.2⟩) id⟩
  ·rintro i k z hi hk hm ⟨j1, j2, j3, j4, j5, j6⟩
   obtain ⟨z1, hz1⟩ : ∃ z1, z1 = z.re.put (τ.next + 1) (.loop (Fm n (ov l g0)) ps.toList a b .busy none τ.next) := ⟨_, rfl⟩
   have s1 : Same n0 z z1 := ⟨by rw [hz1]; exact Nat.le_refl _, fun y hy hne => by
    rw [hz1, St.put_get, if_neg (fun e => by subst e; exact hne _ _ _ _ _ _ _ j3)]; rfl, fun y hy => by rw [hz1, St.put_get, if_neg (by omega)]; rfl⟩
   have nx1 : z1.next = z.next := by rw [hz1]; rfl
   have L1 : yE z1.heap (τ.next + 1) = some (.loop (Fm n (ov l g0)) ps.toList a b .busy none τ.next) := by rw [hz1, St.put_get, if_pos rfl]
   have D1 : yE z1.heap τ.next = some .defd := by rw [hz1, St.put_get, if_neg (by omega)]; exact j2
   obtain ⟨z4, hr, k1, S, k2, k3⟩ := hR i k z z1 (τ.next + 1) g0 τ.next hi hk hm j3 hz1 (hS _ _ _ _ j1 s1) (by omega)
   have L4 : yE z4.heap (τ.next + 1) = some (.loop (Fm n (ov l g0)) ps.toList a b .busy none τ.next) := by
    rw [k2.get _ (by omega) (fun h => by obtain ⟨cs, k, log, nx, ro, _, e⟩ := (k3 _ h).2 (by omega); rw [L1] at e; cases e)]; exact L1
   have D4 : yE z4.heap τ.next = some .defd := by
    rw [k2.get _ (by omega) (fun h => by obtain ⟨cs, k, log, nx, ro, _, e⟩ := (k3 _ h).2 (by omega); rw [D1] at e; cases e)]; exact D1
   have n4 := k2.next
   obtain ⟨e, z', ⟨al, hal, rfl, tt, hq⟩, hc⟩ := hr
   simp only [In, or_false] at hal
   subst hal
   have hq : z' = z4 := hq
   subst hq
   have hcy := hc (.inl rfl) (by omega) L4 (by omega)
   have hlow : n0 ≤ z'.low := k2.low n0 (by rw [hz1]; simp only [St.put_low, re_lw]; omega) (by omega) (fun y _ hy => (k3 y hy).1)
   refine .inl ⟨_, hcy, ⟨hS _ _ _ _ k1 ⟨Nat.le_refl _, fun y hy hne => ?_, fun y hy => ?_⟩, ?_, ?_, ?_, ?_, .inr ?_⟩, fun b' cs ho => ?_⟩
   ·show yE (z'.put _ _).heap y = _
    rw [St.put_get, if_neg (fun e => by subst e; exact hne _ _ _ _ _ _ _ L4)]
   ·show yE (z'.put _ _).heap y = _
    rw [St.put_get, if_neg (by omega)]
   ·show yE (z'.put _ _).heap _ = _
    rw [St.put_get, if_neg (by omega)]; exact D4
   ·show yE (z'.put _ _).heap _ = _
    rw [St.put_get, if_pos rfl]; rfl
   ·show τa.next ≤ z'.next; omega
   ·show n0 ≤ min _ _; omega
   ·show min _ _ ≤ _; omega
   ·have h1 := s1.own ho
    have h2 : Own z' b' cs 6 := k2.own' h1 (fun hs => by
     obtain ⟨cs', kk, log, nx, ro, hne, e⟩ := (k3 _ hs).2 h1.lt
     rw [h1.get] at e; cases e; exact hne rfl)
    have hne : b' ≠ τ.next + 1 := fun e => by subst e; rw [h2.get] at L4; cases L4
    refine ⟨?_, h2.lt⟩
    show yE (z'.put _ _).heap b' = _
    rw [St.put_get, if_neg hne]; exact h2.get
 obtain ⟨v, s, h1, rfl, ⟨j1, j2, j3, j4, j5, j6⟩ | hF⟩ := hrun
 rotate_left
 ·exact hF.elim
 have fin : ∀ w z : St, J lt 0 w → yE w.heap τ.next = some .defd → yE w.heap (τ.next + 1) = some (.loop (Fm n (ov l g0)) ps.toList a b .ready none τ.next) → τa.next ≤ w.next → z.heap = w.heap → z.next = w.next → (∀ m, m ≤ n0 → m ≤ τ.low → m ≤ z.low) → PostX [(.normal, Qn)] (exitC none) (z.put (τ.next + 1) (.loop (Fm n (ov l g0)) ps.toList a b .exhausted none τ.next)) := by
  intro w z i1 i2 i3 i4 e1 e2 e3
  refine .inl ⟨rfl, hQ _ (hS _ _ _ _ i1 ⟨by show w.next ≤ z.next; omega, fun y hy hne => ?_, fun y hy => ?_⟩) ?_ (by show τ.next < z.next; omega) (fun m h1 h2 => ?_)⟩
  ·rw [St.put_get, if_neg (fun e => by subst e; exact hne _ _ _ _ _ _ _ i3), e1]
  ·rw [St.put_get, if_neg (by omega), e1]
  ·rw [St.put_get, if_neg (by omega), e1]; exact i2
  ·have := e3 m h1 h2; show m ≤ min _ _; omega
 rcases j6 with ⟨j7, hn⟩ | e
 ·refine ⟨_, τa, .ready, none, by rw [hτa]; exact hτa ▸ zJD h1 (hn.low _ (Nat.le_refl _) (Nat.le_refl _)) rfl, Ll, .inl ⟨rfl, rfl⟩, fin τa.re τa j7 Ld Ll (Nat.le_refl _) rfl rfl (fun m h1 h2 => hN.low m h2 (by omega))⟩
 ·refine ⟨_, ⟨s.heap, s.next, min τa.low s.low⟩, .ready, none, by rw [← hτa]; exact mut_c h1 j4 (by omega), j3, .inl ⟨rfl, rfl⟩, fin s _ j1 j2 j3 j4 rfl rfl (fun m h1 h2 => ?_)⟩
  have := hN.low m h2 (by omega)
  show m ≤ min _ _; omega
end Go.Proofs.Ytmdopblmkkameaa
