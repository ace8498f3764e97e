
import Derived.Test.YtmdopblmkkameaaRE
namespace Go.Proofs.Ytmdopblmkkameaa
open Go Go.Lay
set_option linter.unusedVariables false
set_option linter.unusedSimpArgs false
set_option maxRecDepth 20000
theorem pair_rangeE {t : Tab} {pe pt : Option Addr} {le ce lt ct : Nat} {gx : Operand} {ps : Array Tmp} {a b : Code} {n : Nat} {l : List (Nat × Value)} {Qn : St → Prop} {τ : St} {a1 n0 : Nat} {J : Nat → Nat → St → Prop} {X Q0 : St → Prop} {ex : Nat} (hv : Valid t) (hlt : lt ≤ 100000)
  (hg : ∀ g0, yH (Fm n (ov l g0)) gx = .func (.func 86) ⟨[]⟩ ⟨[.pointer (some ⟨a1, 0, none⟩)]⟩) (hn0 : n0 ≤ τ.next)
  (hT : ∀ i k z, J i k z → Row z ⟨a1, 0, none⟩ (yB t pe le ce pt lt ct) ∧ TabP z pe le pt lt t) (h0 : J 0 0 τ) (hS : ∀ i k z z', J i k z → Same n0 z z' → J i k z') (hrow : ∀ i z, i < lt → J i lt z → J (i + 1) 0 z)
  (hskip : ∀ i k z, i < lt → k < lt → xL t i k = false → J i k z → J i (k + 1) z)
  (hR : ∀ i k z z1 lo g0 db, i < lt → k < lt → xL t i k = true → yE z.heap lo = some (.loop (Fm n (ov l g0)) ps.toList a b .ready none db) → z1 = z.re.put lo (.loop (Fm n (ov l g0)) ps.toList a b .busy none db) → J i k z1 → τ.next ≤ z1.next →
   (∃ z4, zJU Try.prog lo [iV (i : Int), iV (k : Int)] z (Fm n (ov l g0)) ps.toList a b db [⟨Unit, .normal, fun _ => [], fun _ => [], fun _ z => z = z4⟩, ⟨Unit, .exit ex, fun _ => [], fun _ => [], fun _ _ => False⟩] ∧ J i (k + 1) z4 ∧ ∃ S, Only S z1 z4 ∧ ∀ y, S y → n0 ≤ y ∧ (y < z1.next → ∃ cs k log nx ro, k ≠ 6 ∧ yE z1.heap y = some (.cells cs k log nx ro))) ∨
   ∃ z4, zJU Try.prog lo [iV (i : Int), iV (k : Int)] z (Fm n (ov l g0)) ps.toList a b db [⟨Unit, .normal, fun _ => [], fun _ => [], fun _ _ => False⟩, ⟨Unit, .exit ex, fun _ => [], fun _ => [], fun _ z => z = z4⟩] ∧ X z4 ∧ ∃ S, Only S z1 z4 ∧ ∀ y, S y → n0 ≤ y ∧ (y < z1.next → ∃ cs k log nx ro, k ≠ 6 ∧ yE z1.heap y = some (.cells cs k log nx ro)))
  (hX : ∀ z z', X z → Same n0 z z' → X z') (hQ0 : ∀ z, X z → yE z.heap τ.next = some .defd → τ.next < z.next → (∀ m, m ≤ n0 → m ≤ τ.low → m ≤ z.low) → Q0 z)
  (hQ : ∀ z, J lt 0 z → yE z.heap τ.next = some .defd → τ.next < z.next → (∀ m, m ≤ n0 → m ≤ τ.low → m ≤ z.low) → Qn z) : RangeG Try.prog (yG Try.prog) gx ps a b n l [(.normal, Qn), (.exit ex, Q0)] τ := by
 refine rangeG_of (fs := [.pointer (some ⟨a1, 0, none⟩)]) (f := 86) hg (fun g0 => ?_)
 obtain ⟨τa, hτa⟩ : ∃ τa, τa = (τ.add .defd).add (.loop (Fm n (ov l g0)) ps.toList a b .ready none τ.next) := ⟨_, rfl⟩
 have hN : New τ τa := by rw [hτa]; exact (New.add _ _).trans (New.add _ _)
 have nxa : τa.next = τ.next + 2 := by rw [hτa]; rfl
 have Ld : yE τa.heap τ.next = some .defd := by rw [hτa, St.add_get, if_neg (by simp), St.add_get, if_pos rfl]
 have Ll : yE τa.heap (τ.next + 1) = some (.loop (Fm n (ov l g0)) ps.toList a b .ready none τ.next) := by rw [hτa, St.add_get, if_pos (by simp)]
 have sm_re : ∀ z : St, Same n0 z z.re := fun z => ⟨Nat.le_refl _, fun _ _ _ => rfl, fun _ _ => rfl⟩
 let K : Nat → Nat → St → Prop := fun i k z => J i k z ∧ yE z.heap τ.next = some .defd ∧ yE z.heap (τ.next + 1) = some (.loop (Fm n (ov l g0)) ps.toList a b .ready none τ.next) ∧ τa.next ≤ z.next ∧ n0 ≤ z.low ∧ ((J i k τa.re ∧ New τa.re z) ∨ z.low ≤ τ.next + 1)
 let KX : St → Prop := fun z => X z ∧ yE z.heap τ.next = some .defd ∧ yE z.heap (τ.next + 1) = some (.loop (Fm n (ov l g0)) ps.toList a b .done (some (.exit ex)) τ.next) ∧ τa.next ≤ z.next ∧ n0 ≤ z.low ∧ z.low ≤ τ.next + 1
 have J0 : J 0 0 τa.re := hS _ _ _ _ (hS _ _ _ _ h0 (Same.of_le hN.le hn0)) (sm_re τa)
 have hrun : zN Try.prog 86 [.func (.yield (τ.next + 1)) ⟨[]⟩ ⟨[]⟩, .pointer (some ⟨a1, 0, none⟩)] τa.re fun v s => v = .tuple ⟨[]⟩ ∧ (K lt 0 s ∨ KX s) := by
  refine pairs1_run (ce := ce) (ct := ct) hv hlt (J := K) (X := KX) (fun i k z h => hT i k z h.1) ⟨J0, Ld, Ll, Nat.le_refl _, by show n0 ≤ τa.next; omega, .inl ⟨J0, New.refl _⟩⟩ ?_ ?_ ?_ ?_
  ·rintro i z hi ⟨j1, j2, j3, j4, j5, j6⟩
   exact ⟨hrow i z hi j1, j2, j3, j4, j5, j6.imp (fun h => ⟨hrow _ _ hi h.1, h.2⟩) id⟩
  ·rintro i k z z' ⟨j1, j2, j3, j4, j5, j6⟩ hz hlw
   exact ⟨hS _ _ _ _ j1 (Same.of_le hz.le (by omega)), by rw [hz.le.get _ (by omega)]; exact j2, by rw [hz.le.get _ (by omega)]; exact j3, by have := hz.nx; omega, hz.low _ j5 (by omega), j6.imp (fun h => ⟨h.1, h.2.trans hz⟩) (fun h => by omega)⟩
  ·rintro i k z hi hk hm ⟨j1, j2, j3, j4, j5, j6⟩
   exact ⟨hskip i k z hi hk hm j1, j2, j3, j4, j5, j6.imp (fun h => ⟨hskip _ _ _ hi hk hm h.1, h.2⟩) id⟩
  ·rintro i k z hi hk hm ⟨j1, j2, j3, j4, j5, j6⟩
   obtain ⟨z1, hz1⟩ : ∃ z1, z1 = z.re.put (τ.next + 1) (.loop (Fm n (ov l g0)) ps.toList a b .busy none τ.next) := ⟨_, rfl⟩
   have s1 : Same n0 z z1 := ⟨by rw [hz1]; exact Nat.le_refl _, fun y hy hne => by
    rw [hz1, St.put_get, if_neg (fun e => by subst e; exact hne _ _ _ _ _ _ _ j3)]; rfl, fun y hy => by rw [hz1, St.put_get, if_neg (by omega)]; rfl⟩
   have nx1 : z1.next = z.next := by rw [hz1]; rfl
   have L1 : yE z1.heap (τ.next + 1) = some (.loop (Fm n (ov l g0)) ps.toList a b .busy none τ.next) := by rw [hz1, St.put_get, if_pos rfl]
   have D1 : yE z1.heap τ.next = some .defd := by rw [hz1, St.put_get, if_neg (by omega)]; exact j2
   rcases hR i k z z1 (τ.next + 1) g0 τ.next hi hk hm j3 hz1 (hS _ _ _ _ j1 s1) (by omega) with ⟨z4, hr, k1, S, k2, k3⟩ | ⟨z4, hr, k1, S, k2, k3⟩
   ·have L4 : yE z4.heap (τ.next + 1) = some (.loop (Fm n (ov l g0)) ps.toList a b .busy none τ.next) := by
     rw [k2.get _ (by omega) (fun h => by obtain ⟨cs, k, log, nx, ro, _, e⟩ := (k3 _ h).2 (by omega); rw [L1] at e; cases e)]; exact L1
    have D4 : yE z4.heap τ.next = some .defd := by
     rw [k2.get _ (by omega) (fun h => by obtain ⟨cs, k, log, nx, ro, _, e⟩ := (k3 _ h).2 (by omega); rw [D1] at e; cases e)]; exact D1
    have n4 := k2.next
    obtain ⟨e, z', ⟨al, hal, rfl, tt, hq⟩, hc⟩ := hr
    simp only [In, or_false] at hal
    obtain rfl | rfl := hal
    rotate_left
    ·exact hq.elim
    have hq : z' = z4 := hq
    subst hq
    have hcy := hc (.inl rfl) (by omega) L4 (by omega)
    have hlow : n0 ≤ z'.low := k2.low n0 (by rw [hz1]; simp only [St.put_low, re_lw]; omega) (by omega) (fun y _ hy => (k3 y hy).1)
    refine .inl ⟨_, hcy, ⟨hS _ _ _ _ k1 ⟨Nat.le_refl _, fun y hy hne => ?_, fun y hy => ?_⟩, ?_, ?_, ?_, ?_, .inr ?_⟩, fun b' cs ho => ?_⟩
    ·show yE (z'.put _ _).heap y = _
     rw [St.put_get, if_neg (fun e => by subst e; exact hne _ _ _ _ _ _ _ L4)]
    ·show yE (z'.put _ _).heap y = _
     rw [St.put_get, if_neg (by omega)]
    ·show yE (z'.put _ _).heap _ = _
     rw [St.put_get, if_neg (by omega)]; exact D4
    ·show yE (z'.put _ _).heap _ = _
     rw [St.put_get, if_pos rfl]; rfl
    ·show τa.next ≤ z'.next; omega
    ·show n0 ≤ min _ _; omega
    ·show min _ _ ≤ _; omega
    ·have h1 := s1.own ho
     have h2 : Own z' b' cs 6 := k2.own' h1 (fun hs => by
      obtain ⟨cs', kk, log, nx, ro, hne, e⟩ := (k3 _ hs).2 h1.lt
      rw [h1.get] at e; cases e; exact hne rfl)
     have hne : b' ≠ τ.next + 1 := fun e => by subst e; rw [h2.get] at L4; cases L4
     refine ⟨?_, h2.lt⟩
     show yE (z'.put _ _).heap b' = _
     rw [St.put_get, if_neg hne]; exact h2.get
   ·have L4 : yE z4.heap (τ.next + 1) = some (.loop (Fm n (ov l g0)) ps.toList a b .busy none τ.next) := by
     rw [k2.get _ (by omega) (fun h => by obtain ⟨cs, k, log, nx, ro, _, e⟩ := (k3 _ h).2 (by omega); rw [L1] at e; cases e)]; exact L1
    have D4 : yE z4.heap τ.next = some .defd := by
     rw [k2.get _ (by omega) (fun h => by obtain ⟨cs, k, log, nx, ro, _, e⟩ := (k3 _ h).2 (by omega); rw [D1] at e; cases e)]; exact D1
    have n4 := k2.next
    obtain ⟨e, z', ⟨al, hal, rfl, tt, hq⟩, hc⟩ := hr
    simp only [In, or_false] at hal
    obtain rfl | rfl := hal
    ·exact hq.elim
    have hq : z' = z4 := hq
    subst hq
    have hcy := hc (.inr (.inr ⟨ex, rfl⟩)) (by omega) L4 (by omega)
    have hlow : n0 ≤ z'.low := k2.low n0 (by rw [hz1]; simp only [St.put_low, re_lw]; omega) (by omega) (fun y _ hy => (k3 y hy).1)
    refine .inr ⟨_, hcy, hX _ _ k1 ⟨Nat.le_refl _, fun y hy hne => ?_, fun y hy => ?_⟩, ?_, ?_, ?_, ?_, ?_⟩
    ·show yE (z'.put _ _).heap y = _
     rw [St.put_get, if_neg (fun e => by subst e; exact hne _ _ _ _ _ _ _ L4)]
    ·show yE (z'.put _ _).heap y = _
     rw [St.put_get, if_neg (by omega)]
    ·show yE (z'.put _ _).heap _ = _
     rw [St.put_get, if_neg (by omega)]; exact D4
    ·show yE (z'.put _ _).heap _ = _
     rw [St.put_get, if_pos rfl]; rfl
    ·show τa.next ≤ z'.next; omega
    ·show n0 ≤ min _ _; omega
    ·show min _ _ ≤ _; omega
 obtain ⟨v, s, h1, rfl, ⟨j1, j2, j3, j4, j5, j6⟩ | hF⟩ := hrun
 rotate_left
 ·obtain ⟨j1, j2, j3, j4, j5, j6⟩ := hF
  refine ⟨_, ⟨s.heap, s.next, min τa.low s.low⟩, .done, some (.exit ex), by rw [← hτa]; exact mut_c h1 j4 (by omega), j3, .inr ⟨rfl, .inr ⟨ex, rfl⟩⟩, .inr (.inl ⟨rfl, hQ0 _ (hX _ _ j1 ⟨Nat.le_refl _, fun y hy hne => ?_, fun y hy => ?_⟩) ?_ (by show τ.next < s.next; omega) (fun m h1 h2 => ?_)⟩)⟩
  ·show yE (St.put _ _ _).heap y = _
   rw [St.put_get, if_neg (fun e => by subst e; exact hne _ _ _ _ _ _ _ j3)]
  ·show yE (St.put _ _ _).heap y = _
   rw [St.put_get, if_neg (by omega)]
  ·rw [St.put_get, if_neg (by omega)]; exact j2
  ·have := hN.low m h2 (by omega)
   show m ≤ min (min _ _) _; omega
 have fin : ∀ w z : St, J lt 0 w → yE w.heap τ.next = some .defd → yE w.heap (τ.next + 1) = some (.loop (Fm n (ov l g0)) ps.toList a b .ready none τ.next) → τa.next ≤ w.next → z.heap = w.heap → z.next = w.next → (∀ m, m ≤ n0 → m ≤ τ.low → m ≤ z.low) → PostX [(.normal, Qn), (.exit ex, Q0)] (exitC none) (z.put (τ.next + 1) (.loop (Fm n (ov l g0)) ps.toList a b .exhausted none τ.next)) := by
  intro w z i1 i2 i3 i4 e1 e2 e3
  refine .inl ⟨rfl, hQ _ (hS _ _ _ _ i1 ⟨by show w.next ≤ z.next; omega, fun y hy hne => ?_, fun y hy => ?_⟩) ?_ (by show τ.next < z.next; omega) (fun m h1 h2 => ?_)⟩
  ·rw [St.put_get, if_neg (fun e => by subst e; exact hne _ _ _ _ _ _ _ i3), e1]
  ·rw [St.put_get, if_neg (by omega), e1]
  ·rw [St.put_get, if_neg (by omega), e1]; exact i2
  ·have := e3 m h1 h2; show m ≤ min _ _; omega
 rcases j6 with ⟨j7, hn⟩ | e
 ·refine ⟨_, τa, .ready, none, by rw [hτa]; exact hτa ▸ zJD h1 (hn.low _ (Nat.le_refl _) (Nat.le_refl _)) rfl, Ll, .inl ⟨rfl, rfl⟩, fin τa.re τa j7 Ld Ll (Nat.le_refl _) rfl rfl (fun m h1 h2 => hN.low m h2 (by omega))⟩
 ·refine ⟨_, ⟨s.heap, s.next, min τa.low s.low⟩, .ready, none, by rw [← hτa]; exact mut_c h1 j4 (by omega), j3, .inl ⟨rfl, rfl⟩, fin s _ j1 j2 j3 j4 rfl rfl (fun m h1 h2 => ?_)⟩
  have := hN.low m h2 (by omega)
  show m ≤ min _ _; omega
end Go.Proofs.Ytmdopblmkkameaa
