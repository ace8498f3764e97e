
import Derived.Test.YthcdddbghldmiaaCJ
namespace Go.Proofs.Ythcdddbghldmiaa
open Go Go.Lay
set_option linter.unusedVariables false
set_option linter.unusedSimpArgs false
set_option maxRecDepth 20000
structure Same (n0 : Nat) (z z' : St) : Prop where
 next : z.next ≤ z'.next
 get : ∀ y, y < z.next → (∀ tm ps a b st pend db, getB z.heap y ≠ some (.loop tm ps a b st pend db)) → getB z'.heap y = getB z.heap y
 old : ∀ y, y < n0 → getB z'.heap y = getB z.heap y
theorem Same.own {n0 : Nat} {z z' : St} {b n : Nat} {cs : List Value} (h : Same n0 z z') (k : Own z b cs n) : Own z' b cs n := k.at_ (h.get b k.lt (fun _ _ _ _ _ _ _ e => by rw [k.get] at e; cases e)) h.next
theorem Same.of_le {n0 : Nat} {z z' : St} (h : Le z z') (hn : n0 ≤ z.next) : Same n0 z z' := ⟨h.next, fun y hy _ => h.get y hy, fun y hy => h.get y (by omega)⟩
theorem Same.rw {n0 : Nat} {z z' : St} {a : Addr} {cs : List Value} (h : Same n0 z z') (k : Row z a cs) : Row z' a cs := by
 refine ⟨?_, Nat.lt_of_lt_of_le k.lt h.next⟩
 have := k.rd
 unfold readRow at this ⊢
 rw [h.get a.block k.lt (fun tm ps x y st pend db e => by rw [e] at this; simp at this)]
 exact this
theorem Same.slv {n0 : Nat} {z z' : St} {t n len : Nat} {p : Option Addr} {vs : List Value} (h : Same n0 z z') (k : SlV Try.prog z t n p len vs) : SlV Try.prog z' t n p len vs := by
 refine ⟨⟨k.1.1, ?_⟩, k.2⟩
 cases p with
 | none => exact k.1.2
 | some a => exact h.rw k.1.2
theorem mut_c {σ s : St} {f : FuncId} {args : List Value} {v : Value} (h : ∃ N0, ∀ N, N0 ≤ N → runA Try.prog N (.func f) args σ.re = some (v, s)) (h1 : σ.next ≤ s.next) (h2 : s.low < σ.next) : CallsA Try.prog f args σ v ⟨s.heap, s.next, min σ.low s.low⟩ := by
 obtain ⟨N0, hN⟩ := h
 refine ⟨N0, fun N hl => ?_⟩
 unfold callA
 rw [show (⟨σ.heap, σ.next, σ.next⟩ : St) = σ.re from rfl, hN N hl]
 show backA σ v s = _
 unfold backA
 have e1 : (Nat.ble σ.next s.low && rigidB RD v) = false := by
  rw [Bool.and_eq_false_iff]; left
  rw [Bool.eq_false_iff]; intro e; have := (ble_iff _ _).1 e; omega
 have e2 : Nat.ble σ.next s.next = true := (ble_iff _ _).2 h1
 rw [e1, cond_false, e2, cond_true, fN_eq, cond_ble]
theorem stay_range {gx : Operand} {ps : Array Tmp} {a b : Code} {n : Nat} {l : List (Nat × Value)} {Qn : St → Prop} {τ : St} {a1 a2 ns cs2 m d n0 : Nat} {p q : Option Addr} {bus : Bus} {J : Nat → St → Prop}
  (hg : ∀ g0, aeval (Fm n (ov l g0)) gx = .func (.func 82) ⟨[]⟩ ⟨[.pointer (some ⟨a1, 0, none⟩), .pointer (some ⟨a2, 0, none⟩)]⟩) (hvb : busB bus = true) (r1 : Row τ ⟨a1, 0, none⟩ (busL bus)) (r2 : Row τ ⟨a2, 0, none⟩ (garL p ns cs2 q m d)) (hns : ns ≤ 100000) (hn0 : n0 ≤ τ.next)
  (h0 : J 0 τ) (hJ : ∀ s z z', J s z → Same n0 z z' → J s z') (hskip : ∀ s z, s < ns → thereB bus (s : Int) = false → J s z → J (s + 1) z)
  (hR : ∀ s z z1 lo g0 db, s < ns → thereB bus (s : Int) = true → getB z.heap lo = some (.loop (Fm n (ov l g0)) ps.toList a b .ready none db) → z1 = z.re.put lo (.loop (Fm n (ov l g0)) ps.toList a b .busy none db) → J s z1 → τ.next ≤ z1.next →
   ∃ z4, RoundG Try.prog lo [iV (s : Int)] z (Fm n (ov l g0)) ps.toList a b db [⟨Unit, .normal, fun _ => [], fun _ => [], fun _ z => z = z4⟩] ∧ J (s + 1) z4 ∧ ∃ S, Only S z1 z4 ∧ ∀ y, S y → n0 ≤ y ∧ (y < z1.next → ∃ cs k log nx ro, getB z1.heap y = some (.cells cs k log nx ro)))
  (hQ : ∀ z, J ns z → getB z.heap τ.next = some .defd → τ.next < z.next → (∀ m, m ≤ n0 → m ≤ τ.low → m ≤ z.low) → Qn z) : RangeG Try.prog (runA Try.prog) gx ps a b n l [(.normal, Qn)] τ := by
 refine rangeG_of (fs := [.pointer (some ⟨a1, 0, none⟩), .pointer (some ⟨a2, 0, none⟩)]) (f := 82) hg (fun g0 => ?_)
 obtain ⟨τa, hτa⟩ : ∃ τa, τa = (τ.add .defd).add (.loop (Fm n (ov l g0)) ps.toList a b .ready none τ.next) := ⟨_, rfl⟩
 have hN : New τ τa := by rw [hτa]; exact (New.add _ _).trans (New.add _ _)
 have nxa : τa.next = τ.next + 2 := by rw [hτa]; rfl
 have Ld : getB τa.heap τ.next = some .defd := by rw [hτa, St.add_get, if_neg (by simp), St.add_get, if_pos rfl]
 have Ll : getB τa.heap (τ.next + 1) = some (.loop (Fm n (ov l g0)) ps.toList a b .ready none τ.next) := by rw [hτa, St.add_get, if_pos (by simp)]
 have sm_re : ∀ z : St, Same n0 z z.re := fun z => ⟨Nat.le_refl _, fun _ _ _ => rfl, fun _ _ => rfl⟩
 let K : Nat → St → Prop := fun s z => J s z ∧ getB z.heap τ.next = some .defd ∧ getB z.heap (τ.next + 1) = some (.loop (Fm n (ov l g0)) ps.toList a b .ready none τ.next) ∧ τa.next ≤ z.next ∧ n0 ≤ z.low ∧ (z = τa.re ∨ z.low ≤ τ.next + 1)
 have hrun : RunsQ Try.prog 82 [.func (.yield (τ.next + 1)) ⟨[]⟩ ⟨[]⟩, .pointer (some ⟨a1, 0, none⟩), .pointer (some ⟨a2, 0, none⟩)] τa.re fun v s => v = .tuple ⟨[]⟩ ∧ K ns s := by
  refine stay1_run hvb ((r1.le hN.le).le (le0 _)) ((r2.le hN.le).le (le0 _)) hns (J := K) ⟨hJ _ _ _ (hJ _ _ _ h0 (Same.of_le hN.le hn0)) (sm_re τa), Ld, Ll, Nat.le_refl _, by show n0 ≤ τa.next; omega, .inl rfl⟩ ?_
  rintro s z hs ⟨j1, j2, j3, j4, j5, j6⟩
  cases ht : thereB bus (s : Int) with
  | false => rw [if_neg (by simp)]; exact ⟨hskip s z hs ht j1, j2, j3, j4, j5, j6⟩
  | true =>
   rw [if_pos rfl]
   obtain ⟨z1, hz1⟩ : ∃ z1, z1 = z.re.put (τ.next + 1) (.loop (Fm n (ov l g0)) ps.toList a b .busy none τ.next) := ⟨_, rfl⟩
   have s1 : Same n0 z z1 := ⟨by rw [hz1]; exact Nat.le_refl _, fun y hy hne => by
    rw [hz1, St.put_get, if_neg (fun e => by subst e; exact hne _ _ _ _ _ _ _ j3)]; rfl, fun y hy => by rw [hz1, St.put_get, if_neg (by omega)]; rfl⟩
   have nx1 : z1.next = z.next := by rw [hz1]; rfl
   have L1 : getB z1.heap (τ.next + 1) = some (.loop (Fm n (ov l g0)) ps.toList a b .busy none τ.next) := by rw [hz1, St.put_get, if_pos rfl]
   have D1 : getB z1.heap τ.next = some .defd := by rw [hz1, St.put_get, if_neg (by omega)]; exact j2
   obtain ⟨z4, hr, k1, S, k2, k3⟩ := hR s z z1 (τ.next + 1) g0 τ.next hs ht j3 hz1 (hJ _ _ _ j1 s1) (by omega)
   have L4 : getB z4.heap (τ.next + 1) = some (.loop (Fm n (ov l g0)) ps.toList a b .busy none τ.next) := by
    rw [k2.get _ (by omega) (fun h => by obtain ⟨cs, k, log, nx, ro, e⟩ := (k3 _ h).2 (by omega); rw [L1] at e; cases e)]; exact L1
   have D4 : getB z4.heap τ.next = some .defd := by
    rw [k2.get _ (by omega) (fun h => by obtain ⟨cs, k, log, nx, ro, e⟩ := (k3 _ h).2 (by omega); rw [D1] at e; cases e)]; exact D1
   have n4 := k2.next
   obtain ⟨e, z', ⟨al, hal, rfl, t, hq⟩, hc⟩ := hr
   simp only [In, or_false] at hal
   subst hal
   have hq : z' = z4 := hq
   subst hq
   have hcy := hc (.inl rfl) (by omega) L4 (by omega)
   have hlow : n0 ≤ z'.low := k2.low n0 (by rw [hz1]; simp only [St.put_low, re_lw]; omega) (by omega) (fun y _ hy => (k3 y hy).1)
   refine ⟨_, hcy, hJ _ _ _ k1 ⟨Nat.le_refl _, fun y hy hne => ?_, fun y hy => ?_⟩, ?_, ?_, ?_, ?_, .inr ?_⟩
   ·show getB (z'.put _ _).heap y = _
    rw [St.put_get, if_neg (fun e => by subst e; exact hne _ _ _ _ _ _ _ L4)]
   ·show getB (z'.put _ _).heap y = _
    rw [St.put_get, if_neg (by omega)]
   ·show getB (z'.put _ _).heap _ = _
    rw [St.put_get, if_neg (by omega)]; exact D4
   ·show getB (z'.put _ _).heap _ = _
    rw [St.put_get, if_pos rfl]; rfl
   ·show τa.next ≤ z'.next; omega
   ·show n0 ≤ min _ _; omega
   ·show min _ _ ≤ _; omega
 obtain ⟨v, s, h1, rfl, j1, j2, j3, j4, j5, j6⟩ := hrun
 have fin : ∀ z : St, z.heap = s.heap → z.next = s.next → (∀ m, m ≤ n0 → m ≤ τ.low → m ≤ z.low) → PostX [(.normal, Qn)] (exitC none) (z.put (τ.next + 1) (.loop (Fm n (ov l g0)) ps.toList a b .exhausted none τ.next)) := by
  intro z e1 e2 e3
  refine .inl ⟨rfl, hQ _ (hJ _ _ _ j1 ⟨by show s.next ≤ z.next; omega, fun y hy hne => ?_, fun y hy => ?_⟩) ?_ (by show τ.next < z.next; omega) (fun m h1 h2 => ?_)⟩
  ·rw [St.put_get, if_neg (fun e => by subst e; exact hne _ _ _ _ _ _ _ j3), e1]
  ·rw [St.put_get, if_neg (by omega), e1]
  ·rw [St.put_get, if_neg (by omega), e1]; exact j2
  ·have := e3 m h1 h2; show m ≤ min _ _; omega
 rcases j6 with rfl | e
 ·refine ⟨_, τa, .ready, none, by rw [hτa]; exact hτa ▸ pure_c h1 (Nat.le_refl _) rfl, Ll, .inl ⟨rfl, rfl⟩, fin τa rfl rfl (fun m h1 h2 => hN.low m h2 (by omega))⟩
 ·refine ⟨_, ⟨s.heap, s.next, min τa.low s.low⟩, .ready, none, by rw [← hτa]; exact mut_c h1 j4 (by omega), j3, .inl ⟨rfl, rfl⟩, fin _ rfl rfl (fun m h1 h2 => ?_)⟩
  have := hN.low m h2 (by omega)
  show m ≤ min _ _; omega
end Go.Proofs.Ythcdddbghldmiaa
