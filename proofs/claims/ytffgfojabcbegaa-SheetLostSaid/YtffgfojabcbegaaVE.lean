
import Derived.Test.YtffgfojabcbegaaVD
namespace Go.Proofs.Ytffgfojabcbegaa
open Go Go.Lay
set_option linter.unusedVariables false
set_option linter.unusedSimpArgs false
set_option maxRecDepth 20000
structure SameY (n0 : Nat) (Y : Nat → Prop) (z z' : St) : Prop where
 next : z.next ≤ z'.next
 get : ∀ y, y < z.next → ¬ Y y → (∀ tm ps a b st pend db, yJ z.heap y ≠ some (.loop tm ps a b st pend db)) → yJ z'.heap y = yJ z.heap y
 old : ∀ y, y < n0 → yJ z'.heap y = yJ z.heap y
abbrev Same (n0 : Nat) (z z' : St) : Prop := SameY n0 (fun _ => False) z z'
theorem SameY.own {n0 : Nat} {Y : Nat → Prop} {z z' : St} {b n : Nat} {cs : List Value} (h : SameY n0 Y z z') (k : Own z b cs n) (hb : ¬ Y b) : Own z' b cs n := k.at_ (h.get b k.lt hb (fun _ _ _ _ _ _ _ e => by rw [k.get] at e; cases e)) h.next
theorem SameY.of_le {n0 : Nat} {Y : Nat → Prop} {z z' : St} (h : Le z z') (hn : n0 ≤ z.next) : SameY n0 Y z z' := ⟨h.next, fun y hy _ _ => h.get y hy, fun y hy => h.get y (by omega)⟩
theorem SameY.of_only {n0 : Nat} {Y : Nat → Prop} {z z' : St} (h : Only Y z z') (hn : n0 ≤ z.next) (hY : ∀ y, Y y → n0 ≤ y) : SameY n0 Y z z' := ⟨h.next, fun y hy hn _ => h.get y hy hn, fun y hy => h.get y (by omega) (fun k => by have := hY y k; omega)⟩
theorem SameY.rw {n0 : Nat} {Y : Nat → Prop} {z z' : St} {a : Addr} {cs : List Value} (h : SameY n0 Y z z') (k : Row z a cs) (hb : ¬ Y a.block) : Row z' a cs := by
 refine ⟨?_, Nat.lt_of_lt_of_le k.lt h.next⟩
 have := k.rd
 unfold yV at this ⊢
 rw [h.get a.block k.lt hb (fun tm ps x y st pend db e => by rw [e] at this; simp at this)]
 exact this
theorem SameY.slv {n0 : Nat} {Y : Nat → Prop} {z z' : St} {t n len : Nat} {p : Option Addr} {vs : List Value} (h : SameY n0 Y z z') (k : SlV Try.prog z t n p len vs) (hb : ∀ b, AtP p b → ¬ Y b) : SlV Try.prog z' t n p len vs := by
 refine ⟨⟨k.1.1, ?_⟩, k.2⟩
 cases p with
 | none => exact k.1.2
 | some a => exact h.rw k.1.2 (hb _ ⟨a, rfl, rfl⟩)
theorem yRY {gx : Operand} {ps : Array Tmp} {a b : Code} {n : Nat} {l : List (Nat × Value)} {Qn Q0 : St → Prop} {τ : St} {a1 n0 c : Nat} {q : Option Addr} {L : List Rec} {J : Nat → (Nat → Prop) → St → Prop} {X : St → Prop} (hs : Srt L) (hlen : L.length ≤ 100000)
  (hg : ∀ g0, yD (Fm n (ov l g0)) gx = .func (.func 65) ⟨[]⟩ ⟨[.pointer (some ⟨a1, 0, none⟩)]⟩) (hn0 : n0 ≤ τ.next)
  (hT : ∀ i Y z, J i Y z → Own z a1 [.slice q L.length c] 1 ∧ xB z 79 q L.length L) (h0 : J 0 (fun _ => False) τ)
  (hS : ∀ i Y Y' z z', J i Y z → SameY n0 Y z z' → (∀ y, Y' y → Y y ∨ (z.next ≤ y ∧ y < z'.next)) → J i Y' z')
  (hskip : ∀ i Y z r, L[i]? = some r → r.k ≠ 2 → J i Y z → J (i + 1) Y z)
  (hR : ∀ i Y z z1 r F B p d lo g0 db, L[i]? = some r → r.k = 2 → F.m = r.m → zAW F B = xX L r.m i → (F ∈ L ∨ ∃ m, F = zAX m) → (∀ x ∈ B, x ∈ L) → B.length ≤ i → xB z1 79 p B.length B → yJ z.heap lo = some (.loop (Fm n (ov l g0)) ps.toList a b .ready none db) → lo < z.next → z1 = z.re.put lo (.loop (Fm n (ov l g0)) ps.toList a b .busy none db) → J i Y z1 → τ.next ≤ z1.next → (∀ y, Y y → y < z1.next) →
   (∃ z4, zQL Try.prog lo [.agg ⟨vY F r p B.length d⟩] z (Fm n (ov l g0)) ps.toList a b db [⟨Unit, .normal, fun _ => [], fun _ => [], fun _ z => z = z4⟩, ⟨Unit, .ret, fun _ => [], fun _ => [], fun _ _ => False⟩] ∧ J (i + 1) Y z4 ∧ ∃ S, Only S z1 z4 ∧ ∀ y, S y → n0 ≤ y ∧ ¬ Y y ∧ (y < z1.next → ∃ cs k log nx ro, yJ z1.heap y = some (.cells cs k log nx ro))) ∨
   ∃ z4, zQL Try.prog lo [.agg ⟨vY F r p B.length d⟩] z (Fm n (ov l g0)) ps.toList a b db [⟨Unit, .normal, fun _ => [], fun _ => [], fun _ _ => False⟩, ⟨Unit, .ret, fun _ => [], fun _ => [], fun _ z => z = z4⟩] ∧ X z4 ∧ ∃ S, Only S z1 z4 ∧ ∀ y, S y → n0 ≤ y ∧ (y < z1.next → ∃ cs k log nx ro, yJ z1.heap y = some (.cells cs k log nx ro)))
  (hX : ∀ z z', X z → Same n0 z z' → X z') (hQ0 : ∀ z, X z → yJ z.heap τ.next = some .defd → τ.next < z.next → (∀ m, m ≤ n0 → m ≤ τ.low → m ≤ z.low) → Q0 z)
  (hQ : ∀ Y z, J L.length Y z → yJ z.heap τ.next = some .defd → τ.next < z.next → (∀ m, m ≤ n0 → m ≤ τ.low → m ≤ z.low) → Qn z) : yED Try.prog (zT Try.prog) gx ps a b n l [(.normal, Qn), (.ret, Q0)] τ := by
 refine ySJ (fs := [.pointer (some ⟨a1, 0, none⟩)]) (f := 65) hg (fun g0 => ?_)
 obtain ⟨τa, hτa⟩ : ∃ τa, τa = (τ.add .defd).add (.loop (Fm n (ov l g0)) ps.toList a b .ready none τ.next) := ⟨_, rfl⟩
 have hN : New τ τa := by rw [hτa]; exact (New.add _ _).trans (New.add _ _)
 have nxa : τa.next = τ.next + 2 := by rw [hτa]; rfl
 have Ld : yJ τa.heap τ.next = some .defd := by rw [hτa, St.add_get, if_neg (by simp), St.add_get, if_pos rfl]
 have Ll : yJ τa.heap (τ.next + 1) = some (.loop (Fm n (ov l g0)) ps.toList a b .ready none τ.next) := by rw [hτa, St.add_get, if_pos (by simp)]
 have sm_re : ∀ (z : St) (Y : Nat → Prop), SameY n0 Y z z.re := fun z Y => ⟨Nat.le_refl _, fun _ _ _ _ => rfl, fun _ _ => rfl⟩
 let K : Nat → (Nat → Prop) → St → Prop := fun i Y z => J i Y z ∧ yJ z.heap τ.next = some .defd ∧ yJ z.heap (τ.next + 1) = some (.loop (Fm n (ov l g0)) ps.toList a b .ready none τ.next) ∧ τa.next ≤ z.next ∧ n0 ≤ z.low ∧ (∀ y, Y y → τa.next ≤ y ∧ y < z.next) ∧ (J i (fun _ => False) τa.re ∨ z.low ≤ τ.next + 1)
 let KX : St → Prop := fun z => X z ∧ yJ z.heap τ.next = some .defd ∧ yJ z.heap (τ.next + 1) = some (.loop (Fm n (ov l g0)) ps.toList a b .done (some .ret) τ.next) ∧ τa.next ≤ z.next ∧ n0 ≤ z.low ∧ z.low ≤ τ.next + 1
 have no : ∀ (z' : St) (P : Nat → Prop), ∀ y, (fun _ : Nat => False) y → P y := fun _ _ y h => h.elim
 have J0 : J 0 (fun _ => False) τa.re := hS _ _ _ _ _ (hS _ (fun _ => False) (fun _ => False) _ _ h0 (SameY.of_le hN.le hn0) (fun y hy => hy.elim)) (sm_re τa _) (fun y hy => hy.elim)
 have hrun : zO Try.prog 65 [.func (.yield (τ.next + 1)) ⟨[]⟩ ⟨[]⟩, .pointer (some ⟨a1, 0, none⟩)] τa.re fun v s => v = .tuple ⟨[]⟩ ∧ ((∃ Y, K L.length Y s) ∨ KX s) := by
  refine yXI (c := c) (q := q) hs hlen (J := K) (X := KX) (fun i Y z h => hT i Y z h.1) ⟨J0, Ld, Ll, Nat.le_refl _, by show n0 ≤ τa.next; omega, fun y hy => hy.elim, .inl J0⟩ ?_ ?_ ?_
  ·rintro i Y Y' z z' ⟨j1, j2, j3, j4, j5, j6, j7⟩ hz hlw hy
   have hYt : ∀ y, Y y → τa.next ≤ y := fun y h => (j6 y h).1
   refine ⟨hS _ _ _ _ _ j1 (SameY.of_only hz (by omega) (fun y h => by have := hYt y h; omega)) hy, ?_, ?_, ?_, ?_, fun y h => ?_, j7.imp id fun h => by omega⟩
   ·rw [hz.get _ (by omega) (fun h => by have := hYt _ h; omega)]; exact j2
   ·rw [hz.get _ (by omega) (fun h => by have := hYt _ h; omega)]; exact j3
   ·have := hz.next; omega
   ·exact hz.low _ j5 (by omega) (fun y _ h => by have := hYt y h; omega)
   ·have hzn := hz.next
    rcases hy y h with e | e
    ·have := j6 y e; exact ⟨this.1, by omega⟩
    ·exact ⟨by omega, e.2⟩
  ·rintro i Y z r hr hk ⟨j1, j2, j3, j4, j5, j6, j7⟩
   exact ⟨hskip _ _ _ _ hr hk j1, j2, j3, j4, j5, j6, j7.imp (fun h => hskip _ _ _ _ hr hk h) id⟩
  ·rintro i Y z r F B p l' d hr hk hF hc hFm hB hBl rfl hRec ⟨j1, j2, j3, j4, j5, j6, j7⟩
   obtain ⟨z1, hz1⟩ : ∃ z1, z1 = z.re.put (τ.next + 1) (.loop (Fm n (ov l g0)) ps.toList a b .busy none τ.next) := ⟨_, rfl⟩
   have s1 : ∀ Y : Nat → Prop, SameY n0 Y z z1 := fun Y => ⟨by rw [hz1]; exact Nat.le_refl _, fun y hy _ hne => by
    rw [hz1, St.put_get, if_neg (fun e => by subst e; exact hne _ _ _ _ _ _ _ j3)]; rfl, fun y hy => by rw [hz1, St.put_get, if_neg (by omega)]; rfl⟩
   have nx1 : z1.next = z.next := by rw [hz1]; rfl
   have L1 : yJ z1.heap (τ.next + 1) = some (.loop (Fm n (ov l g0)) ps.toList a b .busy none τ.next) := by rw [hz1, St.put_get, if_pos rfl]
   have D1 : yJ z1.heap τ.next = some .defd := by rw [hz1, St.put_get, if_neg (by omega)]; exact j2
   have hRec1 : xB z1 79 p B.length B := (s1 fun _ => False).slv hRec (fun _ _ h => h)
   rcases hR i Y z z1 r F B p d (τ.next + 1) g0 τ.next hr hk hF hc hFm hB hBl hRec1 j3 (by omega) hz1 (hS _ _ _ _ _ j1 (s1 Y) (fun y hy => .inl hy)) (by omega) (fun y hy => by have := (j6 y hy).2; omega) with ⟨z4, hr, k1, S, k2, k3⟩ | ⟨z4, hr, k1, S, k2, k3⟩
   ·left
    have L4 : yJ z4.heap (τ.next + 1) = some (.loop (Fm n (ov l g0)) ps.toList a b .busy none τ.next) := by
     rw [k2.get _ (by omega) (fun h => by obtain ⟨cs, k, log, nx, ro, e⟩ := (k3 _ h).2.2 (by omega); rw [L1] at e; cases e)]; exact L1
    have D4 : yJ z4.heap τ.next = some .defd := by
     rw [k2.get _ (by omega) (fun h => by obtain ⟨cs, k, log, nx, ro, e⟩ := (k3 _ h).2.2 (by omega); rw [D1] at e; cases e)]; exact D1
    have n4 := k2.next
    obtain ⟨e, z', ⟨al, hal, rfl, tt, hq⟩, hc⟩ := hr
    simp only [In, or_false] at hal
    obtain rfl | rfl := hal
    rotate_left
    ·exact hq.elim
    have hq : z' = z4 := hq
    subst hq
    have hcy := hc (.inl rfl) (by omega) L4 (by omega)
    have hlow : n0 ≤ z'.low := k2.low n0 (by rw [hz1]; simp only [St.put_low, yXS]; omega) (by omega) (fun y _ hy => (k3 y hy).1)
    refine ⟨_, hcy, ⟨hS _ _ _ _ _ k1 ⟨Nat.le_refl _, fun y hy _ hne => ?_, fun y hy => ?_⟩ (fun y hy => .inl hy), ?_, ?_, ?_, ?_, fun y hy => ⟨(j6 y hy).1, ?_⟩, .inr ?_⟩, fun b' cs n' hYb ho => ?_⟩
    ·show yJ (z'.put _ _).heap y = _
     rw [St.put_get, if_neg (fun e => by subst e; exact hne _ _ _ _ _ _ _ L4)]
    ·show yJ (z'.put _ _).heap y = _
     rw [St.put_get, if_neg (by omega)]
    ·show yJ (z'.put _ _).heap _ = _
     rw [St.put_get, if_neg (by omega)]; exact D4
    ·show yJ (z'.put _ _).heap _ = _
     rw [St.put_get, if_pos rfl]; rfl
    ·show τa.next ≤ z'.next; omega
    ·show n0 ≤ min _ _; omega
    ·show y < z'.next; have := (j6 y hy).2; omega
    ·show min _ _ ≤ _; omega
    ·have h1 : Own z1 b' cs n' := (s1 fun _ => False).own ho (fun h => h)
     have h2 : Own z' b' cs n' := k2.own' h1 (fun hs => (k3 _ hs).2.1 hYb)
     have hne : b' ≠ τ.next + 1 := fun e => by have := (j6 b' hYb).1; omega
     refine ⟨?_, h2.lt⟩
     show yJ (z'.put _ _).heap b' = _
     rw [St.put_get, if_neg hne]; exact h2.get
   ·right
    have L4 : yJ z4.heap (τ.next + 1) = some (.loop (Fm n (ov l g0)) ps.toList a b .busy none τ.next) := by
     rw [k2.get _ (by omega) (fun h => by obtain ⟨cs, k, log, nx, ro, e⟩ := (k3 _ h).2 (by omega); rw [L1] at e; cases e)]; exact L1
    have D4 : yJ z4.heap τ.next = some .defd := by
     rw [k2.get _ (by omega) (fun h => by obtain ⟨cs, k, log, nx, ro, e⟩ := (k3 _ h).2 (by omega); rw [D1] at e; cases e)]; exact D1
    have n4 := k2.next
    obtain ⟨e, z', ⟨al, hal, rfl, tt, hq⟩, hc⟩ := hr
    simp only [In, or_false] at hal
    obtain rfl | rfl := hal
    ·exact hq.elim
    have hq : z' = z4 := hq
    subst hq
    have hcy := hc (.inr (.inl rfl)) (by omega) L4 (by omega)
    have hlow : n0 ≤ z'.low := k2.low n0 (by rw [hz1]; simp only [St.put_low, yXS]; omega) (by omega) (fun y _ hy => (k3 y hy).1)
    refine ⟨_, hcy, hX _ _ k1 ⟨Nat.le_refl _, fun y hy _ hne => ?_, fun y hy => ?_⟩, ?_, ?_, ?_, ?_, ?_⟩
    ·show yJ (z'.put _ _).heap y = _
     rw [St.put_get, if_neg (fun e => by subst e; exact hne _ _ _ _ _ _ _ L4)]
    ·show yJ (z'.put _ _).heap y = _
     rw [St.put_get, if_neg (by omega)]
    ·show yJ (z'.put _ _).heap _ = _
     rw [St.put_get, if_neg (by omega)]; exact D4
    ·show yJ (z'.put _ _).heap _ = _
     rw [St.put_get, if_pos rfl]; rfl
    ·show τa.next ≤ z'.next; omega
    ·show n0 ≤ min _ _; omega
    ·show min _ _ ≤ _; omega
 obtain ⟨v, s, h1, rfl, ⟨Y, j1, j2, j3, j4, j5, j6, j7⟩ | hF⟩ := hrun
 rotate_left
 ·obtain ⟨j1, j2, j3, j4, j5, j6⟩ := hF
  refine ⟨_, ⟨s.heap, s.next, min τa.low s.low⟩, .done, some .ret, by rw [← hτa]; exact yZN h1 j4 (by omega), j3, .inr ⟨rfl, .inl rfl⟩, .inr (.inl ⟨rfl, hQ0 _ (hX _ _ j1 ⟨Nat.le_refl _, fun y hy _ hne => ?_, fun y hy => ?_⟩) ?_ (by show τ.next < s.next; omega) (fun m h1 h2 => ?_)⟩)⟩
  ·show yJ (St.put _ _ _).heap y = _
   rw [St.put_get, if_neg (fun e => by subst e; exact hne _ _ _ _ _ _ _ j3)]
  ·show yJ (St.put _ _ _).heap y = _
   rw [St.put_get, if_neg (by omega)]
  ·rw [St.put_get, if_neg (by omega)]; exact j2
  ·have := hN.low m h2 (by omega)
   show m ≤ min (min _ _) _; omega
 have fin : ∀ (Y : Nat → Prop) (w z : St), J L.length Y w → yJ w.heap τ.next = some .defd → yJ w.heap (τ.next + 1) = some (.loop (Fm n (ov l g0)) ps.toList a b .ready none τ.next) → τa.next ≤ w.next → z.heap = w.heap → z.next = w.next → (∀ m, m ≤ n0 → m ≤ τ.low → m ≤ z.low) → yJK [(.normal, Qn), (.ret, Q0)] (exitC none) (z.put (τ.next + 1) (.loop (Fm n (ov l g0)) ps.toList a b .exhausted none τ.next)) := by
  intro Y w z i1 i2 i3 i4 e1 e2 e3
  refine .inl ⟨rfl, hQ Y _ (hS _ _ _ _ _ i1 ⟨by show w.next ≤ z.next; omega, fun y hy _ hne => ?_, fun y hy => ?_⟩ (fun y hy => .inl hy)) ?_ (by show τ.next < z.next; omega) (fun m h1 h2 => ?_)⟩
  ·rw [St.put_get, if_neg (fun e => by subst e; exact hne _ _ _ _ _ _ _ i3), e1]
  ·rw [St.put_get, if_neg (by omega), e1]
  ·rw [St.put_get, if_neg (by omega), e1]; exact i2
  ·have := e3 m h1 h2; show m ≤ min _ _; omega
 by_cases hlw : s.low ≤ τ.next + 1
 ·refine ⟨_, ⟨s.heap, s.next, min τa.low s.low⟩, .ready, none, by rw [← hτa]; exact yZN h1 j4 (by omega), j3, .inl ⟨rfl, rfl⟩, fin Y s _ j1 j2 j3 j4 rfl rfl (fun m h1 h2 => ?_)⟩
  have := hN.low m h2 (by omega)
  show m ≤ min _ _; omega
 ·have j7 := j7.resolve_right hlw
  refine ⟨_, τa, .ready, none, by rw [hτa]; exact hτa ▸ yCE h1 (by show τa.next ≤ s.low; omega) rfl, Ll, .inl ⟨rfl, rfl⟩, fin _ τa.re τa j7 Ld Ll (Nat.le_refl _) rfl rfl (fun m h1 h2 => hN.low m h2 (by omega))⟩
end Go.Proofs.Ytffgfojabcbegaa
