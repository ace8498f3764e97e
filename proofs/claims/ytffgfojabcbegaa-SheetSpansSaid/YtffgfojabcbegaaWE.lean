
import Derived.Test.YtffgfojabcbegaaWD
import Derived.Test.YtffgfojabcbegaaVK
import Derived.Test.YtffgfojabcbegaaXO
namespace Go.Proofs.Ytffgfojabcbegaa
open Go Go.Lay
open Try renaming prog → Pg
set_option linter.unusedVariables false
set_option linter.unusedSimpArgs false
set_option maxRecDepth 20000
theorem appT_rspan : AppT Pg 48 48 53 2 := appT_of (by kernel_rfl)
theorem elOk_rspan (w : Int × Int) : elOk Pg 53 2 (spV w) := .inr ⟨agg53, size53, _, rfl, rfl⟩
theorem win_at {L : List Rec} {rate : Int} {i j : Nat} {r s : Rec} (hs : Srt L) (hc : Cons L) (hi : L[i]? = some r) (hj : L[j]? = some s) (hm : s.m = r.m) :
  (j < i → s.t ≤ r.t ∧ winOf rate r s = (s.a + pLo (r.t - s.t) rate, s.a + pHi (r.t - s.t) rate)) ∧ (i < j → r.t ≤ s.t ∧ winOf rate r s = (s.a - pHi (s.t - r.t) rate, s.a - pLo (s.t - r.t) rate)) ∧ (i = j → winOf rate r s = (s.a, s.a)) := by
 refine ⟨fun h => ?_, fun h => ?_, fun h => ?_⟩
 ·obtain ⟨h1, h2⟩ := cons_adj hs hc hj hi h hm
  refine ⟨h2, ?_⟩
  unfold winOf
  rw [if_neg (fun e => by rw [e] at h1; omega), if_pos h1]
 ·obtain ⟨h1, h2⟩ := cons_adj hs hc hi hj h hm.symm
  refine ⟨h2, ?_⟩
  unfold winOf
  rw [if_neg (fun e => by rw [e] at h1; omega), if_neg (by omega)]
 ·subst h
  rw [hi] at hj; cases hj
  exact if_pos rfl
section
variable {σ : St}
theorem rSpan_c {p : Option Addr} {l c i : Nat} {rate : Int} {L : List Rec} {r : Rec} (h : RecsP σ 59 p l L) (hi : L[i]? = some r) (hl : l ≤ 100000) (hs : Srt L) (hc : Cons L) (hm : ∀ x ∈ L, Mt x) (hb : ∀ x ∈ L, Bd x) (r0 : 0 ≤ rate) (r1 : rate ≤ 1000) : CallsA Pg 52 [.slice p l c, intV i, intV rate] σ (spV (spanOf L rate r)) σ := by
 have hlen := h.len
 have hil : i < l := by have := (List.getElem?_eq_some_iff.1 hi).1; omega
 obtain ⟨τ, hτ⟩ : ∃ τ, τ = ((((σ.re.row [intV 0, intV 0] 2).row (recL ⟨0, 0, 0, 0, 0, 0⟩) 6).own (σ.next + 1) (recL r) 6).row [intV 0, intV 0] 2).own (σ.next + 2) [intV 0, intV 1000000] 2 := ⟨_, rfl⟩
 have N1 : New σ.re (σ.re.row [intV 0, intV 0] 2) := New.row _ _ _
 have N : New σ.re τ := by rw [hτ]; exact (((N1.row').own (by show σ.next ≤ σ.next + 1; omega)).row').own (by show σ.next ≤ σ.next + 2; omega)
 have nτ : τ.next = σ.next + 3 := by rw [hτ]; rfl
 have w1 : Own τ σ.next [intV 0, intV 0] 2 := by rw [hτ]; exact ((((own_new σ.re [intV 0, intV 0] 2).row).own (by show σ.next ≠ σ.next + 1; omega)).row).own (by show σ.next ≠ σ.next + 2; omega)
 have w2 : Own τ (σ.next + 1) (recL r) 6 := by rw [hτ]; exact (((own_new (σ.re.row [intV 0, intV 0] 2) (recL ⟨0, 0, 0, 0, 0, 0⟩) 6).put (ds := recL r)).row).own (by show σ.next + 1 ≠ σ.next + 2; omega)
 have w3 : Own τ (σ.next + 2) [intV 0, intV 1000000] 2 := by rw [hτ]; exact (own_new (((σ.re.row [intV 0, intV 0] 2).row (recL ⟨0, 0, 0, 0, 0, 0⟩) 6).own (σ.next + 1) (recL r) 6) [intV 0, intV 0] 2).put
 have h1 : RecsP (σ.re.row [intV 0, intV 0] 2) 59 p l L := (SlV.le h (le0 σ)).le N1.le
 have hp : RecsP τ 59 p l L := (SlV.le h (le0 σ)).le N.le
 have hrL := List.mem_of_getElem? hi
 obtain ⟨a, rfl, _⟩ := slv_at hp hil
 have hab : a.block < σ.next := slv_lt h a rfl
 have ld0 : loadA Pg (σ.re.row [intV 0, intV 0] 2) 59 (aadd a (Int.toNat (i : Int) * 6)) = some (recV r) := h1.at rfl (by rw [List.getElem?_map, hi]; rfl)
 have hN := N.lw
 subst hτ
 obtain ⟨τ, hτ⟩ : ∃ τ, τ = ((((σ.re.row [intV 0, intV 0] 2).row (recL ⟨0, 0, 0, 0, 0, 0⟩) 6).own (σ.next + 1) (recL r) 6).row [intV 0, intV 0] 2).own (σ.next + 2) [intV 0, intV 1000000] 2 := ⟨_, rfl⟩
 rw [← hτ] at N nτ w1 w2 w3 hp hN
 refine RunsQ.pure (rSpan_ra (P0 := fun τ' => New σ.re τ' ∧ Only (· = σ.next + 2) τ τ' ∧ Own τ' (σ.next + 2) [intV (spanOf L rate r).1, intV (spanOf L rate r).2] 2) ld0
  (rSpan_loop1 (Inv := fun k j τ' => ∃ s : Nat, j = s ∧ s + k = l ∧ New σ.re τ' ∧ Only (· = σ.next + 2) τ τ' ∧ Own τ' (σ.next + 2) [intV ((L.take s).foldl (cutS rate r) (0, 1000000)).1, intV ((L.take s).foldl (cutS rate r) (0, 1000000)).2] 2) ?_ l 0 _ ⟨0, rfl, by omega, by subst hτ; exact N, by subst hτ; exact Only.refl _ _, by subst hτ; exact w3⟩) ?_ ⟨by omega, by omega⟩)
 ·rintro k j τ' ⟨s, rfl, hk, N', O', w⟩
  by_cases hsl : s < l
  rotate_left
  ·have : s = L.length := by omega
   subst this
   rw [List.take_length] at w
   exact rSpan_s1g ⟨N', O', w⟩ (by omega)
  have hp' := O'.slv' hp (fun b e => by cases e; show ¬ a.block = σ.next + 2; omega)
  obtain ⟨x, hx⟩ : ∃ x, L[s]? = some x := ⟨L[s]'(by omega), by simp⟩
  have ld : loadA Pg τ' 59 (aadd a (Int.toNat (s : Int) * 6)) = some (recV x) := hp'.at rfl (by rw [List.getElem?_map, hx]; rfl)
  have hxL := List.mem_of_getElem? hx
  have nn := O'.next
  have n' : σ.next + 3 ≤ τ'.next := by omega
  obtain ⟨z, hz⟩ : ∃ z, z = (τ'.row (recL ⟨0, 0, 0, 0, 0, 0⟩) 6).own τ'.next (recL x) 6 := ⟨_, rfl⟩
  have Nz : New τ' z := by rw [hz]; exact (New.row _ _ _).own (Nat.le_refl _)
  have q1 : Own z (σ.next + 1) (recL r) 6 := (O'.own' w2 (by show ¬ σ.next + 1 = σ.next + 2; omega)).le Nz.le
  have q2 := w.le Nz.le
  have m0 := q1.rw.load1 (P := Pg) (t := 3) agg3 (k := 0) rfl
  have m2 := q1.rw.load1 (P := Pg) (t := 3) agg3 (k := 2) rfl
  have e : ∀ f : Int × Int, f = cutS rate r ((L.take s).foldl (cutS rate r) (0, 1000000)) x → (L.take (s + 1)).foldl (cutS rate r) (0, 1000000) = f := fun f hf => by rw [take_snoc hx, List.foldl_append, hf]; rfl
  generalize hw : (L.take s).foldl (cutS rate r) (0, 1000000) = u at w q2 e
  have l0 := q2.rw.load1 (P := Pg) (t := 3) agg3 (k := 0) rfl
  have l1 := q2.rw.load1 (P := Pg) (t := 3) agg3 (k := 1) rfl
  have st : ∀ v : Int × Int, effOp Pg (evL [.pointer (some ⟨σ.next + 2, 0, none⟩), .agg ⟨[intV (max u.1 v.1), intV (min u.2 v.2)]⟩]) z (.store 53 (.tmp 0) (.tmp 1)) = some (undef, z.own (σ.next + 2) [intV (max u.1 v.1), intV (min u.2 v.2)] 2) := fun v => q2.store (P := Pg) (k := 0) (t := 53) (v := .agg ⟨[intV (max u.1 v.1), intV (min u.2 v.2)]⟩) (vs := [intV (max u.1 v.1), intV (min u.2 v.2)]) (ds := [intV (max u.1 v.1), intV (min u.2 v.2)]) rfl size53 rfl (by simp) rfl
  have put : ∀ v : Int × Int, winOf rate r x = v → x.m = r.m → x.k = 1 → ∃ k', k' < k ∧ ∃ s_1 : Nat, ((s : Int) + 1) = s_1 ∧ s_1 + k' = l ∧ New σ.re (z.own (σ.next + 2) [intV (max u.1 v.1), intV (min u.2 v.2)] 2) ∧ Only (· = σ.next + 2) τ (z.own (σ.next + 2) [intV (max u.1 v.1), intV (min u.2 v.2)] 2) ∧ Own (z.own (σ.next + 2) [intV (max u.1 v.1), intV (min u.2 v.2)] 2) (σ.next + 2) [intV ((L.take s_1).foldl (cutS rate r) (0, 1000000)).1, intV ((L.take s_1).foldl (cutS rate r) (0, 1000000)).2] 2 := fun v hv h1 h2 => by
   refine ⟨k - 1, by omega, s + 1, by omega, by omega, (N'.trans Nz).own (by show σ.next ≤ σ.next + 2; omega), (O'.trans' (Nz.only (S := fun _ => False)) (fun _ _ h => h.elim)).trans' (Only.own (S := (· = σ.next + 2)) (.inr rfl)) (fun b _ h => .inl h), ?_⟩
   rw [e (cutW u v) (by unfold cutS; rw [if_pos ⟨h1, h2⟩, hv])]
   exact q2.put
  have skip : ¬ (x.m = r.m ∧ x.k = 1) → ∃ k', k' < k ∧ ∃ s_1 : Nat, ((s : Int) + 1) = s_1 ∧ s_1 + k' = l ∧ New σ.re z ∧ Only (· = σ.next + 2) τ z ∧ Own z (σ.next + 2) [intV ((L.take s_1).foldl (cutS rate r) (0, 1000000)).1, intV ((L.take s_1).foldl (cutS rate r) (0, 1000000)).2] 2 := fun h1 => by
   refine ⟨k - 1, by omega, s + 1, by omega, by omega, N'.trans Nz, O'.trans' (Nz.only (S := fun _ => False)) (fun _ _ h => h.elim), ?_⟩
   rw [e u (by unfold cutS; rw [if_neg h1])]
   exact q2
  have hxb := hb x hxL
  unfold Bd at hxb
  have mx := hm x hxL
  have mr := hm r hrL
  unfold Mt at mx mr
  by_cases hm1 : x.m = r.m
  ·by_cases hk1 : x.k = 1
   ·obtain ⟨a1, a2, a3⟩ := win_at (rate := rate) hs hc hi hx hm1
    rcases Nat.lt_trichotomy s i with hsi | hsi | hsi
    ·obtain ⟨ht, hwn⟩ := a1 hsi
     have b := pass_bd (d := r.t - x.t) (by omega) (by omega) r0 r1
     have k68 := rLeast_c (σ := z) (d := r.t - x.t) (by omega) (by omega) r0 r1
     have k69 := rMost_c (σ := z) (d := r.t - x.t) (by omega) (by omega) r0 r1
     have pp := put _ hwn hm1 hk1
     have ss := st (x.a + pLo (r.t - x.t) rate, x.a + pHi (r.t - x.t) rate)
     subst hz
     exact rSpan_s1d (b_BB := by show σ.next + 1 < τ'.next; omega) ld (by simpa [aadd] using m0) (by simpa [aadd] using m2) k68 k69 (by simpa [aadd] using l0) max_see (by simpa [aadd] using l1) min_see ss pp (by omega) ⟨by omega, by omega⟩ hm1 hk1 (by omega) ⟨by omega, by omega⟩ ⟨by omega, by omega⟩ ⟨by omega, by omega⟩ (by omega)
    ·have hwn := a3 hsi.symm
     have pp := put _ hwn hm1 hk1
     have ss := st (x.a, x.a)
     subst hz
     exact rSpan_s1f ld (by simpa [aadd] using m0) (by simpa [aadd] using l0) max_see (by simpa [aadd] using l1) min_see ss pp (by omega) ⟨by omega, by omega⟩ hm1 hk1 (by omega) (by omega)
    ·obtain ⟨ht, hwn⟩ := a2 hsi
     have b := pass_bd (d := x.t - r.t) (by omega) (by omega) r0 r1
     have k68 := rLeast_c (σ := z) (d := x.t - r.t) (by omega) (by omega) r0 r1
     have k69 := rMost_c (σ := z) (d := x.t - r.t) (by omega) (by omega) r0 r1
     have pp := put _ hwn hm1 hk1
     have ss := st (x.a - pHi (x.t - r.t) rate, x.a - pLo (x.t - r.t) rate)
     subst hz
     exact rSpan_s1e (b_BB := by show σ.next + 1 < τ'.next; omega) ld (by simpa [aadd] using m0) (by simpa [aadd] using m2) k69 k68 (by simpa [aadd] using l0) max_see (by simpa [aadd] using l1) min_see ss pp (by omega) ⟨by omega, by omega⟩ hm1 hk1 (by omega) (by omega)
   ·have pp := skip (fun h => hk1 h.2)
    subst hz
    exact rSpan_s1b ld (by simpa [aadd] using m0) pp (by omega) ⟨by omega, by omega⟩ hm1 hk1
  ·have pp := skip (fun h => hm1 h.1)
   subst hz
   exact rSpan_s1a ld (by simpa [aadd] using m0) pp (by omega) ⟨by omega, by omega⟩ hm1
 ·rintro τ' ⟨N', O', w⟩
  have q1 := O'.own' w1 (by show ¬ σ.next = σ.next + 2; omega)
  have l3 : loadA Pg τ' 53 ⟨σ.next + 2, 0, none⟩ = some (spV (spanOf L rate r)) := by simpa [aadd] using w.rw.loadN (P := Pg) (t := 53) agg53 size53 (k := 0) (ds := [intV (spanOf L rate r).1, intV (spanOf L rate r).2]) rfl rfl (by simp)
  have st := q1.store (P := Pg) (k := 0) (t := 53) (v := spV (spanOf L rate r)) (vs := [intV (spanOf L rate r).1, intV (spanOf L rate r).2]) (ds := [intV (spanOf L rate r).1, intV (spanOf L rate r).2]) rfl size53 rfl (by simp) rfl
  have l4 : loadA Pg (τ'.own σ.next [intV (spanOf L rate r).1, intV (spanOf L rate r).2] 2) 53 ⟨σ.next, 0, none⟩ = some (spV (spanOf L rate r)) := by simpa [aadd] using (q1.put (ds := [intV (spanOf L rate r).1, intV (spanOf L rate r).2])).rw.loadN (P := Pg) (t := 53) agg53 size53 (k := 0) (ds := [intV (spanOf L rate r).1, intV (spanOf L rate r).2]) rfl rfl (by simp)
  exact rSpan_t1x0a l3 st l4 ⟨rfl, (N'.own (Nat.le_refl _)).lw⟩
theorem rSpans_c {p : Option Addr} {l c : Nat} {rate : Int} {L : List Rec} (h : RecsP σ 59 p l L) (hl : l ≤ 100000) (hs : Srt L) (hc : Cons L) (hm : ∀ x ∈ L, Mt x) (hb : ∀ x ∈ L, Bd x) (r0 : 0 ≤ rate) (r1 : rate ≤ 1000) :
  (spansOf L rate = none ∧ CallsA Pg 25 [.slice p l c, intV rate] σ (.tuple ⟨[.slice none 0 0, .bool false]⟩) σ) ∨
  (∃ o q d σ', spansOf L rate = some o ∧ CallsA Pg 25 [.slice p l c, intV rate] σ (.tuple ⟨[.slice q o.length d, .bool true]⟩) σ' ∧ New σ σ' ∧ SlV Pg σ' 53 2 q o.length (o.map spV)) := by
 have hlen := h.len
 have h0 : RecsP σ.re 59 p l L := SlV.le h (le0 σ)
 have key : RunsQ Pg 25 [.slice p l c, intV rate] σ.re fun v s => New σ.re s ∧ ((spansOf L rate = none ∧ v = .tuple ⟨[.slice none 0 0, .bool false]⟩) ∨ ∃ o q d, spansOf L rate = some o ∧ v = .tuple ⟨[.slice q o.length d, .bool true]⟩ ∧ SlV Pg s 53 2 q o.length (o.map spV)) := by
  refine rSpans_ra (Pr := fun p2 l2 c2 t τ => spansOf L rate = none ∧ p2 = none ∧ l2 = 0 ∧ c2 = 0 ∧ t = false ∧ New σ.re τ) (P0 := fun p' l' c' τ => ∃ o, spansOf L rate = some o ∧ l' = o.length ∧ New σ.re τ ∧ Gr Pg τ σ.next 53 2 p' o.length c' (o.map spV))
   (rSpans_loop1 (Inv := fun k p' l' c' i τ => ∃ s : Nat, i = s ∧ s + k = l ∧ s = l' ∧ New σ.re τ ∧ (L.take s).all (fun r => okW (spanOf L rate r)) = true ∧ Gr Pg τ σ.next 53 2 p' s c' (((L.take s).map (spanOf L rate)).map spV)) ?_ l none 0 0 0 σ.re ⟨0, rfl, by omega, rfl, New.refl _, rfl, .nil⟩)
   (fun p2 l2 c2 t τ ⟨e1, e2, e3, e4, e5, hN⟩ => by subst e2 e3 e4 e5; exact rSpans_t1xra ⟨hN, .inl ⟨e1, rfl⟩⟩) (fun p' l' c' τ ⟨o, e1, e2, hN, hg⟩ => by subst e2; exact rSpans_t1x0a ⟨hN, .inr ⟨o, _, _, e1, rfl, hg.slv⟩⟩)
  rintro k p' l' c' i τ ⟨s, rfl, hk, rfl, hN, hall, hg⟩
  by_cases hsl : s < l
  rotate_left
  ·have : s = L.length := by omega
   subst this
   rw [List.take_length] at hall hg
   exact rSpans_s1c ⟨L.map (spanOf L rate), by unfold spansOf; rw [if_pos hall], by simp, hN, by rw [List.length_map]; exact hg⟩ (by omega)
  have hp := SlV.le h0 hN.le
  obtain ⟨r, hri⟩ : ∃ r, L[s]? = some r := ⟨L[s]'(by omega), by simp⟩
  have hrL := List.mem_of_getElem? hri
  have k52 := rSpan_c (c := c) (rate := rate) hp hri hl hs hc hm hb r0 r1
  obtain ⟨z, hz⟩ : ∃ z, z = (τ.row [intV 0, intV 0] 2).own τ.next [intV (spanOf L rate r).1, intV (spanOf L rate r).2] 2 := ⟨_, rfl⟩
  have Nz : New τ z := by rw [hz]; exact (New.row _ _ _).own (Nat.le_refl _)
  have nz : z.next = τ.next + 1 := by rw [hz]; rfl
  by_cases hok : (spanOf L rate r).2 < (spanOf L rate r).1
  ·have : okW (spanOf L rate r) = false := by unfold okW; simp; omega
   have hn := spansTo_none hri this
   subst hz
   exact rSpans_s1a k52 ⟨hn, rfl, rfl, rfl, rfl, hN.trans Nz⟩ (by omega) hok
  ·obtain ⟨p4, c4, τ4, w1, w2, w3, w4⟩ := grow1 (spV (spanOf L rate r)) appT_rspan hg Nz.le (elOk_rspan _) (by omega) hN.nx (e := rfl) (hc := rfl)
   have N4 : New σ.re τ4 := ((hN.trans Nz).row').of_only w3 (fun b hb => (hg.bd hb).1)
   subst hz
   refine rSpans_s1b k52 w1 ⟨k - 1, by omega, s + 1, by omega, by omega, rfl, N4, take_all_snoc hri hall (okW_iff.2 (by omega)), ?_⟩ (by omega) hok ⟨by omega, by omega⟩
   rw [take_snoc hri, List.map_append, List.map_append]; exact w2
 cases ho : spansOf L rate with
 | none =>
  obtain ⟨v, τ, hN, hNew, ⟨_, rfl⟩ | ⟨o, q', d', ho', _⟩⟩ := key
  ·exact .inl ⟨rfl, RunsQ.pure ⟨_, τ, hN, rfl, hNew.lw⟩⟩
  ·rw [ho] at ho'; cases ho'
 | some o =>
  obtain ⟨v, τ, hN, hNew, ⟨hn, _⟩ | ⟨o', q', d', ho', rfl, hsl⟩⟩ := key
  ·rw [ho] at hn; cases hn
  ·rw [ho] at ho'; cases ho'
   obtain ⟨v, σ', g1, g2, q'', d'', rfl, g3⟩ := RunsQ.new (P := Pg) (f := 25) (args := [.slice p l c, intV rate]) (σ := σ) (Q := fun v s => ∃ q d, v = .tuple ⟨[.slice q o.length d, .bool true]⟩ ∧ SlV Pg s 53 2 q o.length (o.map spV)) ⟨_, τ, hN, hNew, q', d', rfl, hsl⟩ (by rintro v s s' ⟨q, d, rfl, g⟩ hle; exact ⟨q, d, rfl, SlV.le g hle⟩) (by
    rintro v s hr ⟨q, d, rfl, g⟩
    refine ⟨q, d, rfl, ?_⟩
    cases q with
    | none => exact slv_none g
    | some a => exact Bool.noConfusion (show false = true from hr))
   exact .inr ⟨o, q'', d'', σ', rfl, g1, g2, g3⟩
theorem codeZ_0 {xs : List Rec} (hcz : codeZ [xs] = 0) : faultZ [xs] = 0 ∧ consB xs = true := by
 have hflat : ([xs] : List (List Rec)).flatten = xs := by simp
 have hz : faultZ [xs] = 0 := by
  unfold codeZ at hcz
  by_cases e : faultZ [xs] = 0
  ·exact e
  ·rw [if_neg e] at hcz; exact absurd hcz e
 refine ⟨hz, ?_⟩
 unfold codeZ at hcz
 rw [if_pos hz, hflat] at hcz
 cases e : consB xs with
 | true => rfl
 | false => rw [e] at hcz; cases hcz
theorem codeZ_ok {xs : List Rec} (hf : faultZ [xs] = 0) (hc : consB xs = true) : codeZ [xs] = 0 := by
 unfold codeZ; rw [show ([xs] : List (List Rec)).flatten = xs by simp, if_pos hf, if_pos hc]
theorem one_fault {p : Option Addr} {l c : Nat} {xs : List Rec} (h : RecsP σ 59 p l xs) (hl : l ≤ 1000000) : ∃ b σ7, CallsA Pg 16 [.slice p l c] σ (.slice (some ⟨b, 0, none⟩) 1 1) σ7 ∧ New σ σ7 ∧ CallsA Pg 19 [.slice (some ⟨b, 0, none⟩) 1 1] σ7 (iV (codeZ [xs])) σ7 := by
 have hlen := h.len
 obtain ⟨b, σ7, k3, n3, o3, _⟩ := one_c (c := c) h
 exact ⟨b, σ7, k3, n3, fault_c (c := 1) (RowsP.single agg22 o3 (SlV.le h n3.le)) (by omega) (by intro r hr; simp at hr; subst hr; omega) (by rw [show ([xs] : List (List Rec)).flatten = xs by simp]; omega)⟩
theorem lSpans_top {p : Option Addr} {l c : Nat} {rate : Int} {xs : List Rec} (h : RecsP σ 59 p l xs) (hb : ∀ x ∈ xs, Byte x) : TopQ Pg 12 5 [.slice p l c, intV rate] σ fun v _ => v = .bool true := by
 have hlen := h.len
 by_cases h65 : 65 < l
 ·exact lSpans_ra rfl (by omega)
 obtain ⟨p1, c1, σ2, k1, n1, r1, _⟩ := Records_c (c := c) h (by omega)
 have h2 := SlV.le h n1.le
 rcases Spans_c (c := c1) (rate := rate) r1 (by omega) hb with ⟨hz, k2⟩ | ⟨hz, hcon, hf, r0, r1', o, q3, d3, σ5, ho, k2, n2, s3⟩
 ·obtain ⟨b, σ7, k3, n3, k4⟩ := one_fault (c := c) h2 (by omega)
  by_cases hcz : codeZ [xs] = 0
  ·obtain ⟨hf, hc⟩ := codeZ_0 hcz
   rw [hcz] at k4
   have kw := rIn_c (σ := σ7) (n := rate) (lo := 0) (hi := 1000)
   have eZ : spansZ xs rate = if inB rate 0 1000 = true then (if (spansOf (logL xs) rate).isSome then 0 else 9) else 2 := by unfold spansZ; rw [if_pos hf, if_pos hc]
   cases hin : inB rate 0 1000 with
   | false =>
    rw [hin] at eZ kw
    have eZ : spansZ xs rate = 2 := eZ
    rw [eZ] at k2
    exact lSpans_rh k1 k2 k3 k4 kw rfl (by omega) rfl rfl rfl
   | true =>
    rw [hin] at eZ kw
    rw [if_pos rfl] at eZ
    obtain ⟨e1, e2⟩ := inB_iff.1 hin
    have hcon := consB_iff.1 hc
    obtain ⟨hx60, hright⟩ := faultZ_right hf
    obtain ⟨q, d, σ10, k5, n5, r5, _⟩ := rLog_c (c := c) (SlV.le h2 n3.le) (by omega) hcon
    have hm : ∀ x ∈ logL xs, rightB x = true := fun x hx => hright x (mem_logL.1 hx)
    have hLl := logL_len (l := xs)
    rcases rSpans_c (c := d) (rate := rate) r5 (by omega) (srt_logL hcon) (hcon.mem fun x hx => mem_logL.1 hx) (fun x hx => mt_right (hm x hx)) (fun x hx => bd_right (hm x hx)) e1 e2 with ⟨hn, k6⟩ | ⟨o, q', d', σ', ho, _⟩
    ·rw [hn] at eZ
     have eZ : spansZ xs rate = 9 := eZ
     rw [eZ] at k2
     exact lSpans_re k1 k2 k3 k4 kw k5 k6 rfl (by omega) rfl rfl rfl
    ·rw [ho] at eZ
     exact absurd eZ hz
  ·have e : spansZ xs rate = codeZ [xs] := by
    have hflat : ([xs] : List (List Rec)).flatten = xs := by simp
    have hc2 : codeZ [xs] = if faultZ [xs] = 0 then (if consB xs = true then 0 else 6) else faultZ [xs] := by unfold codeZ; rw [hflat]
    rw [hc2] at hcz ⊢
    unfold spansZ
    by_cases e : faultZ [xs] = 0
    ·rw [if_pos e] at hcz
     rw [if_pos e, if_pos e]
     cases e2 : consB xs with
     | true => rw [e2, if_pos rfl] at hcz; exact absurd rfl hcz
     | false => rfl
    ·rw [if_neg e, if_neg e]
   exact lSpans_rk k1 k2 k3 k4 rfl (by omega) hcz e rfl
 ·have L5 := n1.le.trans n2.le
  obtain ⟨b, σ7, k3, n3, k4⟩ := one_fault (c := c) (SlV.le h L5) (by omega)
  rw [codeZ_ok hf (consB_iff.2 hcon)] at k4
  have kw := rIn_c (σ := σ7) (n := rate) (lo := 0) (hi := 1000)
  rw [inB_iff.2 ⟨r0, r1'⟩] at kw
  obtain ⟨hx60, hright⟩ := faultZ_right hf
  obtain ⟨q, d, σ10, k5, n5, r5, _⟩ := rLog_c (c := c) (SlV.le h (L5.trans n3.le)) (by omega) hcon
  have hm : ∀ x ∈ logL xs, rightB x = true := fun x hx => hright x (mem_logL.1 hx)
  have hLl := logL_len (l := xs)
  rcases rSpans_c (c := d) (rate := rate) r5 (by omega) (srt_logL hcon) (hcon.mem fun x hx => mem_logL.1 hx) (fun x hx => mt_right (hm x hx)) (fun x hx => bd_right (hm x hx)) r0 r1' with ⟨hn, _⟩ | ⟨o', q', d', σ', ho', k6, n6, s6⟩
  ·rw [ho] at hn; cases hn
  ·rw [ho] at ho'; cases ho'
   have e3 := ((SlV.le s3 n3.le).le n5.le).le n6.le
   refine lSpans_rd (Pr := fun _ _ => False) (P0 := fun τ => τ = σ') k1 k2 k3 k4 kw k5 k6 (lSpans_loop1 (Inv := fun k i τ => ∃ s : Nat, i = s ∧ s + k = o.length ∧ τ = σ') ?_ o.length 0 σ' ⟨0, rfl, by omega, rfl⟩) (fun t τ h => h.elim) (fun τ e => by subst e; exact lSpans_t1x0a rfl) (by omega) rfl rfl rfl
   rintro k i τ ⟨s, rfl, hk, rfl⟩
   by_cases hsl : s < o.length
   rotate_left
   ·exact lSpans_s1d rfl (by omega)
   obtain ⟨a, rfl, x, hx, _⟩ := slv_at (f := spV) e3 hsl
   obtain ⟨b, rfl, y, hy, _⟩ := slv_at (f := spV) s6 hsl
   rw [hx] at hy; cases hy
   have f1 := fun k v h => slv_fld (t' := 3) (i := s) (k := k) (x := v) e3 (by rw [List.getElem?_map, hx]; rfl) h agg3
   have f2 := fun k v h => slv_fld (t' := 3) (i := s) (k := k) (x := v) s6 (by rw [List.getElem?_map, hx]; rfl) h agg3
   have hol : o.length ≤ 100000 := by
    have : o.length = (logL xs).length := by
     unfold spansOf at ho
     split at ho
     ·cases ho; simp
     ·cases ho
    omega
   exact lSpans_s1c (f1 0 _ rfl) (f2 0 _ rfl) (f1 1 _ rfl) (f2 1 _ rfl) ⟨k - 1, by omega, s + 1, by omega, by omega, rfl⟩ (by omega) ⟨by omega, by omega⟩ ⟨by omega, by omega⟩ rfl rfl
end
end Go.Proofs.Ytffgfojabcbegaa
