
import Derived.Test.YtffgfojabcbegaaWA
import Derived.Test.YtffgfojabcbegaaWB
import Derived.Test.YtffgfojabcbegaaVG
namespace Go.Proofs.Ytffgfojabcbegaa
open Go Go.Lay
open Try renaming prog → Pg
set_option linter.unusedVariables false
set_option linter.unusedSimpArgs false
set_option maxRecDepth 20000
theorem yUX : AppT Pg 44 44 52 2 := zMR (by kernel_rfl)
theorem yUE (w : Int × Int) : zEU Pg 52 2 (spV w) := .inr ⟨yIT, zEN, _, rfl, rfl⟩
theorem yAQ {L : List Rec} {rate : Int} {i : Nat} {r : Rec} (h : L[i]? = some r) (hb : okW (uM L rate r) = false) : wW L rate = none := by
 unfold wW
 rw [if_neg]
 intro h2
 have := List.all_eq_true.1 h2 r (List.mem_of_getElem? h)
 rw [hb] at this; cases this
theorem zWX {α : Type} {xs : List α} {i : Nat} {x : α} {f : α → Bool} (h : xs[i]? = some x) (h1 : (xs.take i).all f = true) (h2 : f x = true) : (xs.take (i + 1)).all f = true := by
 rw [xY h, List.all_append, h1]; simp [h2]
theorem okW_iff {w : Int × Int} : okW w = true ↔ w.1 ≤ w.2 := by simp [okW]
theorem win_bd {rate : Int} {r s : Rec} (hr : Mt r) (hs : Mt s) (ha : 0 ≤ s.a ∧ s.a ≤ 10000000) (r0 : 0 ≤ rate) (r1 : rate ≤ 1000) (hlt : s.s < r.s → s.t ≤ r.t) (hge : s ≠ r → ¬ s.s < r.s → r.t ≤ s.t) : -100000000 ≤ (zBW rate r s).1 ∧ (zBW rate r s).1 ≤ 100000000 ∧ -100000000 ≤ (zBW rate r s).2 ∧ (zBW rate r s).2 ≤ 100000000 := by
 unfold Mt at hr hs
 unfold zBW
 by_cases he : s = r
 ·rw [if_pos he]; simp only; omega
 ·rw [if_neg he]
  by_cases hl : s.s < r.s
  ·rw [if_pos hl]
   have := hlt hl
   have := zSP (d := r.t - s.t) (by omega) (by omega) r0 r1
   simp only; omega
  ·rw [if_neg hl]
   have := hge he hl
   have := zSP (d := s.t - r.t) (by omega) (by omega) r0 r1
   simp only; omega
theorem yPC {rate : Int} {r : Rec} : ∀ {L : List Rec} {w : Int × Int}, (∀ s ∈ L, s.m = r.m → s.k = 1 → -100000000 ≤ (zBW rate r s).1 ∧ (zBW rate r s).1 ≤ 100000000 ∧ -100000000 ≤ (zBW rate r s).2 ∧ (zBW rate r s).2 ≤ 100000000) → (-100000000 ≤ w.1 ∧ w.1 ≤ 100000000 ∧ -100000000 ≤ w.2 ∧ w.2 ≤ 100000000) →
  -100000000 ≤ (L.foldl (zJY rate r) w).1 ∧ (L.foldl (zJY rate r) w).1 ≤ 100000000 ∧ -100000000 ≤ (L.foldl (zJY rate r) w).2 ∧ (L.foldl (zJY rate r) w).2 ≤ 100000000
 | [], w, _, hw => hw
 | s :: L, w, h, hw => by
  rw [List.foldl_cons]
  refine yPC (fun x hx => h x (List.mem_cons_of_mem _ hx)) ?_
  unfold zJY
  by_cases hc : s.m = r.m ∧ s.k = 1
  ·rw [if_pos hc]
   have := h s List.mem_cons_self hc.1 hc.2
   unfold zXF; simp only; omega
  ·rw [if_neg hc]; exact hw
def zCE (xs : List Rec) (rate : Int) : Int := if yS [xs] = 0 then (if zGE xs = true then (if inB rate 0 1000 = true then (if (wW (xU xs) rate).isSome then 0 else 9) else 2) else 6) else yS [xs]
section
variable {σ : St}
theorem app_mono {n0 m n len : Nat} {v : Value} {cs : List Value} (h : App σ n0 n v len cs) (hm : m ≤ n0) : App σ m n v len cs := by
 cases h with
 | nil => exact .nil
 | more g1 g2 g3 g4 g5 g6 g7 => exact .more g1 g2 (by omega) g4 g5 g6 g7
theorem Spans_in {σ0 τ : St} {a : Addr} {l c1 c7 B0 B1 B2 : Nat} {p7 : Option Addr} {l7 i : Nat} {L : List Rec} {r : Rec} {rate : Int} (N : New σ0 τ) (hL : yK τ 79 (some a) l L) (hi : L[i]? = some r) (hl : l ≤ 100000) (hs : Srt L) (hc : zAQ L) (hm : ∀ x ∈ L, Mt x) (hb : ∀ x ∈ L, Bd x) (r0 : 0 ≤ rate) (r1 : rate ≤ 1000)
  (o0 : Own τ B0 [yB rate] 1) (o1 : Own τ B1 (yY r) 6) (o2 : Own τ B2 [yB 0, yB 1000000] 2) (g2 : σ0.next ≤ B2) (d0 : B0 ≠ B2) (d1 : B1 ≠ B2) (da : a.block ≠ B2) {P3 : St → Prop}
  (h3 : ∀ τ', New σ0 τ' → Only (· = B2) τ τ' → Own τ' B2 [yB (uM L rate r).1, yB (uM L rate r).2] 2 → P3 τ') :
  zWO a l c1 B0 p7 l7 c7 B1 B2 (i : Int) 0 τ P3 := by
 have hlen := hL.len
 have hrL := List.mem_of_getElem? hi
 refine yJA (Inv := fun k j τ' => ∃ s : Nat, j = s ∧ s + k = l ∧ New σ0 τ' ∧ Only (· = B2) τ τ' ∧ Own τ' B2 [yB ((L.take s).foldl (zJY rate r) (0, 1000000)).1, yB ((L.take s).foldl (zJY rate r) (0, 1000000)).2] 2) ?_ l 0 τ ⟨0, rfl, by omega, N, Only.refl _ _, o2⟩
 rintro k j τ' ⟨s, rfl, hk, N', O', w⟩
 by_cases hsl : s < l
 rotate_left
 ·have : s = L.length := by omega
  subst this
  rw [List.take_length] at w
  exact yVA (h3 τ' N' O' w) (by omega)
 have hp := O'.slv' hL (fun b e => by cases e; exact da)
 obtain ⟨x, hx⟩ : ∃ x, L[s]? = some x := ⟨L[s]'(by omega), by simp⟩
 have ld : zB Pg τ' 79 (zG a (Int.toNat (s : Int) * 6)) = some (yO x) := hp.at rfl (by rw [List.getElem?_map, hx]; rfl)
 have hxL := List.mem_of_getElem? hx
 have lt := o2.lt
 have lt0 := o0.lt
 have lt1 := o1.lt
 have nn := O'.next
 obtain ⟨z, hz⟩ : ∃ z, z = (τ'.row (yY ⟨0, 0, 0, 0, 0, 0⟩) 6).own τ'.next (yY x) 6 := ⟨_, rfl⟩
 have Nz : New τ' z := by rw [hz]; exact (New.row _ _ _).own (Nat.le_refl _)
 have nz : z.next = τ'.next + 1 := by rw [hz]; rfl
 have q1 : Own z B1 (yY r) 6 := (O'.own' o1 d1).le Nz.le
 have q0 : Own z B0 [yB rate] 1 := (O'.own' o0 d0).le Nz.le
 have q2 := w.le Nz.le
 have m1 := q1.rw.load1 (P := Pg) (t := 3) zP (k := 0) rfl
 have e : ∀ f : Int × Int, f = zJY rate r ((L.take s).foldl (zJY rate r) (0, 1000000)) x → (L.take (s + 1)).foldl (zJY rate r) (0, 1000000) = f := fun f hf => by rw [xY hx, List.foldl_append, hf]; rfl
 by_cases hk1 : x.k = 1
 ·by_cases hm1 : x.m = r.m
  ·have hlt : x.s < r.s → x.t ≤ r.t := fun h => yCE hs hc hxL hrL hm1 h
   have hge : x ≠ r → ¬ x.s < r.s → r.t ≤ x.t := fun hne h => by
    by_cases e2 : x.s = r.s
    ·exact absurd (yWG hc hxL hrL hm1 e2) hne
    ·exact yCE hs hc hrL hxL hm1.symm (by omega)
   have hxb := hb x hxL
   unfold Bd at hxb
   obtain ⟨σ', k1, k2, k3⟩ := sets_c (w := (L.take s).foldl (zJY rate r) (0, 1000000)) q1 q0 q2 (hm r hrL) (hm x hxL) hxb.2.1 r0 r1 hlt hge
   have ee := e (zXF ((L.take s).foldl (zJY rate r) (0, 1000000)) (zBW rate r x)) (by unfold zJY; rw [if_pos ⟨hm1, hk1⟩])
   subst hz
   refine yVD ld (by simpa [zG] using m1) k1 ⟨k - 1, by omega, s + 1, by omega, by omega, (N'.trans Nz).of_only k2 (by rintro b rfl; exact g2), (O'.trans' (Nz.only (S := fun _ => False)) (fun _ _ h => h.elim)).trans' k2 (fun b _ h => .inl h), ?_⟩ (by omega) ⟨by omega, by omega⟩ hk1 hm1 ⟨by omega, by omega⟩
   rw [ee]; exact k3
  ·have ee := e ((L.take s).foldl (zJY rate r) (0, 1000000)) (by unfold zJY; rw [if_neg (fun h => hm1 h.1)])
   subst hz
   refine yVC ld (by simpa [zG] using m1) ⟨k - 1, by omega, s + 1, by omega, by omega, N'.trans Nz, O'.trans' (Nz.only (S := fun _ => False)) (fun _ _ h => h.elim), ?_⟩ (by omega) ⟨by omega, by omega⟩ hk1 hm1 ⟨by omega, by omega⟩
   rw [ee]; exact q2
 ·have ee := e ((L.take s).foldl (zJY rate r) (0, 1000000)) (by unfold zJY; rw [if_neg (fun h => hk1 h.2)])
  subst hz
  refine yVB ld ⟨k - 1, by omega, s + 1, by omega, by omega, N'.trans Nz, O'.trans' (Nz.only (S := fun _ => False)) (fun _ _ h => h.elim), ?_⟩ (by omega) ⟨by omega, by omega⟩ hk1 ⟨by omega, by omega⟩
  rw [ee]; exact q2
theorem Spans_c {p : Option Addr} {l c : Nat} {rate : Int} {xs : List Rec} (h : yK σ 79 p l xs) (hl : l ≤ 1073741824) (hb : ∀ x ∈ xs, zSM x) :
  (zCE xs rate ≠ 0 ∧ zD Pg 23 [.slice p l c, yB rate] σ (.tuple ⟨[.slice none 0 0, iV (zCE xs rate)]⟩) σ) ∨
  (zCE xs rate = 0 ∧ zAQ xs ∧ yS [xs] = 0 ∧ 0 ≤ rate ∧ rate ≤ 1000 ∧ ∃ o q d σ', wW (xU xs) rate = some o ∧ zD Pg 23 [.slice p l c, yB rate] σ (.tuple ⟨[.slice q o.length d, iV 0]⟩) σ' ∧ New σ σ' ∧ SlV Pg σ' 52 2 q o.length (o.map spV)) := by
 have hlen := h.len
 obtain ⟨σ1, hσ1⟩ : ∃ σ1, σ1 = (σ.re.row [yB rate] 1).row [.slice p l c] 1 := ⟨_, rfl⟩
 have N1 : New σ.re σ1 := by rw [hσ1]; exact (New.row _ _ _).row'
 have o1 : Own σ1 σ.next [yB rate] 1 := by rw [hσ1]; exact (zC σ.re [yB rate] 1).row
 have o3 : Own σ1 (σ.next + 1) [.slice p l c] 1 := by rw [hσ1]; exact zC (σ.re.row [yB rate] 1) _ _
 have n1 : σ1.next = σ.next + 2 := by rw [hσ1]; rfl
 have hx1 : yK σ1 79 p l xs := (SlV.le h (le0 σ)).le N1.le
 have hflat : ([xs] : List (List Rec)).flatten = xs := by simp
 have km := zUR (c := 1) (vT.single zPB o3 hx1) (by omega) (by intro r hr; simp at hr; subst hr; exact ⟨by omega, hb⟩)
 rw [hflat] at km
 rcases km with ⟨hz, k⟩ | ⟨hz, hc, k⟩ | ⟨hz, hc, q, d, σ3, kM, N3, hr⟩
 ·have e : zCE xs rate = yS [xs] := by unfold zCE; rw [if_neg hz]
  rw [e]
  have lw := N1.lw
  subst hσ1
  exact .inl ⟨hz, zJ.pure (yIZ k ⟨rfl, lw⟩ hz)⟩
 ·have e : zCE xs rate = 6 := by unfold zCE; rw [if_pos hz, if_neg (fun h => hc (vY.1 h))]
  rw [e]
  have lw := N1.lw
  subst hσ1
  exact .inl ⟨by decide, zJ.pure (yIZ k ⟨rfl, lw⟩ (by decide))⟩
 have eZ : zCE xs rate = if inB rate 0 1000 = true then (if (wW (xU xs) rate).isSome then 0 else 9) else 2 := by unfold zCE; rw [if_pos hz, if_pos (vY.2 hc)]
 obtain ⟨z1, z2, z3⟩ := zMN hz
 have hxl : xs.length ≤ 60 := z2 xs (by simp)
 have hLl := zKV (l := xs)
 obtain ⟨L, hL⟩ : ∃ L, L = xU xs := ⟨_, rfl⟩
 rw [← hL] at hr kM eZ hLl ⊢
 have hright : ∀ x ∈ L, yD x = true := fun x hx => z3 xs (by simp) x (by rw [hL] at hx; exact zHS.1 hx)
 have hbd : ∀ x ∈ L, Bd x := fun x hx => yIO (hright x hx)
 have hmt : ∀ x ∈ L, Mt x := fun x hx => yYB (hright x hx)
 have hs : Srt L := by rw [hL]; exact zHD hc
 have hcL : zAQ L := hc.mem fun x hx => by rw [hL] at hx; exact zHS.1 hx
 have NN := N1.trans N3
 have n3 := N3.nx
 have ld1 := (o1.le N3.le).rw.load1 (P := Pg) (t := 3) zP (k := 0) rfl
 have kw := xE (σ := σ3) (n := rate) (lo := 0) (hi := 1000)
 cases hin : inB rate 0 1000 with
 | false =>
  rw [hin] at kw eZ
  have eZ : zCE xs rate = 2 := eZ
  rw [eZ]
  have lw := NN.lw
  subst hσ1
  exact .inl ⟨by decide, zJ.pure (Spans_rc kM (by simpa [zG] using ld1) kw ⟨rfl, lw⟩ rfl)⟩
 | true =>
 rw [hin] at kw eZ
 rw [if_pos rfl] at eZ
 obtain ⟨r0, r1⟩ := zMJ.1 hin
 have key : zJ Pg 23 [.slice p l c, yB rate] σ.re fun v s => New σ.re s ∧ ((wW L rate = none ∧ v = .tuple ⟨[.slice none 0 0, iV 9]⟩) ∨ ∃ o q d, wW L rate = some o ∧ v = .tuple ⟨[.slice q o.length d, iV 0]⟩ ∧ SlV Pg s 52 2 q o.length (o.map spV)) := by
  subst hσ1
  refine Spans_rb (P1 := fun p7 l7 c7 τ => New σ.re τ ∧ ∃ o, wW L rate = some o ∧ l7 = o.length ∧ Gr Pg τ σ.next 52 2 p7 o.length c7 (o.map spV)) (Pr := fun p4 l4 c4 i5 τ => New σ.re τ ∧ wW L rate = none ∧ p4 = none ∧ l4 = 0 ∧ c4 = 0 ∧ i5 = 9) kM (by simpa [zG] using ld1) kw
   (yJB (Inv := fun k p7 l7 c7 i τ => ∃ s : Nat, i = s ∧ s + k = L.length ∧ s = l7 ∧ New σ.re τ ∧ Le σ3 τ ∧ (L.take s).all (fun r => okW (uM L rate r)) = true ∧ Gr Pg τ σ3.next 52 2 p7 s c7 (((L.take s).map (uM L rate)).map spV)) ?_ L.length none 0 0 0 σ3 ⟨0, rfl, by omega, rfl, NN, Le.refl _, rfl, .nil⟩) ?_ ?_ rfl
  ·rintro k p7 l7 c7 i τ ⟨s, rfl, hk, rfl, hN, hle, hall, hg⟩
   by_cases hsl : s < L.length
   rotate_left
   ·have : s = L.length := by omega
    subst this
    rw [List.take_length] at hall hg
    refine yVE ⟨hN, L.map (uM L rate), by unfold wW; rw [if_pos hall], by simp, ?_⟩ (by omega)
    rw [List.length_map]
    exact ⟨app_mono (by simpa using hg.app) NN.nx, by simp, fun v hv => hg.el v hv⟩
   have hp := SlV.le hr hle
   obtain ⟨a, rfl, r, hri, ld⟩ := zAX hp hsl
   obtain ⟨z, hz⟩ : ∃ z, z = (((τ.row (yY ⟨0, 0, 0, 0, 0, 0⟩) 6).own τ.next (yY r) 6).row [yB 0, yB 0] 2).own (τ.next + 1) [yB 0, yB 1000000] 2 := ⟨_, rfl⟩
   have nle := hle.next
   have nN := hN.nx
   have Nz : New τ z := by rw [hz]; exact (((New.row _ _ _).own (Nat.le_refl _)).row').own (by omega)
   have w1 : Own z τ.next (yY r) 6 := by
    rw [hz]
    exact (((zC τ (yY ⟨0, 0, 0, 0, 0, 0⟩) 6).put (ds := yY r)).row).own (by omega)
   have w2 : Own z (τ.next + 1) [yB 0, yB 1000000] 2 := by
    rw [hz]
    exact (zC ((τ.row (yY ⟨0, 0, 0, 0, 0, 0⟩) 6).own τ.next (yY r) 6) [yB 0, yB 0] 2).put
   have w0 : Own z σ.next [yB rate] 1 := ((o1.le N3.le).le hle).le Nz.le
   have hab : a.block < τ.next := zDG hp a rfl
   have hsz := hb
   have hri' := hri
   have hrL := List.mem_of_getElem? hri
   have hbig : -100000000 ≤ (uM L rate r).1 ∧ (uM L rate r).1 ≤ 100000000 ∧ -100000000 ≤ (uM L rate r).2 ∧ (uM L rate r).2 ≤ 100000000 := yPC (fun x hx hm1 hk1 => by
    have hxb := hbd x hx
    unfold Bd at hxb
    exact win_bd (hmt r hrL) (hmt x hx) hxb.2.1 r0 r1 (fun h => yCE hs hcL hx hrL hm1 h) (fun hne h => by
     by_cases e2 : x.s = r.s
     ·exact absurd (yWG hcL hx hrL hm1 e2) hne
     ·exact yCE hs hcL hrL hx hm1.symm (by omega))) (by simp only; omega)
   have hin := Spans_in (σ0 := σ.re) (c1 := d) (p7 := p7) (l7 := s) (c7 := c7) (hN.trans Nz) (SlV.le hp Nz.le) hri (by omega) hs hcL hmt hbd r0 r1 w0 w1 w2 (by show σ.next ≤ _; omega) (by omega) (by omega) (by omega) (P3 := fun τ' => New σ.re τ' ∧ Only (· = τ.next + 1) z τ' ∧ Own τ' (τ.next + 1) [yB (uM L rate r).1, yB (uM L rate r).2] 2) (fun τ' a b c => ⟨a, b, c⟩)
   subst hz
   refine yVF ld hin (fun τ' ⟨N4, O4, w4⟩ => ?_) (by omega) ⟨by omega, by omega⟩
   have hle4 : Le τ τ' := ⟨by have := Nz.nx; have := O4.next; omega, fun b hb => (O4.get b (by have := Nz.nx; omega) (by omega)).trans (Nz.le.get b hb)⟩
   have l0 := w4.rw.load1 (P := Pg) (t := 3) zP (k := 0) rfl
   have l1 := w4.rw.load1 (P := Pg) (t := 3) zP (k := 1) rfl
   have l2 : zB Pg τ' 52 ⟨τ.next + 1, 0, none⟩ = some (spV (uM L rate r)) := by simpa [zG] using w4.rw.loadN (P := Pg) (t := 52) yIT zEN (k := 0) (ds := [yB (uM L rate r).1, yB (uM L rate r).2]) rfl rfl (by simp)
   by_cases hok : (uM L rate r).2 < (uM L rate r).1
   ·have : okW (uM L rate r) = false := by unfold okW; simp; omega
    exact yIW (by simpa [zG] using l0) (by simpa [zG] using l1) ⟨N4, yAQ hri this, rfl, rfl, rfl, rfl⟩ hok
   ·obtain ⟨p', c', τ5, g1, g2, g3, g4⟩ := yHE (spV (uM L rate r)) yUX hg hle4 (yUE _) (by omega) hle.next (e := rfl) (hc := rfl)
    have N5 : New σ.re τ5 := (N4.row').of_only g3 (fun b hb => by have := (hg.bd hb).1; show σ.next ≤ b; omega)
    have hle5 : Le σ3 τ5 := ⟨by have := hle4.next; have := g3.next; simp at this; omega, fun b hb => by
     have h4 := hle4.next
     rw [g3.get b (by show b < τ'.next + 1; omega) (fun hA => by have := (hg.bd hA).1; omega)]
     exact ((Le.row τ' _ _).get b (by omega)).trans ((hle4.get b (by omega)).trans (hle.get b hb))⟩
    refine yIV (by simpa [zG] using l0) (by simpa [zG] using l1) l2 g1 ⟨k - 1, by omega, s + 1, by omega, by omega, rfl, N5, hle5, zWX hri hall (okW_iff.2 (by omega)), ?_⟩ hok ⟨by omega, by omega⟩
    rw [xY hri, List.map_append, List.map_append]; exact g2
  ·rintro p7 l7 c7 τ ⟨hN, o, ho, rfl, hg⟩
   exact yIY ⟨hN, .inr ⟨o, p7, c7, ho, rfl, hg.slv⟩⟩
  ·rintro p4 l4 c4 i5 τ ⟨hN, hn, rfl, rfl, rfl, rfl⟩
   exact yIX ⟨hN, .inl ⟨hn, rfl⟩⟩
 cases ho : wW L rate with
 | none =>
  rw [ho] at eZ
  have eZ : zCE xs rate = 9 := eZ
  rw [eZ]
  obtain ⟨v, τ, hN, hNew, ⟨_, rfl⟩ | ⟨o, q', d', ho', _⟩⟩ := key
  ·exact .inl ⟨by decide, zJ.pure ⟨_, τ, hN, rfl, hNew.lw⟩⟩
  ·rw [ho] at ho'; cases ho'
 | some o =>
  rw [ho] at eZ
  have eZ : zCE xs rate = 0 := eZ
  obtain ⟨v, τ, hN, hNew, ⟨hn, _⟩ | ⟨o', q', d', ho', rfl, hsl⟩⟩ := key
  ·rw [ho] at hn; cases hn
  ·rw [ho] at ho'; cases ho'
   obtain ⟨v, σ', g1, g2, q'', d'', rfl, g3⟩ := zJ.new (P := Pg) (f := 23) (args := [.slice p l c, yB rate]) (σ := σ) (Q := fun v s => ∃ q d, v = .tuple ⟨[.slice q o.length d, iV 0]⟩ ∧ SlV Pg s 52 2 q o.length (o.map spV)) ⟨_, τ, hN, hNew, q', d', rfl, hsl⟩ (by rintro v s s' ⟨q, d, rfl, g⟩ hle; exact ⟨q, d, rfl, SlV.le g hle⟩) (by
    rintro v s hr ⟨q, d, rfl, g⟩
    refine ⟨q, d, rfl, ?_⟩
    cases q with
    | none => exact zHE g
    | some a => exact Bool.noConfusion (show false = true from hr))
   exact .inr ⟨eZ, hc, hz, r0, r1, o, q'', d'', σ', rfl, g1, g2, g3⟩
end
end Go.Proofs.Ytffgfojabcbegaa
