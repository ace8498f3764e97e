
import Derived.Test.YtffgfojabcbegaaWR
import Derived.Test.YtffgfojabcbegaaXU
namespace Go.Proofs.Ytffgfojabcbegaa
open Go Go.Lay
open Try renaming prog → Pg
set_option linter.unusedVariables false
set_option linter.unusedSimpArgs false
set_option maxRecDepth 20000
section
variable {σ : St}
theorem yMU {p23 p34 : Option Addr} {c23 c34 : Nat} {la : Addr} {l lc : Nat} {k : Int} {q20 : Option Addr} {l20 c20 : Nat} {L : List Rec} (h1 : yK σ 79 p23 L.length L) (h2 : yK σ 79 p34 L.length L) (hs : Srt L) (hl : L.length ≤ 1000) : zPY la l lc k q20 l20 c20 p23 L.length c23 p34 L.length c34 0 σ (fun _ _ => False) (fun τ => τ = σ) := by
 refine yCW (Inv := fun n i τ => ∃ s : Nat, i = s ∧ s + n = L.length ∧ τ = σ) ?_ L.length 0 σ ⟨0, rfl, by omega, rfl⟩
 rintro n i τ ⟨s, rfl, hn, rfl⟩
 by_cases hsl : s < L.length
 rotate_left
 ·exact yMQ rfl (by omega)
 have nx : ∃ k', k' < n ∧ ∃ s_1 : Nat, (s : Int) + 1 = s_1 ∧ s_1 + k' = L.length ∧ τ = τ := ⟨n - 1, by omega, s + 1, by omega, by omega, rfl⟩
 obtain ⟨a, rfl, x, hx, ld1⟩ := zAX (f := yO) h1 hsl
 obtain ⟨b, rfl, x', hx', ld2⟩ := zAX (f := yO) h2 hsl
 rw [hx] at hx'; cases hx'
 have q := yXZ (x := x) (y := x) (o1 := .tmp 125) (o2 := .tmp 129)
 rw [decide_eq_true rfl] at q
 by_cases h0 : s = 0
 ·exact yMR ld1 ld2 q nx (by omega) ⟨by omega, by omega⟩ ⟨by omega, by omega⟩ (by omega)
 have hp : L[s - 1]? = some (L[s - 1]'(by omega)) := by simp
 generalize L[s - 1]'(by omega) = y at hp
 have hyx := zKF hs hp hx (by omega)
 have tn1 : Int.toNat ((s : Int) - 1) = s - 1 := by omega
 have fx := fun j v h => zON (t' := 3) (i := s) (k := j) (x := v) h1 (by rw [List.getElem?_map, hx]; rfl) h zP
 have fy : ∀ (j : Nat) (v : Value), (yY y)[j]? = some v → zB Pg τ 3 (zG a (Int.toNat ((s : Int) - 1) * 6 + j)) = some v := fun j v h => by
  have := zON (P := Pg) (t' := 3) (i := s - 1) (k := j) (x := v) h1 (by rw [List.getElem?_map, hp]; rfl) h zP
  rw [Int.toNat_natCast] at this
  rw [tn1]; exact this
 unfold wE at hyx
 by_cases hm : x.m = y.m
 ·exact yMT ld1 ld2 q (fx 0 _ rfl) (fy 0 _ rfl) (fx 1 _ rfl) (fy 1 _ rfl) nx (by omega) ⟨by omega, by omega⟩ ⟨by omega, by omega⟩ (by omega) (u6 := ⟨by omega, by omega⟩) (u7 := by omega) (u8 := hm) (u9 := by omega)
 ·exact yMS ld1 ld2 q (fx 0 _ rfl) (fy 0 _ rfl) nx (by omega) ⟨by omega, by omega⟩ ⟨by omega, by omega⟩ (by omega) (u6 := ⟨by omega, by omega⟩) (u7 := by omega) (u8 := hm)
theorem yGP {la : Addr} {l lc : Nat} {k : Int} {q20 p23 p34 : Option Addr} {l20 c20 l23 c23 l34 c34 : Nat} {xs ys : List Rec} (hx : yK σ 59 (some la) l xs) (hl : l ≤ 60) (hrx : ∀ x ∈ xs, yD x = true) (hcx : zAQ xs) (hy : yK σ 59 q20 l20 ys) (hl2 : l20 ≤ 60) (hry : ∀ x ∈ ys, yD x = true) (hcy : zAQ ys) (e : xU ys = xU xs) (r0 : 0 ≤ k) (r1 : k ≤ 1000) :
  zKX la l lc k q20 l20 c20 p23 l23 c23 p34 l34 c34 σ fun v _ => v = .bool true := by
 obtain ⟨p1, c1, σ1, k1, n1, hA⟩ := zWD (c := lc) (k := k) hx hl hrx hcx (p := some la) (q := none) (m := 0) (d := 0) (ys := [])
 obtain ⟨qa, la', da, na, σ2, ka, Na, hla⟩ : ∃ qa la' da na σ2, zD Pg 18 [.slice p1 l c1] σ1 (.tuple ⟨[.slice qa la' da, yB na]⟩) σ2 ∧ New σ1 σ2 ∧ ((vA (xU xs) = none ∧ na = 9 ∧ la' = 0) ∨ ∃ o, vA (xU xs) = some o ∧ na = 0 ∧ la' = o.length ∧ SlV Pg σ2 70 5 qa o.length (o.map lkV)) := by
  rcases hA with ⟨a, b⟩ | ⟨o, q, d, σ2, a, b, c, d'⟩
  ·exact ⟨_, _, _, _, _, b, New.refl _, .inl ⟨a, rfl, rfl⟩⟩
  ·exact ⟨_, _, _, _, _, b, c, .inr ⟨o, a, rfl, rfl, d'⟩⟩
 have N2 := n1.trans Na
 obtain ⟨p3, c3, σ3, k3, n3, hB⟩ := zWD (c := c20) (k := k) (SlV.le hy N2.le) hl2 hry hcy (q := none) (m := 0) (d := 0) (ys := [])
 rw [e] at hB
 obtain ⟨qb, lb, db, nb, σ4, kb, Nb, hlb⟩ : ∃ qb lb db nb σ4, zD Pg 18 [.slice p3 l20 c3] σ3 (.tuple ⟨[.slice qb lb db, yB nb]⟩) σ4 ∧ New σ3 σ4 ∧ ((vA (xU xs) = none ∧ nb = 9 ∧ lb = 0) ∨ ∃ o, vA (xU xs) = some o ∧ nb = 0 ∧ lb = o.length ∧ SlV Pg σ4 70 5 qb o.length (o.map lkV)) := by
  rcases hB with ⟨a, b⟩ | ⟨o, q, d, σ2, a, b, c, d'⟩
  ·exact ⟨_, _, _, _, _, b, New.refl _, .inl ⟨a, rfl, rfl⟩⟩
  ·exact ⟨_, _, _, _, _, b, c, .inr ⟨o, a, rfl, rfl, d'⟩⟩
 have N4 := (N2.trans n3).trans Nb
 obtain ⟨p5, c5, σ5, k5, n5, hC⟩ := zWC (c := lc) (SlV.le hx N4.le) hl hrx hcx r0 r1
 obtain ⟨qc, lc', dc, nc, σ6, kc, Nc, hlc⟩ : ∃ qc lc' dc nc σ6, zD Pg 23 [.slice p5 l c5, yB k] σ5 (.tuple ⟨[.slice qc lc' dc, yB nc]⟩) σ6 ∧ New σ5 σ6 ∧ ((wW (xU xs) k = none ∧ nc = 9 ∧ lc' = 0) ∨ ∃ o, wW (xU xs) k = some o ∧ nc = 0 ∧ lc' = o.length ∧ SlV Pg σ6 52 2 qc o.length (o.map spV)) := by
  rcases hC with ⟨a, b⟩ | ⟨o, q, d, σ2, a, b, c, d'⟩
  ·exact ⟨_, _, _, _, _, b, New.refl _, .inl ⟨a, rfl, rfl⟩⟩
  ·exact ⟨_, _, _, _, _, b, c, .inr ⟨o, a, rfl, rfl, d'⟩⟩
 have N6 := (N4.trans n5).trans Nc
 obtain ⟨p7, c7, σ7, k7, n7, hD⟩ := zWC (c := c20) (k := k) (SlV.le hy N6.le) hl2 hry hcy r0 r1
 rw [e] at hD
 obtain ⟨qd, ld, dd, nd, σ8, kd, Nd, hld⟩ : ∃ qd ld dd nd σ8, zD Pg 23 [.slice p7 l20 c7, yB k] σ7 (.tuple ⟨[.slice qd ld dd, yB nd]⟩) σ8 ∧ New σ7 σ8 ∧ ((wW (xU xs) k = none ∧ nd = 9 ∧ ld = 0) ∨ ∃ o, wW (xU xs) k = some o ∧ nd = 0 ∧ ld = o.length ∧ SlV Pg σ8 52 2 qd o.length (o.map spV)) := by
  rcases hD with ⟨a, b⟩ | ⟨o, q, d, σ2, a, b, c, d'⟩
  ·exact ⟨_, _, _, _, _, b, New.refl _, .inl ⟨a, rfl, rfl⟩⟩
  ·exact ⟨_, _, _, _, _, b, c, .inr ⟨o, a, rfl, rfl, d'⟩⟩
 have N28 : Le σ2 σ8 := ((((n3.trans Nb).trans n5).trans Nc).trans n7).le.trans Nd.le
 have N48 : Le σ4 σ8 := (((n5.trans Nc).trans n7).trans Nd).le
 have N68 : Le σ6 σ8 := (n7.trans Nd).le
 have sp : zKW qa la' da qb lb db qc lc' dc qd ld dd σ8 fun v _ => v = .bool true := by
  refine yCS (Pr := fun _ _ => False) (P4 := fun τ => τ = σ8) (yCU (Inv := fun n i τ => ∃ s : Nat, i = s ∧ s + n = lc' ∧ τ = σ8) ?_ lc' 0 σ8 ⟨0, rfl, by omega, rfl⟩) (fun t τ h => h.elim) (fun τ e => by subst e; exact yCR rfl)
  rintro n i τ ⟨s, rfl, hn, rfl⟩
  by_cases hsl : s < lc'
  rotate_left
  ·exact yMM rfl (by omega)
  rcases hlc with ⟨_, _, h0⟩ | ⟨o, ho, _, rfl, s1⟩
  ·omega
  rcases hld with ⟨h0, _⟩ | ⟨o', ho', _, rfl, s2⟩
  ·rw [ho] at h0; cases h0
  rw [ho] at ho'; cases ho'
  have hol : o.length ≤ 1000000 := by
   unfold wW at ho
   split at ho
   ·cases ho; have := zKV (l := xs); have := hx.len; simp; omega
   ·cases ho
  obtain ⟨a, rfl, x, hx', ld1⟩ := zAX (f := spV) (SlV.le s1 N68) hsl
  obtain ⟨b, rfl, x', hx'', ld2⟩ := zAX (f := spV) s2 hsl
  rw [hx'] at hx''; cases hx''
  have q := neq52 (x := x) (y := x) (o1 := .tmp 249) (o2 := .tmp 253)
  rw [decide_eq_true rfl] at q
  exact yMN ld1 ld2 q ⟨n - 1, by omega, s + 1, by omega, by omega, rfl⟩ (by omega) ⟨by omega, by omega⟩ ⟨by omega, by omega⟩
 have eab : na = nb ∧ la' = lb := by
  rcases hla with ⟨a, b, c⟩ | ⟨o, a, b, c, _⟩ <;> rcases hlb with ⟨a', b', c'⟩ | ⟨o', a', b', c', _⟩
  ·exact ⟨by omega, by omega⟩
  ·rw [a] at a'; cases a'
  ·rw [a] at a'; cases a'
  ·rw [a] at a'; cases a'; exact ⟨by omega, by omega⟩
 have ecd : nc = nd ∧ lc' = ld := by
  rcases hlc with ⟨a, b, c⟩ | ⟨o, a, b, c, _⟩ <;> rcases hld with ⟨a', b', c'⟩ | ⟨o', a', b', c', _⟩
  ·exact ⟨by omega, by omega⟩
  ·rw [a] at a'; cases a'
  ·rw [a] at a'; cases a'
  ·rw [a] at a'; cases a'; exact ⟨by omega, by omega⟩
 refine yCT (Pr := fun _ _ => False) (P2 := fun τ => τ = σ8) k1 ka k3 kb k5 kc k7 kd (yCV (Inv := fun n i τ => ∃ s : Nat, i = s ∧ s + n = la' ∧ τ = σ8) ?_ la' 0 σ8 ⟨0, rfl, by omega, rfl⟩) (fun t τ h => h.elim) (fun τ e => by subst e; exact sp) eab.1 ecd.1 (by omega) (by omega)
 rintro n i τ ⟨s, rfl, hn, rfl⟩
 by_cases hsl : s < la'
 rotate_left
 ·exact yMO rfl (by omega)
 rcases hla with ⟨_, _, h0⟩ | ⟨o, ho, _, rfl, s1⟩
 ·omega
 rcases hlb with ⟨h0, _⟩ | ⟨o', ho', _, rfl, s2⟩
 ·rw [ho] at h0; cases h0
 rw [ho] at ho'; cases ho'
 have hol : o.length ≤ 1000000 := by
  have := zRU (L := xU xs) (j := (xU xs).length) ho
  have := zKV (l := xs)
  have := hx.len
  omega
 obtain ⟨a, rfl, x, hx', ld1⟩ := zAX (f := lkV) (SlV.le s1 N28) hsl
 obtain ⟨b, rfl, x', hx'', ld2⟩ := zAX (f := lkV) (SlV.le s2 N48) hsl
 rw [hx'] at hx''; cases hx''
 have q := neq70 (x := x) (y := x) (o1 := .tmp 234) (o2 := .tmp 238)
 rw [decide_eq_true rfl] at q
 exact yMP ld1 ld2 q ⟨n - 1, by omega, s + 1, by omega, by omega, rfl⟩ (by omega) ⟨by omega, by omega⟩ ⟨by omega, by omega⟩
theorem yML {p : Option Addr} {l c : Nat} {by_ cut twice rate : Int} {xs : List Rec} (h : yK σ 59 p l xs) (hb : ∀ x ∈ xs, zSM x) (ag : yDY σ 6 p l c) (hby : 0 ≤ by_ ∧ by_ ≤ 255) (hcut : 0 ≤ cut ∧ cut ≤ 255) (htw : 0 ≤ twice ∧ twice ≤ 255) (hrt : 0 ≤ rate ∧ rate ≤ 65535) : yDU Pg 12 11 [.slice p l c, .int .u8 by_, .int .u8 cut, .int .u8 twice, .int .u16 rate] σ fun v _ => v = .bool true := by
 have hlen := h.len
 rcases yWO (c := c) h with k1 | ⟨k1, h60, hc, hright⟩
 ·exact yTT k1 rfl
 by_cases h0 : l = 0
 ·exact yTW k1 rfl (by omega)
 by_cases h59 : 59 < l
 ·exact yTV k1 rfl (by omega) (by omega)
 obtain ⟨r0, r1⟩ := rate_bd hrt.1
 obtain ⟨a, rfl, _⟩ := zAX (f := yO) h (show 0 < l by omega)
 have md : ∀ (v : Int) (m : Nat), 0 ≤ v → 0 < m → v.tmod (m : Int) = ((v.toNat % m : Nat) : Int) := fun v m hv hm => by rw [Int.tmod_eq_emod_of_nonneg hv, Int.natCast_emod, Int.toNat_of_nonneg hv]
 obtain ⟨t, ht⟩ : ∃ t, t = by_.toNat % l := ⟨_, rfl⟩
 have tlt : t < l := by rw [ht]; exact Nat.mod_lt _ (by omega)
 have rm1 : wG Pg .rem 3 (.tmp 46) (.tmp 48) (yB by_) (yB (l : Int)) = some (yB (t : Int)) := by rw [yKC (by omega), md _ _ hby.1 (by omega), ht]
 obtain ⟨cc, hcc⟩ : ∃ cc, cc = cut.toNat % (l + 1) := ⟨_, rfl⟩
 have clt : cc < l + 1 := by rw [hcc]; exact Nat.mod_lt _ (by omega)
 have rm2 : wG Pg .rem 3 (.tmp 51) (.tmp 54) (yB cut) (yB ((l : Int) + 1)) = some (yB (cc : Int)) := by
  rw [yKC (by omega), show (l : Int) + 1 = ((l + 1 : Nat) : Int) by omega, md _ _ hcut.1 (by omega), hcc]
 obtain ⟨w, hw⟩ : ∃ w, w = twice.toNat % l := ⟨_, rfl⟩
 have wlt : w < l := by rw [hw]; exact Nat.mod_lt _ (by omega)
 have rm3 : wG Pg .rem 3 (.tmp 73) (.tmp 75) (yB twice) (yB (l : Int)) = some (yB (w : Int)) := by rw [yKC (by omega), md _ _ htw.1 (by omega), hw]
 have hu : Pg.underlying 22 = some (.slice 59) := Try.underlying22
 have ab : a.block < σ.next := zDG h a rfl
 have part1 : ∀ {z}, Le σ z → xD Pg z 22 (.slice (some a) l c) (some (yB (t : Int))) none none = some (.slice (zGQ (some a) 6 t c) (l - t) (c - t)) ∧ SlV Pg z 59 6 (zGQ (some a) 6 t c) (l - t) (((xs.map yO).drop t).take (l - t)) ∧ (∀ x, zGQ (some a) 6 t c = some x → x.block < z.next) := fun {z} hle => (ag.le hle).part (SlV.le h hle) hu uT (lo := t) (hi := l) (zDU rfl (by omega)) rfl (by omega) (by omega)
 have part2 : ∀ {z}, Le σ z → xD Pg z 22 (.slice (some a) l c) none (some (yB (t : Int))) none = some (.slice (zGQ (some a) 6 0 c) (t - 0) (c - 0)) ∧ SlV Pg z 59 6 (zGQ (some a) 6 0 c) (t - 0) (((xs.map yO).drop 0).take (t - 0)) ∧ (∀ x, zGQ (some a) 6 0 c = some x → x.block < z.next) := fun {z} hle => (ag.le hle).part (SlV.le h hle) hu uT (lo := 0) (hi := t) rfl (zDU rfl (by
   rcases ag with ⟨e, _⟩ | ⟨_, _, _, _, _, e, _⟩
   ·cases e
   ·omega)) (by omega) (by omega)
 obtain ⟨s1, hs1⟩ : ∃ s, s = σ.row [] 6 := ⟨_, rfl⟩
 have N1 : New σ s1 := by rw [hs1]; exact New.row _ _ _
 have x1 : s1.next = σ.next + 1 := by rw [hs1]; rfl
 have oe : Own s1 σ.next [] 6 := by rw [hs1]; exact zC _ _ _
 obtain ⟨sl1, pt1, pb1⟩ := part1 N1.le
 obtain ⟨p6, c6, s5, ap1, A6, O6, b6⟩ := Ax.append (P := Pg) (k := c - t) (n0 := σ.next) zLI (Ax.lit (len := 0) oe rfl ((yQ 0).2 zAA) (Nat.le_refl _)) pt1.1 (by omega) (by
  rw [show ((xs.map yO).drop t).take (l - t) = ((xs.drop t).take (l - t)).map yO by simp]; exact zOF _) N1.nx
 have N5 : New σ s5 := N1.of_only O6 (by rintro b ⟨a, e, rfl⟩; cases e; exact Nat.le_refl _)
 obtain ⟨sl2, pt2, pb2⟩ := part2 N5.le
 obtain ⟨p9, c9, s8, ap2, A9, O9, b9⟩ := Ax.append (P := Pg) (k := c - 0) (n0 := σ.next) zLI A6 pt2.1 (by omega) (by
  rw [show ((xs.map yO).drop 0).take (t - 0) = ((xs.drop 0).take (t - 0)).map yO by simp]; exact zOF _) N5.nx
 have N8 : New σ s8 := N5.of_only O9 (fun b hb => (A6.bd b hb).1)
 obtain ⟨T, hT⟩ : ∃ T, T = xs.drop t ++ xs.take t := ⟨_, rfl⟩
 have eT : ((xs.map yO).drop t).take (l - t) ++ ((xs.map yO).drop 0).take (t - 0) = T.map yO := by
  rw [List.drop_zero, Nat.sub_zero, ← List.map_take, ← List.map_drop, ← List.map_take, List.take_of_length_le (by simp; omega), hT, List.map_append]
 have lT : 0 + (l - t) + (t - 0) = l := by omega
 have hTl : T.length = l := by rw [hT]; simp; omega
 have A9 : Ax s8 σ.next 6 p9 l c9 (xH (T.map yO)) := by rw [← eT, uH, ← lT]; simpa using A9
 have elR : ∀ (Z : List Rec), ∀ v ∈ Z.map yO, zEU Pg 59 6 v := fun Z v hv => by obtain ⟨y, _, rfl⟩ := List.mem_map.1 hv; exact zVK y
 have rT : yK s8 59 p9 l T := A9.slv (by simp [hTl]) (elR T)
 rw [lT] at ap2
 obtain ⟨s9, hs9⟩ : ∃ s, s = s8.row [] 6 := ⟨_, rfl⟩
 have N9 : New σ s9 := by rw [hs9]; exact N8.row'
 have x9 : s9.next = s8.next + 1 := by rw [hs9]; rfl
 have oe9 : Own s9 s8.next [] 6 := by rw [hs9]; exact zC _ _ _
 have L89 : Le s8 s9 := by rw [hs9]; exact (New.row _ _ _).le
 obtain ⟨p11, c11, s10, ap3, A11, O11, b11⟩ := Ax.append (P := Pg) (k := c9) (n0 := s8.next) zLI (Ax.lit (len := 0) oe9 rfl ((yQ 0).2 zAA) (Nat.le_refl _)) (SlV.le rT L89).1 (by omega) (zOF _) (by omega)
 have M10 : New s8 s10 := (show New s8 s9 by rw [hs9]; exact New.row _ _ _).of_only O11 (by rintro b ⟨a, e, rfl⟩; cases e; exact Nat.le_refl _)
 have N10 : New σ s10 := N8.trans M10
 obtain ⟨x, hx⟩ : ∃ x, xs[w]? = some x := ⟨xs[w]'(by omega), by simp⟩
 have ldx : ∀ z, Le σ z → zB Pg z 59 (zG a (Int.toNat (w : Int) * 6)) = some (yO x) := fun z hz => (SlV.le h hz).at rfl (by rw [List.getElem?_map, hx]; rfl)
 obtain ⟨s11, hs11⟩ : ∃ s, s = s10.row (yY x) 6 := ⟨_, rfl⟩
 have L1011 : New s10 s11 := by rw [hs11]; exact New.row _ _ _
 have or : Own s11 s10.next (yY x) 6 := by rw [hs11]; exact zC _ _ _
 obtain ⟨p20, c20, s19, ap4, A20, O20, b20⟩ := Ax.append (P := Pg) (k := 1) (m := 1) (q := some ⟨s10.next, 0, none⟩) (xs := yY x) (n0 := s8.next) zLI (A11.le L1011.le) ⟨rfl, or.rw⟩ (by omega) rfl (by have := M10.nx; have := L1011.nx; omega)
 have M19 : New s8 s19 := (M10.trans L1011).of_only O20 (fun b hb => (A11.bd b hb).1)
 have N19 : New σ s19 := N8.trans M19
 obtain ⟨Z, hZ⟩ : ∃ Z, Z = T ++ [x] := ⟨_, rfl⟩
 have hZl : Z.length = 0 + l + 1 := by rw [hZ]; simp [hTl]
 have rZ : yK s19 59 p20 (0 + l + 1) Z := by
  refine Ax.slv (P := Pg) (c := c20) (n0 := s8.next) ?_ (by simp [hZl]) (elR Z)
  rw [hZ, List.map_append, uH]
  simpa [xH, Value.cells] using A20
 have mT : ∀ y, y ∈ T ↔ y ∈ xs := fun y => by rw [hT]; exact yVS
 have mZ : ∀ y, y ∈ Z ↔ y ∈ xs := fun y => by
  rw [hZ, List.mem_append, mT, List.mem_singleton]
  exact ⟨fun h => h.elim id fun e => by rw [e]; exact List.mem_of_getElem? hx, .inl⟩
 obtain ⟨cZ, lZ⟩ := zZD hc mZ
 have rightZ : ∀ y ∈ Z, yD y = true := fun y hy => hright y ((mZ y).1 hy)
 obtain ⟨p21, c21, s22, k2, n22, r22, _⟩ := zDY (c := c) (SlV.le h N19.le) (by omega)
 obtain ⟨s23, hs23⟩ : ∃ s, s = s22.row [.slice p21 l c21] 1 := ⟨_, rfl⟩
 have N23 : New s22 s23 := by rw [hs23]; exact New.row _ _ _
 have o23 : Own s23 s22.next [.slice p21 l c21] 1 := by rw [hs23]; exact zC _ _ _
 have hLl := zKV (l := xs)
 have f1 : ([xs] : List (List Rec)).flatten = xs := by simp
 have z1 : zCG [xs] = 0 := zZA (zVI (by omega) hright) (by rw [f1]; exact hc) (by rw [f1]; omega)
 rcases yRC (c := 1) (vT.single zPB o23 (SlV.le r22 N23.le)) (by omega) (by intro r hr; simp at hr; subst hr; exact ⟨by omega, zJK hright⟩) with ⟨e, _⟩ | ⟨_, q23, d23, s25, k3, n25, r25⟩
 ·exact absurd z1 e
 rw [f1] at k3 r25
 have N25 : New s19 s25 := (n22.trans N23).trans n25
 have N825 : Le s8 s25 := M19.le.trans N25.le
 obtain ⟨q26, c26, sl3, pt3⟩ := yDO (t := 22) (lo := cc) (hi := l) (lo' := some (yB (cc : Int))) (hi' := none) (A9.le N825) (by simp [hTl]) (elR T) (by omega) hu uT (zDU rfl (by omega)) (fun _ _ => rfl) (by omega) (Nat.le_refl _)
 obtain ⟨p27, c27, s28, k4, n28, r28, _⟩ := zDY (c := c26) (show yK s25 59 q26 (l - cc) ((T.drop cc).take (l - cc)) by rw [← List.map_drop, ← List.map_take] at pt3; exact pt3) (by omega)
 obtain ⟨p29, c29, s30, k5, n30, r30, _⟩ := zDY (c := c20) (SlV.le (SlV.le rZ N25.le) n28.le) (by omega)
 have N830 : Le s8 s30 := (N825.trans n28.le).trans n30.le
 obtain ⟨q31, c31, sl4, pt4⟩ := yDO (t := 22) (lo := 0) (hi := cc) (lo' := none) (hi' := some (yB (cc : Int))) (A9.le N830) (by simp [hTl]) (elR T) (by omega) hu uT rfl (fun top ht => zDU rfl (by omega)) (by omega) (by omega)
 obtain ⟨p32, c32, s33, k6, n33, r33, _⟩ := zDY (c := c31) (show yK s30 59 q31 (cc - 0) ((T.drop 0).take (cc - 0)) by rw [← List.map_drop, ← List.map_take] at pt4; exact pt4) (by omega)
 obtain ⟨s34, hs34⟩ : ∃ s, s = s33.row [.slice p27 (l - cc) c27, .slice p29 (0 + l + 1) c29, .slice p32 (cc - 0) c32] 1 := ⟨_, rfl⟩
 have N34 : New s33 s34 := by rw [hs34]; exact New.row _ _ _
 have o34 : Own s34 s33.next [.slice p27 (l - cc) c27, .slice p29 (0 + l + 1) c29, .slice p32 (cc - 0) c32] 1 := by rw [hs34]; exact zC _ _ _
 obtain ⟨rs, hrs⟩ : ∃ rs, rs = [(T.drop cc).take (l - cc), Z, (T.drop 0).take (cc - 0)] := ⟨_, rfl⟩
 have hmr : ∀ r ∈ rs, r.length ≤ 60 ∧ ∀ y ∈ r, y ∈ xs := by
  intro r hr
  rw [hrs] at hr
  simp at hr
  rcases hr with rfl | rfl | rfl
  ·exact ⟨by simp; omega, fun y hy => (mT y).1 (List.mem_of_mem_drop (List.mem_of_mem_take hy))⟩
  ·exact ⟨by omega, fun y hy => (mZ y).1 hy⟩
  ·exact ⟨by simp; omega, fun y hy => (mT y).1 (List.mem_of_mem_take hy)⟩
 have mF : ∀ y, y ∈ rs.flatten ↔ y ∈ xs := fun y => by
  constructor
  ·intro hy
   obtain ⟨r, h1, h2⟩ := List.mem_flatten.1 hy
   exact (hmr r h1).2 y h2
  ·intro hy
   exact List.mem_flatten.2 ⟨Z, by rw [hrs]; simp, (mZ y).2 hy⟩
 obtain ⟨cF, lF⟩ := zZD hc mF
 have z2 : zCG rs = 0 := zZA (yNN (by rw [hrs]; simp) (fun r hr => (hmr r hr).1) (fun r hr y hy => hright y ((hmr r hr).2 y hy))) cF (by rw [lF]; omega)
 have hrows := vT.three zPB o34 (SlV.le (SlV.le (SlV.le r28 n30.le) n33.le) N34.le) (SlV.le (SlV.le r30 n33.le) N34.le) (SlV.le r33 N34.le)
 rw [← hrs] at hrows
 rcases yRC (c := 3) hrows (by omega) (by intro r hr; exact ⟨by have := (hmr r hr).1; omega, zJK fun y hy => hright y ((hmr r hr).2 y hy)⟩) with ⟨e, _⟩ | ⟨_, q34, d34, s36, k7, n36, r36⟩
 ·exact absurd z2 e
 rw [lF] at k7 r36
 have N2536 : Le s25 s36 := (((n28.le.trans n30.le).trans n33.le).trans N34.le).trans n36.le
 have N1936 : Le s19 s36 := N25.le.trans N2536
 have cmp := yMU (c23 := d23) (c34 := d34) (la := a) (l := l) (lc := c) (k := rate.tmod 1001) (q20 := p20) (l20 := 0 + l + 1) (c20 := c20) (SlV.le r25 N2536) r36 (zHD hc) (by omega)
 have last := yGP (lc := c) (c20 := c20) (p23 := q23) (l23 := (xU xs).length) (c23 := d23) (p34 := q34) (l34 := (xU xs).length) (c34 := d34) (SlV.le h (N19.le.trans N1936)) h60 hright hc (SlV.le rZ N1936) (by omega) rightZ cZ lZ r0 r1
 have bb : ∀ {z : St} {v : Value}, Le σ z → zN RD v = true → zS z.next [.slice (some a) l c, v] := fun {z v} hz hv => zL (zAP (by have := hz.next; omega)) (zL (zCI hv) zT)
 have b1 : ∀ {z : St}, Le σ z → zS z.next [.slice (some a) l c] := fun {z} hz => zL (zAP (by have := hz.next; omega)) zT
 have bt : ∀ {z : St}, zS z.next [.int .u8 twice] := fun {z} => zL (zCI rfl) zT
 have cv : ∀ {z : St}, yX Pg (evL [.int .u8 twice]) z (.convert 5 3 (.tmp 0)) = some (yB twice) := fun {z} => by
  have e : yX Pg (evL [.int .u8 twice]) z (.convert 5 3 (.tmp 0)) = some (iV (zBY .i64 twice)) := by kernel_rfl
  rw [e, zE (by omega) (by omega)]
 have ln : ∀ {z : St}, yX Pg (evL [.slice (some a) l c]) z (.call { callee := .builtin .len, args := ⟨wK 1⟩, argTypes := ⟨[22]⟩ }) = some (yB (l : Int)) := fun {z} => by kernel_rfl
 have L0 : Le σ σ := Le.refl _
 have L1 := N1.le
 have L5 := N5.le
 have L8 := N8.le
 have L9 := N9.le
 have L10 := N10.le
 have p1 := fun {z} (hz : Le σ z) => (part1 hz).1
 have p2 := fun {z} (hz : Le σ z) => (part2 hz).1
 have below3 : zS s34.next [.slice (some ⟨s33.next, 0, none⟩) 3 3] := zL (zAP (by rw [hs34]; exact Nat.lt_succ_self _)) zT
 have sl4' : ∀ {z : St}, Le s8 z → xD Pg z 22 (.slice p9 l c9) none (some (yB (cc : Int))) none = some (.slice q31 (cc - 0) c31) := fun {z} hz => by
  obtain ⟨q', c', e1, _⟩ := yDO (t := 22) (lo := 0) (hi := cc) (lo' := none) (hi' := some (yB (cc : Int))) (A9.le hz) (by simp [hTl]) (elR T) (by omega) hu uT rfl (fun top ht => zDU rfl (by omega)) (by omega) (by omega)
  rw [yRJ sl4 e1]; exact e1
 have bT : ∀ {z : St} {v : Value}, Le s8 z → zN RD v = true → zS z.next [.slice p9 l c9, v] := fun {z v} hz hv => zL (vO (zDG (SlV.le rT hz))) (zL (zCI hv) zT)
 have N828 : Le s8 s28 := N825.trans n28.le
 have bT1 : zS s9.next [.slice (some ⟨s8.next, 0, none⟩) 0 0, .slice p9 l c9] := zL (zAP (by rw [x9]; exact Nat.lt_succ_self _)) (zL (vO (zDG (SlV.le rT L89))) zT)
 have b45 : zS s33.next [.slice p27 (l - cc) c27, .slice p29 (0 + l + 1) c29, .slice p32 (cc - 0) c32] := zL (vO (zDG (SlV.le (SlV.le r28 n30.le) n33.le))) (zL (vO (zDG (SlV.le r30 n33.le))) (zL (vO (zDG r33)) zT))
 have b22 : zS s11.next [.slice p11 (0 + l) c11, .slice (some ⟨s10.next, 0, none⟩) 1 1] := zL (vO (fun a e => by have := (A11.bd a.block ⟨a, e, rfl⟩).2; rw [hs11]; exact Nat.lt_succ_of_lt this)) (zL (zAP (by rw [hs11]; exact Nat.lt_succ_self _)) zT)
 have b9 : zS s5.next [.slice p6 (0 + (l - t)) c6, .slice (zGQ (some a) 6 0 c) (t - 0) (c - 0)] := zL (vO (fun a e => (A6.bd a.block ⟨a, e, rfl⟩).2)) (zL (vO pb2) zT)
 have bx : ∀ {z : St}, Le σ z → (zG a (Int.toNat (w : Int) * 6)).block < z.next := fun {z} hz => by show a.block < z.next; have := hz.next; omega
 have below21 : zS s10.next [.pointer (some (zG a (Int.toNat (w : Int) * 6)))] := zL (yG (bx L10)) zT
 have b41 : zS s25.next [.slice q26 (l - cc) c26] := zL (vO (zDG pt3)) zT
 have b42 : zS s28.next [.slice p20 (0 + l + 1) c20] := zL (vO (zDG (SlV.le (SlV.le rZ N25.le) n28.le))) zT
 have b44 : zS s30.next [.slice q31 (cc - 0) c31] := zL (vO (zDG pt4)) zT
 have bq4 : ∀ x, zGQ (some a) 6 t c = some x → x.block < σ.next := (part1 L0).2.2
 subst hs1 hs9 hs11 hs23 hs34
 exact yTU k1 rm1 rm2 sl1 ap1 sl2 ap2 (bb L5 rfl) b9 ⟨⟨bb L0 rfl, rfl⟩, p1 L0⟩ ⟨⟨bb L1 rfl, rfl⟩, p1 L1⟩ ⟨⟨bb L0 rfl, rfl⟩, p2 L0⟩ ⟨⟨bb L1 rfl, rfl⟩, p2 L1⟩ ⟨⟨bb L5 rfl, rfl⟩, p2 L5⟩
  ap3 rm3 (ldx _ L10) ap4 bT1 (b1 L10) below21 b22 ⟨⟨bt, rfl⟩, cv⟩ ⟨⟨bt, rfl⟩, cv⟩ ⟨⟨bt, rfl⟩, cv⟩ ⟨⟨b1 L8, rfl⟩, rfl, ln⟩ ⟨⟨b1 L9, rfl⟩, rfl, ln⟩ ⟨⟨b1 L10, rfl⟩, rfl, ln⟩ ⟨⟨bx L8, rfl⟩, ldx _ L8⟩ ⟨⟨bx L9, rfl⟩, ldx _ L9⟩ ⟨⟨bx L10, rfl⟩, ldx _ L10⟩
  k2 k3 sl3 k4 k5 sl4 k6 k7 (bT N825 rfl) b41 b42 (bT N830 rfl) b44 b45 below3 ⟨⟨bT N825 rfl, rfl⟩, sl4' N825⟩ ⟨⟨bT N828 rfl, rfl⟩, sl4' N828⟩ ⟨⟨bT N830 rfl, rfl⟩, sl4⟩
  (fun x e => by cases e; exact ab) bq4 cmp (fun t τ h => h.elim) (fun τ e => by subst e; exact last)
end
end Go.Proofs.Ytffgfojabcbegaa
