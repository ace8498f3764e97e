
import Derived.Test.YtffgfojabcbegaaWH
namespace Go.Proofs.Ytffgfojabcbegaa
open Go Go.Lay
open Try renaming prog → Pg
set_option linter.unusedVariables false
set_option linter.unusedSimpArgs false
set_option maxRecDepth 20000
theorem left_k {F : List Rec} {G : Nat → Bool} {s : Nat} {x : Rec} (hx : F[s]? = some x) : (zAR G s x = true → yC G F (s + 1) = yC G F s ∧ yX G F (s + 1) = yX G F s ∧ zRO F G (s + 1) = { wN F G s x with sales := (wN F G s x).sales + 1, coins := (wN F G s x).coins + x.b }) ∧
  (zAR G s x = false → yC G F (s + 1) = yC G F s ++ [x] ∧ (x.k ≠ 2 → yX G F (s + 1) = yX G F s ∧ zRO F G (s + 1) = wN F G s x) ∧ (x.k = 2 → zRO F G (s + 1) = ⟨x.m, x.s, 0, 0, 0⟩ ∧ yX G F (s + 1) = if 0 < (wN F G s x).sales then yX G F s ++ [{ wN F G s x with t := x.s }] else yX G F s)) := by
 rw [nowOf_s hx, zCY G hx, zOP G hx]
 constructor
 ·intro g
  have h0 : x.k = 0 := by unfold zAR at g; simp at g; exact g.1
  rw [if_pos g, if_neg (fun h => by omega)]
  refine ⟨rfl, rfl, ?_⟩
  unfold wN
  rw [zCY G hx, zGA G hx, if_pos g, g]
  unfold zLE
  rw [if_pos rfl, if_neg (by omega), if_pos rfl]
 ·intro g
  rw [g, if_neg Bool.false_ne_true]
  refine ⟨rfl, fun h2 => ?_, fun h2 => ?_⟩
  ·rw [if_neg (fun h => h2 h.1)]
   refine ⟨rfl, ?_⟩
   unfold wN
   rw [zCY G hx, zGA G hx, g, if_neg Bool.false_ne_true, zEA]
   unfold zLE zOJ
   rw [if_pos rfl, if_neg h2, if_neg Bool.false_ne_true, if_pos rfl, if_neg h2]
   split <;> rfl
  ·constructor
   ·unfold wN
    rw [zCY G hx, zGA G hx, g, if_neg Bool.false_ne_true, zEA]
    unfold zLE zOJ
    rw [if_pos rfl, if_pos h2, if_pos rfl, if_pos h2]
   ·by_cases hp : 0 < (yI G F x.m s).1
    ·rw [if_pos ⟨h2, hp⟩, if_pos (show 0 < (wN F G s x).sales from hp)]; rfl
    ·rw [if_neg (fun h => hp h.2), if_neg (show ¬ 0 < (wN F G s x).sales from hp)]
theorem zVA {F : List Rec} : ∀ {s : Nat}, s ≤ F.length → yC (fun _ => false) F s = F.take s ∧ yX (fun _ => false) F s = [] ∧ ∀ m, yI (fun _ => false) F m s = (0, 0)
 | 0, _ => ⟨rfl, rfl, fun _ => rfl⟩
 | s + 1, hs => by
  have hx : F[s]? = some (F[s]'(by omega)) := by simp
  obtain ⟨h1, h2, h3⟩ := zVA (F := F) (s := s) (by omega)
  have g : zAR (fun _ => false) s (F[s]'(by omega)) = false := by simp [zAR]
  rw [zCY _ hx, zOP _ hx, g, if_neg Bool.false_ne_true, wD hx, h1, h2, h3]
  refine ⟨rfl, if_neg (fun h => by simp at h), fun m => ?_⟩
  rw [zGA _ hx, h3, g]
  unfold zLE
  split
  ·split
   ·rfl
   ·rfl
  ·rfl
theorem yKD {L : List Rec} (hl : L.length ≤ 60) (hr : ∀ x ∈ L, yL x = true) : ∀ x ∈ xD L, yL x = true := by
 intro x hx
 obtain ⟨i, hi, rfl⟩ := List.mem_iff_getElem.1 hx
 obtain ⟨r, e1, e2⟩ := zGH (List.getElem?_eq_getElem hi)
 rw [e2]
 have hrr := hr r (List.mem_of_getElem? e1)
 by_cases hk : r.k = 2
 ·obtain ⟨b1, b2, b3, b4⟩ := zTE (L := L) (m := r.m) (by omega : (0 : Int) ≤ 10000) (fun x hx hk => by
   have := hr x hx
   unfold yL at this
   rw [if_pos hk] at this
   simp only [Bool.and_eq_true, zJO] at this
   omega) i
  have hi2 := (List.getElem?_eq_some_iff.1 e1).1
  unfold yL at hrr ⊢
  rw [zAH.1, zAH.2.1, zAH.2.2.1, zAH.2.2.2]
  rw [if_neg (by omega), if_neg (by omega), if_pos hk] at hrr ⊢
  unfold vF
  rw [if_pos hk]
  simp only [Bool.and_eq_true, zJO] at hrr ⊢
  omega
 ·rw [zTO hk]; exact hrr
theorem yBF {xs : List Rec} (hr : ∀ x ∈ xs, yL x = true) : ∀ x ∈ xs, x.k = 0 → 0 ≤ x.b ∧ x.b ≤ 10000 := fun x hx hk => by
 have := hr x hx
 unfold yL at this
 rw [if_pos hk] at this
 simp only [Bool.and_eq_true, zJO] at this
 omega
theorem yIA {xs : List Rec} (hl : xs.length ≤ 60) (hr : ∀ x ∈ xs, yL x = true) : xV [xs] = 0 := by
 rw [yNO, if_neg (by omega), if_pos (List.all_eq_true.2 hr)]
theorem yGU {l : List Rec} (hs : Srt l) (hc : zBO l) : vZ l = l := (yDE hc hs fun _ => Iff.rfl).symm
theorem zWN {xs : List Rec} (hr : ∀ x ∈ xs, yL x = true) : ∀ x ∈ xs, zXO x := fun x hx => by
 have := zFV (hr x hx)
 unfold zXO; omega
section
variable {σ σ8 : St}
def yJN (σ8 : St) (B : Nat) (F : List Rec) (G : Nat → Bool) (k : Nat) (p8 : Option Addr) (l8 c8 : Nat) (p9 : Option Addr) (l9 c9 : Nat) (i : Int) (τ : St) : Prop := ∃ s : Nat, i = s ∧ s + k = F.length ∧ l8 = (yC G F s).length ∧ l9 = (yX G F s).length ∧ LoS σ8 τ B (zRO F G s) (yC G F s) p8 c8 (yX G F s) p9 c9
theorem zTD {F : List Rec} {G : Nat → Bool} : ∀ {s : Nat}, (yX G F s).length ≤ s
 | 0 => Nat.le_refl _
 | s + 1 => by
  have := zTD (F := F) (G := G) (s := s)
  cases e : F[s]? with
  | none =>
   have : yX G F (s + 1) = yX G F s := by
    show (match F[s]? with | some r => if r.k = 2 ∧ 0 < (yI G F r.m s).1 then _ else yX G F s | none => yX G F s) = _
    rw [e]
   rw [this]; omega
  | some r =>
   rw [zOP G e]
   split
   ·simp; omega
   ·omega
theorem yUG {bits : Int} {q2 : Option Addr} {c2 B l : Nat} {F : List Rec} (hF : xB σ8 59 q2 l F) (hl : F.length ≤ 60) (hs : Srt F) (hbF : ∀ x ∈ F, x.k = 0 → 0 ≤ x.b ∧ x.b ≤ 10000) {τ0 : St} (M0 : LoS σ8 τ0 B ⟨0, 0, 0, 0, 0⟩ [] none 0 [] none 0)
  {Q0 : Option Addr → Nat → Nat → Option Addr → Nat → Nat → St → Prop} (hQ : ∀ p8 c8 p9 c9 τ, LoS σ8 τ B (zRO F (xE bits) F.length) (yC (xE bits) F F.length) p8 c8 (yX (xE bits) F F.length) p9 c9 → Q0 p8 (yC (xE bits) F F.length).length c8 p9 (yX (xE bits) F F.length).length c9 τ) :
  zVG bits q2 l c2 B none 0 0 none 0 0 0 τ0 Q0 := by
 have hlen := hF.len
 refine yHF (Inv := yJN σ8 B F (xE bits)) ?_ F.length none 0 0 none 0 0 0 τ0 ⟨0, rfl, by omega, rfl, rfl, M0⟩
 rintro k p8 l8 c8 p9 l9 c9 i τ ⟨s, rfl, hk, rfl, rfl, M⟩
 by_cases hsl : s < F.length
 rotate_left
 ·have : s = F.length := by omega
  subst this
  exact yUN (hQ _ _ _ _ _ M) (by omega)
 have sl := SlV.le hF M.N.le
 obtain ⟨a, rfl, x, hx, ld⟩ := zCG sl (show s < l by omega)
 obtain ⟨z, hz⟩ : ∃ z, z = τ.next := ⟨_, rfl⟩
 have Nz : New τ ((τ.row (yH ⟨0, 0, 0, 0, 0, 0⟩) 6).own τ.next (yH x) 6) := (New.row _ _ _).own (Nat.le_refl _)
 have Mz := M.le Nz
 have Wz : Own ((τ.row (yH ⟨0, 0, 0, 0, 0, 0⟩) 6).own τ.next (yH x) 6) τ.next (yH x) 6 := (zE _ _ _).put
 have hBlt := M.ow.lt
 have hzB : τ.next ≠ B := by omega
 have hz8 : ¬ AtP p8 τ.next := fun h => by have := (M.gl.bd h).2; omega
 have hz9 : ¬ AtP p9 τ.next := fun h => by have := (M.gw.bd h).2; omega
 obtain ⟨lk1, lk2⟩ := left_k (G := xE bits) hx
 have hll : (yC (xE bits) F s).length ≤ 1000 := by have := (zGE (F := F) (xE bits) (i := s)).length_le; simp at this; omega
 have hwl := zTD (F := F) (G := xE bits) (s := s)
 obtain ⟨lb1, lb2, lb3, lb4⟩ := yDC (F := F) (xE bits) (m := x.m) hbF (i := s) (by omega)
 have hxb := hbF x (List.mem_of_getElem? hx)
 obtain ⟨bs1, bs2⟩ := bit_see (bits := bits) (s := s) (o1 := .tmp 65) (o2 := .tmp 68)
 have bsal : (wN F (xE bits) s x).sales = (yI (xE bits) F x.m s).1 := rfl
 have bcoi : (wN F (xE bits) s x).coins = (yI (xE bits) F x.m s).2 := rfl
 have gone : ∀ τ1, LoS σ8 τ1 B (wN F (xE bits) s x) (yC (xE bits) F s) p8 c8 (yX (xE bits) F s) p9 c9 → Own τ1 τ.next (yH x) 6 → x.k = 0 → xE bits s = true → ∃ τ2 τ3, zD Pg τ1 5 ⟨τ.next, 3, none⟩ = some (.int .u8 x.k) ∧ zD Pg τ1 3 ⟨B, 3, none⟩ = some (zAQ (yI (xE bits) F x.m s).1) ∧ zL Pg (evL [.pointer (some ⟨B, 3, none⟩), zAQ ((yI (xE bits) F x.m s).1 + 1)]) τ1 (.store 3 (.tmp 0) (.tmp 1)) = some (undef, τ2) ∧
   zD Pg τ2 3 ⟨B, 4, none⟩ = some (zAQ (yI (xE bits) F x.m s).2) ∧ zD Pg τ2 3 ⟨τ.next, 5, none⟩ = some (zAQ x.b) ∧ zL Pg (evL [.pointer (some ⟨B, 4, none⟩), zAQ ((yI (xE bits) F x.m s).2 + x.b)]) τ2 (.store 3 (.tmp 0) (.tmp 1)) = some (undef, τ3) ∧ ∃ k', k' < k ∧ yJN σ8 B F (xE bits) k' p8 (yC (xE bits) F s).length c8 p9 (yX (xE bits) F s).length c9 ((s : Int) + 1) τ3 := by
  intro τ1 M1 W1 h0 hG
  obtain ⟨τ2, τ3, e1, e2, e3, e4, e5, M3⟩ := M1.gone W1 hzB
  obtain ⟨g1, g2, g3⟩ := lk1 (by unfold zAR; rw [decide_eq_true h0, hG]; rfl)
  refine ⟨τ2, τ3, ?_, e1, e2, e3, e4, e5, k - 1, by omega, s + 1, by omega, by omega, by rw [g1], by rw [g2], ?_⟩
  ·simpa [zJ] using W1.rw.load1 (P := Pg) (t := 5) zAB (k := 3) rfl
  ·rw [g1, g2, g3]; exact M3
 have keep : ∀ τ1, LoS σ8 τ1 B (wN F (xE bits) s x) (yC (xE bits) F s) p8 c8 (yX (xE bits) F s) p9 c9 → Own τ1 τ.next (yH x) 6 → ¬ (x.k = 0 ∧ xE bits s = true) → zD Pg τ1 5 ⟨τ.next, 3, none⟩ = some (.int .u8 x.k) ∧ zD Pg τ1 59 ⟨τ.next, 0, none⟩ = some (yP x) ∧ ∃ q d τ2, zZ Pg 22 22 (.slice p8 (yC (xE bits) F s).length c8) (.slice (some ⟨τ1.next, 0, none⟩) 1 1) (τ1.row (yH x) 6) = some (.slice q ((yC (xE bits) F s).length + 1) d, τ2) ∧ zD Pg τ2 5 ⟨τ.next, 3, none⟩ = some (.int .u8 x.k) ∧
   (x.k ≠ 2 → ∃ k', k' < k ∧ yJN σ8 B F (xE bits) k' q ((yC (xE bits) F s).length + 1) d p9 (yX (xE bits) F s).length c9 ((s : Int) + 1) τ2) ∧
   (x.k = 2 → zD Pg τ2 3 ⟨τ.next, 1, none⟩ = some (zAQ x.s) ∧ ∃ τ3, zL Pg (evL [.pointer (some ⟨B, 2, none⟩), zAQ x.s]) τ2 (.store 3 (.tmp 0) (.tmp 1)) = some (undef, τ3) ∧ zD Pg τ3 3 ⟨B, 3, none⟩ = some (zAQ (yI (xE bits) F x.m s).1) ∧ zD Pg τ3 57 ⟨B, 0, none⟩ = some (lkV { wN F (xE bits) s x with t := x.s }) ∧
    (¬ 0 < (yI (xE bits) F x.m s).1 → zD Pg τ3 3 ⟨τ.next, 0, none⟩ = some (zAQ x.m) ∧ zD Pg τ3 3 ⟨τ.next, 1, none⟩ = some (zAQ x.s) ∧ ∃ τ4, zL Pg (evL [.pointer (some ⟨B, 0, none⟩), .agg ⟨zI x.m x.s 0 0 0⟩]) τ3 (.store 57 (.tmp 0) (.tmp 1)) = some (undef, τ4) ∧ ∃ k', k' < k ∧ yJN σ8 B F (xE bits) k' q ((yC (xE bits) F s).length + 1) d p9 (yX (xE bits) F s).length c9 ((s : Int) + 1) τ4) ∧
    (0 < (yI (xE bits) F x.m s).1 → ∃ q' d' τ4, zZ Pg 39 39 (.slice p9 (yX (xE bits) F s).length c9) (.slice (some ⟨τ3.next, 0, none⟩) 1 1) (τ3.row (lkL { wN F (xE bits) s x with t := x.s }) 5) = some (.slice q' ((yX (xE bits) F s).length + 1) d', τ4) ∧ zD Pg τ4 3 ⟨τ.next, 0, none⟩ = some (zAQ x.m) ∧ zD Pg τ4 3 ⟨τ.next, 1, none⟩ = some (zAQ x.s) ∧ ∃ τ5, zL Pg (evL [.pointer (some ⟨B, 0, none⟩), .agg ⟨zI x.m x.s 0 0 0⟩]) τ4 (.store 57 (.tmp 0) (.tmp 1)) = some (undef, τ5) ∧ ∃ k', k' < k ∧ yJN σ8 B F (xE bits) k' q ((yC (xE bits) F s).length + 1) d q' ((yX (xE bits) F s).length + 1) d' ((s : Int) + 1) τ5)) := by
  intro τ1 M1 W1 hn
  have hg : zAR (xE bits) s x = false := by
   cases e : zAR (xE bits) s x with
   | false => rfl
   | true => unfold zAR at e; simp at e; exact absurd e hn
  obtain ⟨g1, g2, g3⟩ := lk2 hg
  obtain ⟨q, d, τ2, e1, M2, W2, _⟩ := M1.keep W1 hz8 hz9 hll
  refine ⟨?_, ?_, q, d, τ2, e1, ?_, fun h2 => ?_, fun h2 => ⟨?_, ?_⟩⟩
  ·simpa [zJ] using W1.rw.load1 (P := Pg) (t := 5) zAB (k := 3) rfl
  ·simpa [zJ] using W1.rw.loadN (P := Pg) (t := 59) zCT xP (k := 0) (ds := yH x) rfl rfl (by simp)
  ·simpa [zJ] using W2.rw.load1 (P := Pg) (t := 5) zAB (k := 3) rfl
  ·obtain ⟨k1, k2⟩ := g2 h2
   refine ⟨k - 1, by omega, s + 1, by omega, by omega, by rw [g1]; simp, by rw [k1], ?_⟩
   rw [g1, k1, k2]; exact M2
  ·simpa [zJ] using W2.rw.load1 (P := Pg) (t := 3) zP (k := 1) rfl
  ·obtain ⟨k1, k2⟩ := g3 h2
   obtain ⟨τ3, f1, f2, f3, ⟨f4, f5, τ4, f6, M4⟩, q', d', τ5, f7, f8, f9, τ6, f10, M6⟩ := M2.close W2 hzB hz9 (by omega)
   refine ⟨τ3, f1, f2, f3, fun hp => ⟨f4, f5, τ4, f6, k - 1, by omega, s + 1, by omega, by omega, by rw [g1]; simp, by rw [k2, if_neg (show ¬ 0 < (wN F (xE bits) s x).sales from hp)], ?_⟩, fun hp => ⟨q', d', τ5, f7, f8, f9, τ6, f10, k - 1, by omega, s + 1, by omega, by omega, by rw [g1]; simp, by rw [k2, if_pos (show 0 < (wN F (xE bits) s x).sales from hp)]; simp, ?_⟩⟩
   ·rw [g1, k1, k2, if_neg (show ¬ 0 < (wN F (xE bits) s x).sales from hp)]; exact M4
   ·rw [g1, k1, k2, if_pos (show 0 < (wN F (xE bits) s x).sales from hp)]; exact M6
 have hbit : xE bits s = true ↔ (bitN bits s).tmod 2 = 1 := by unfold xE; simp
 have c1 : 0 ≤ (s : Int) ∧ (s : Int) < (l : Int) := by omega
 have c2' : (s : Int) + 1 ≤ 1000 := by omega
 have lb5 : (yI (xE bits) F x.m s).1 ≤ 1000 := by omega
 clear lk1 lk2 hbF
 by_cases hs0 : s = 0
 ·have e := yJC (G := xE bits) hs hx (.inl hs0)
  have M1 := Mz.setNow ⟨x.m, 0, 0, 0, 0⟩
  have st := Mz.st ⟨x.m, 0, 0, 0, 0⟩ (k := 0) (t := 57) (v := .agg ⟨zI x.m 0 0 0 0⟩) rfl zKO rfl (Nat.le_of_ble_eq_true rfl) rfl
  have M1 : LoS σ8 (((τ.row (yH ⟨0, 0, 0, 0, 0, 0⟩) 6).own τ.next (yH x) 6).own B (lkL ⟨x.m, 0, 0, 0, 0⟩) 5) B (wN F (xE bits) s x) (yC (xE bits) F s) p8 c8 (yX (xE bits) F s) p9 c9 := by rw [e]; exact M1
  have W1 := Wz.own (ds := lkL ⟨x.m, 0, 0, 0, 0⟩) (m := 5) hzB
  have gone := gone _ M1 W1
  have keep := keep _ M1 W1
  by_cases h0 : x.k = 0
  ·by_cases hb : xE bits s = true
   ·obtain ⟨τ2, τ3, g1, g2, g3, g4, g5, g6, nx⟩ := gone h0 hb
    have hxb := hxb h0
    clear gone keep
    exact yVC ld st g1 bs1 bs2 g2 g3 g4 g5 g6 nx (by omega) c1 (by omega) h0 (hbit.1 hb)
   ·obtain ⟨g1, g2, q, d, τ2, g3, g4, nx, _⟩ := keep (fun h => hb h.2)
    have nx := nx (by omega)
    clear gone keep
    exact yVB ld st g1 bs1 bs2 g2 g3 g4 nx (by omega) c1 (by omega) h0 (fun h => hb (hbit.2 h)) (by omega)
  ·obtain ⟨g1, g2, q, d, τ2, g3, g4, nx, cl⟩ := keep (fun h => h0 h.1)
   by_cases h2 : x.k = 2
   ·obtain ⟨g5, τ3, g6, g7, g8, n1, n2⟩ := cl h2
    by_cases hp : 0 < (yI (xE bits) F x.m s).1
    ·obtain ⟨q', d', τ4, g9, g10, g11, τ5, g12, nx⟩ := n2 hp
     clear gone keep n1 n2 cl hxb
     exact yVA ld st g1 g2 g3 g4 g5 g6 g7 g8 g9 g10 g11 g12 nx (by omega) c1 (by omega) h0 h2 hp
    ·obtain ⟨g10, g11, τ5, g12, nx⟩ := n1 hp
     clear gone keep n1 n2 cl hxb
     exact yUZ ld st g1 g2 g3 g4 g5 g6 g7 g10 g11 g12 nx (by omega) c1 (by omega) h0 h2 hp
   ·have nx := nx h2
    clear gone keep cl hxb
    exact yUY ld st g1 g2 g3 g4 nx (by omega) c1 (by omega) h0 h2
 ·have hp : F[s - 1]? = some (F[s - 1]'(by omega)) := by simp
  generalize F[s - 1]'(by omega) = y at hp
  have tn1 : Int.toNat ((s : Int) - 1) = s - 1 := by omega
  have ldy : zD Pg ((τ.row (yH ⟨0, 0, 0, 0, 0, 0⟩) 6).own τ.next (yH x) 6) 3 (zJ a (Int.toNat ((s : Int) - 1) * 6 + 0)) = some (zAQ y.m) := by
   have := zGO (P := Pg) (t' := 3) (i := s - 1) (k := 0) (x := zAQ y.m) (SlV.le sl Nz.le) (by rw [List.getElem?_map, hp]; rfl) rfl zP
   rw [Int.toNat_natCast] at this
   rw [tn1]; exact this
  have d1 : -9223372036854775808 ≤ (s : Int) - 1 ∧ (s : Int) - 1 ≤ 9223372036854775807 := by omega
  have d2 : 0 ≤ (s : Int) - 1 ∧ (s : Int) - 1 < (l : Int) := by omega
  by_cases hm : x.m = y.m
  ·have e := base_old (G := xE bits) (x := x) hs0 (by rw [yN hp]; exact hm.symm)
   have M1 : LoS σ8 ((τ.row (yH ⟨0, 0, 0, 0, 0, 0⟩) 6).own τ.next (yH x) 6) B (wN F (xE bits) s x) (yC (xE bits) F s) p8 c8 (yX (xE bits) F s) p9 c9 := by rw [e]; exact Mz
   have gone := gone _ M1 Wz
   have keep := keep _ M1 Wz
   by_cases h0 : x.k = 0
   ·by_cases hb : xE bits s = true
    ·obtain ⟨τ2, τ3, g1, g2, g3, g4, g5, g6, nx⟩ := gone h0 hb
     have hxb := hxb h0
     clear gone keep
     exact yUS ld ldy bs1 bs2 g2 g3 g4 g5 g6 nx (by omega) c1 (by omega) d1 d2 hm h0 (hbit.1 hb)
    ·obtain ⟨g1, g2, q, d, τ2, g3, g4, nx, _⟩ := keep (fun h => hb h.2)
     have nx := nx (by omega)
     clear gone keep
     exact yUR ld ldy bs1 bs2 g3 g4 nx (by omega) c1 (by omega) d1 d2 hm h0 (fun h => hb (hbit.2 h)) (by omega)
   ·obtain ⟨g1, g2, q, d, τ2, g3, g4, nx, cl⟩ := keep (fun h => h0 h.1)
    by_cases h2 : x.k = 2
    ·obtain ⟨g5, τ3, g6, g7, g8, n1, n2⟩ := cl h2
     by_cases hp : 0 < (yI (xE bits) F x.m s).1
     ·obtain ⟨q', d', τ4, g9, g10, g11, τ5, g12, nx⟩ := n2 hp
      clear gone keep n1 n2 cl hxb
      exact yUQ ld ldy g3 g4 g5 g6 g7 g8 g9 g10 g11 g12 nx (by omega) c1 (by omega) d1 d2 hm h0 h2 hp
     ·obtain ⟨g10, g11, τ5, g12, nx⟩ := n1 hp
      clear gone keep n1 n2 cl hxb
      exact yUP ld ldy g3 g4 g5 g6 g7 g10 g11 g12 nx (by omega) c1 (by omega) d1 d2 hm h0 h2 hp
    ·have nx := nx h2
     clear gone keep cl hxb
     exact yUO ld ldy g3 g4 nx (by omega) c1 (by omega) d1 d2 hm h0 h2
  ·have e := yJC (G := xE bits) hs hx (.inr (by rw [yN hp]; exact fun h => hm h.symm))
   have M1 := Mz.setNow ⟨x.m, 0, 0, 0, 0⟩
   have st := Mz.st ⟨x.m, 0, 0, 0, 0⟩ (k := 0) (t := 57) (v := .agg ⟨zI x.m 0 0 0 0⟩) rfl zKO rfl (Nat.le_of_ble_eq_true rfl) rfl
   have M1 : LoS σ8 (((τ.row (yH ⟨0, 0, 0, 0, 0, 0⟩) 6).own τ.next (yH x) 6).own B (lkL ⟨x.m, 0, 0, 0, 0⟩) 5) B (wN F (xE bits) s x) (yC (xE bits) F s) p8 c8 (yX (xE bits) F s) p9 c9 := by rw [e]; exact M1
   have W1 := Wz.own (ds := lkL ⟨x.m, 0, 0, 0, 0⟩) (m := 5) hzB
   have gone := gone _ M1 W1
   have keep := keep _ M1 W1
   by_cases h0 : x.k = 0
   ·by_cases hb : xE bits s = true
    ·obtain ⟨τ2, τ3, g1, g2, g3, g4, g5, g6, nx⟩ := gone h0 hb
     have hxb := hxb h0
     clear gone keep
     exact yUX ld ldy st g1 bs1 bs2 g2 g3 g4 g5 g6 nx (by omega) c1 (by omega) d1 d2 hm h0 (hbit.1 hb)
    ·obtain ⟨g1, g2, q, d, τ2, g3, g4, nx, _⟩ := keep (fun h => hb h.2)
     have nx := nx (by omega)
     clear gone keep
     exact yUW ld ldy st g1 bs1 bs2 g2 g3 g4 nx (by omega) c1 (by omega) d1 d2 hm h0 (fun h => hb (hbit.2 h)) (by omega)
   ·obtain ⟨g1, g2, q, d, τ2, g3, g4, nx, cl⟩ := keep (fun h => h0 h.1)
    by_cases h2 : x.k = 2
    ·obtain ⟨g5, τ3, g6, g7, g8, n1, n2⟩ := cl h2
     by_cases hp : 0 < (yI (xE bits) F x.m s).1
     ·obtain ⟨q', d', τ4, g9, g10, g11, τ5, g12, nx⟩ := n2 hp
      clear gone keep n1 n2 cl hxb
      exact yUV ld ldy st g1 g2 g3 g4 g5 g6 g7 g8 g9 g10 g11 g12 nx (by omega) c1 (by omega) d1 d2 hm h0 h2 hp
     ·obtain ⟨g10, g11, τ5, g12, nx⟩ := n1 hp
      clear gone keep n1 n2 cl hxb
      exact yUU ld ldy st g1 g2 g3 g4 g5 g6 g7 g10 g11 g12 nx (by omega) c1 (by omega) d1 d2 hm h0 h2 hp
    ·have nx := nx h2
     clear gone keep cl hxb
     exact yUT ld ldy st g1 g2 g3 g4 nx (by omega) c1 (by omega) d1 d2 hm h0 h2
theorem yUM {p : Option Addr} {l c : Nat} {bits : Int} {xs : List Rec} (h : xB σ 59 p l xs) (hb : ∀ x ∈ xs, zXO x) (hbits : 0 ≤ bits ∧ bits ≤ 18446744073709551615) : yOV Pg 12 6 [.slice p l c, .int .u64 bits] σ fun v _ => v = .bool true := by
 have hlen := h.len
 have k1 := ready_c (c := c) h
 by_cases hrd : l ≤ 60 ∧ zEV [xs] = 0
 rotate_left
 ·have e : (decide (l ≤ 60) && decide (zEV [xs] = 0)) = false := by
   cases e : (decide (l ≤ 60) && decide (zEV [xs] = 0)) with
   | false => rfl
   | true => simp at e; exact absurd e hrd
  rw [e] at k1
  exact lLost_rd k1 rfl
 obtain ⟨h60, hcz⟩ := hrd
 rw [decide_eq_true h60, decide_eq_true hcz] at k1
 obtain ⟨hf, hcb⟩ := codeZ_0 hcz
 have hc := zDZ.1 hcb
 obtain ⟨_, hright⟩ := yDN hf
 obtain ⟨q2, c2, σ3, k2, n3, r3⟩ := Closed_c (c := c) h (by omega) hc (yBF hright)
 obtain ⟨L, hL⟩ : ∃ L, L = vZ xs := ⟨_, rfl⟩
 have hLl := zUV (l := xs)
 rw [← hL] at k2 r3 hLl
 have hrL : ∀ x ∈ L, yL x = true := fun x hx => hright x (by rw [hL] at hx; exact zLD.1 hx)
 have hsL : Srt L := by rw [hL]; exact zOR hc
 have hcL : zBO L := hc.mem fun x hx => by rw [hL] at hx; exact zLD.1 hx
 obtain ⟨F, hF⟩ : ∃ F, F = xD L := ⟨_, rfl⟩
 have hFl : F.length = L.length := by rw [hF, zGV]
 have hrF : ∀ x ∈ F, yL x = true := by rw [hF]; exact yKD (by omega) hrL
 have hsF : Srt F := by rw [hF]; exact zSB hsL
 have hcF : zBO F := by rw [hF]; exact yDT hsL hcL
 have h1L : ∀ x ∈ L, 1 ≤ x.s := fun x hx => (zFV (hrL x hx)).2.2.1
 rw [← hF] at r3
 obtain ⟨p4, c4, σ5, k3, n5, r5, _⟩ := zQM (c := c2) r3 (by omega)
 have noF : zCI F = 0 ∧ zAM (vZ F) = some [] := by
  have e : zAM (vZ F) = some [] := by
   rw [yGU hsF hcF]
   obtain ⟨f1, f2, _⟩ := zVA (F := F) (s := F.length) (Nat.le_refl _)
   have := zUU (fun _ => false) hsL h1L (yBF hrL) (i := L.length) (Nat.le_refl _)
   rw [← hF, ← hFl, f1, f2, List.take_length] at this
   exact this
  refine ⟨?_, e⟩
  unfold zCI
  rw [if_pos (yIA (by omega) hrF), if_pos (zDZ.2 hcF), e]; rfl
 rcases yRT (c := c4) r5 (by omega) (zWN hrF) with ⟨hz, _⟩ | ⟨_, _, _, o, q6, d6, σ8, ho, k4, n8, s8⟩
 ·exact absurd noF.1 hz
 rw [noF.2] at ho
 cases ho
 have L8 := ((n5.le).trans n8.le)
 have r8 : xB σ8 59 q2 L.length F := SlV.le r3 L8
 obtain ⟨τ0, hτ0⟩ : ∃ τ0, τ0 = (σ8.row (lkL ⟨0, 0, 0, 0, 0⟩) 5).own σ8.next (lkL ⟨0, 0, 0, 0, 0⟩) 5 := ⟨_, rfl⟩
 have M0 : LoS σ8 τ0 σ8.next ⟨0, 0, 0, 0, 0⟩ [] none 0 [] none 0 := ⟨by rw [hτ0]; exact (New.row _ _ _).own (Nat.le_refl _), by rw [hτ0]; exact (zE _ _ _).put, .nil, .nil, fun h => AtP.none h, fun h => AtP.none h, fun b h => (AtP.none h).elim, Nat.le_refl _⟩
 have lp := yUG (bits := bits) (c2 := c2) r8 (by omega) hsF (yBF hrF) M0 (Q0 := fun p8 l8 c8 p9 l9 c9 τ => l8 = (yC (xE bits) F F.length).length ∧ l9 = (yX (xE bits) F F.length).length ∧ LoS σ8 τ σ8.next (zRO F (xE bits) F.length) (yC (xE bits) F F.length) p8 c8 (yX (xE bits) F F.length) p9 c9) (fun p8 c8 p9 c9 τ M => ⟨rfl, rfl, M⟩)
 subst hτ0
 refine lLost_rc k1 k2 k3 k4 lp ?_ rfl rfl
 rintro p8 l8 c8 p9 l9 c9 τ ⟨rfl, rfl, M⟩
 obtain ⟨lf, hlf⟩ : ∃ lf, lf = yC (xE bits) F F.length := ⟨_, rfl⟩
 obtain ⟨wn, hwn⟩ : ∃ wn, wn = yX (xE bits) F F.length := ⟨_, rfl⟩
 rw [← hlf, ← hwn] at M ⊢
 have hsub : lf.Sublist F := by rw [hlf]; have := zGE (F := F) (xE bits) (i := F.length); rwa [List.take_length] at this
 have hfl := hsub.length_le
 have hrf : ∀ x ∈ lf, yL x = true := fun x hx => hrF x (hsub.subset hx)
 have hsf : Srt lf := hsF.sublist hsub
 have hcf : zBO lf := hcF.mem fun x hx => hsub.subset hx
 obtain ⟨p10, c10, σ11, k5, n11, r11, _⟩ := zQM (c := c8) (show xB τ 59 p8 lf.length lf from M.gl.slv) (by omega)
 have elf : zAM (vZ lf) = some wn := by
  rw [yGU hsf hcf, hlf, hwn, hF, zGV]
  exact zUU (xE bits) hsL h1L (yBF hrL) (Nat.le_refl _)
 rcases yRT (c := c10) r11 (by omega) (zWN hrf) with ⟨hz, _⟩ | ⟨_, _, _, o, q12, d12, σ13, ho, k6, n13, s13⟩
 ·have : zCI lf = 0 := by
   unfold zCI
   rw [if_pos (yIA (by omega) hrf), if_pos (zDZ.2 hcf), elf]; rfl
  exact absurd this hz
 ·rw [elf] at ho; cases ho
  have hwl := zTD (F := F) (G := xE bits) (s := F.length)
  have k7 := lacks_c (c := d12) (d := c9) s13 ((SlV.le M.gw.slv n11.le).le n13.le) (by rw [hwn]; omega)
  exact yHE k5 k6 k7 rfl rfl
end
end Go.Proofs.Ytffgfojabcbegaa
