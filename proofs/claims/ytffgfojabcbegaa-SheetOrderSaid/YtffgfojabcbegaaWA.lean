
import Derived.Test.YtffgfojabcbegaaXN
import Derived.Test.YtffgfojabcbegaaVD
namespace Go.Proofs.Ytffgfojabcbegaa
open Go Go.Lay
open Try renaming prog → Pg
set_option linter.unusedVariables false
set_option linter.unusedSimpArgs false
set_option maxRecDepth 20000
theorem zSV {a b : Int} {σ : St} : yX Pg (evL [iV a, iV b]) σ (.call { callee := .builtin .max, args := ⟨wK 2⟩, argTypes := ⟨[3, 3]⟩ }) = some (iV (max a b)) := by
 have e : zY Pg (Builtin.max_ ⟨[3, 3]⟩ 0 ⟨[iV a, iV b]⟩) = some (iV (max a b)) := by
  rw [show max a b = if a < b then b else a by split <;> omega]
  simp only [Builtin.max_, List.foldlM, Builtin.max2]
  rfl
 have e2 : yX Pg (evL [iV a, iV b]) σ (.call { callee := .builtin .max, args := ⟨wK 2⟩, argTypes := ⟨[3, 3]⟩ }) =
   match ((zY Pg (Builtin.max_ ⟨[3, 3]⟩ 0 ⟨[iV a, iV b]⟩)).filter (zN RD)) with | some v => some v | none => xS Pg (evL [iV a, iV b]) σ (.call { callee := .builtin .max, args := ⟨wK 2⟩, argTypes := ⟨[3, 3]⟩ }) := rfl
 rw [e2, e]; rfl
theorem min_see {a b : Int} {σ : St} : yX Pg (evL [iV a, iV b]) σ (.call { callee := .builtin .min, args := ⟨wK 2⟩, argTypes := ⟨[3, 3]⟩ }) = some (iV (min a b)) := by
 have e : zY Pg (Builtin.min_ ⟨[3, 3]⟩ 0 ⟨[iV a, iV b]⟩) = some (iV (min a b)) := by
  rw [show min a b = if b < a then b else a by split <;> omega]
  simp only [Builtin.min_, List.foldlM, Builtin.min2]
  rfl
 have e2 : yX Pg (evL [iV a, iV b]) σ (.call { callee := .builtin .min, args := ⟨wK 2⟩, argTypes := ⟨[3, 3]⟩ }) =
   match ((zY Pg (Builtin.min_ ⟨[3, 3]⟩ 0 ⟨[iV a, iV b]⟩)).filter (zN RD)) with | some v => some v | none => xS Pg (evL [iV a, iV b]) σ (.call { callee := .builtin .min, args := ⟨wK 2⟩, argTypes := ⟨[3, 3]⟩ }) := rfl
 rw [e2, e]; rfl
def Mt (x : Rec) : Prop := 0 ≤ x.t ∧ x.t ≤ 1000000
theorem yYB {x : Rec} (h : yD x = true) : Mt x := by have := zFU h; exact ⟨this.2.2.2.2.1, this.2.2.2.2.2.1⟩
theorem yPM {d rate : Int} (h0 : 0 ≤ d) (h1 : d ≤ 1000000) (r0 : 0 ≤ rate) (r1 : rate ≤ 1000) : 0 ≤ d * (1000 - rate) ∧ d * (1000 - rate) ≤ 1000000000 ∧ 0 ≤ d * (1000 + rate) ∧ d * (1000 + rate) ≤ 2000000000 := by
 have m1 := Int.mul_nonneg h0 (show 0 ≤ 1000 - rate by omega)
 have m2 : d * (1000 - rate) ≤ d * 1000 := Int.mul_le_mul_of_nonneg_left (by omega) h0
 have m3 := Int.mul_nonneg h0 (show 0 ≤ 1000 + rate by omega)
 have m4 : d * (1000 + rate) ≤ d * 2000 := Int.mul_le_mul_of_nonneg_left (by omega) h0
 omega
theorem zSP {d rate : Int} (h0 : 0 ≤ d) (h1 : d ≤ 1000000) (r0 : 0 ≤ rate) (r1 : rate ≤ 1000) : 0 ≤ pLo d rate ∧ pLo d rate ≤ 1000000 ∧ 0 ≤ pHi d rate ∧ pHi d rate ≤ 2000001 := by
 obtain ⟨a, b, c, e⟩ := yPM h0 h1 r0 r1
 unfold pLo pHi
 rw [Int.tdiv_eq_ediv_of_nonneg a, Int.tdiv_eq_ediv_of_nonneg (by omega)]
 omega
theorem wrapI {n : Int} (h1 : -9223372036854775808 ≤ n) (h2 : n ≤ 9223372036854775807) : IntKind.wrap .i64 n = n := by rw [← uS, zE h1 h2]
abbrev spV (w : Int × Int) : Value := .agg ⟨[yB w.1, yB w.2]⟩
section
variable {σ : St}
theorem yXC {d rate : Int} (h0 : 0 ≤ d) (h1 : d ≤ 1000000) (r0 : 0 ≤ rate) (r1 : rate ≤ 1000) : zD Pg 50 [yB d, yB rate] σ (spV (pLo d rate, pHi d rate)) σ := by
 obtain ⟨a, b, c, e⟩ := yPM h0 h1 r0 r1
 obtain ⟨p1, p2, p3, p4⟩ := zSP h0 h1 r0 r1
 have eh : pHi d rate = (d * (1000 + rate) + 1000 - 1).tdiv 1000 := by unfold pHi; congr 1; omega
 rw [eh] at p3 p4 ⊢
 unfold pLo at p1 p2 ⊢
 exact zJ.pure (yTA (wrapI (by omega) (by omega)) (wrapI (by omega) (by omega)) ⟨rfl, ((New.row σ.re _ _).own (Nat.le_refl _)).lw⟩)
theorem cut_c {v w : Int × Int} : zD Pg 51 [spV v, spV w] σ (spV (zXF v w)) σ :=
 zJ.pure (cut_ra zSV min_see ⟨rfl, ((((New.row σ.re _ _).row').row').own (by show σ.next ≤ σ.next + 2; omega)).lw⟩)
theorem sets_c {B0 B1 B2 : Nat} {r s : Rec} {rate : Int} {w : Int × Int} (o0 : Own σ B0 (yY r) 6) (o1 : Own σ B1 [yB rate] 1) (o2 : Own σ B2 [yB w.1, yB w.2] 2) (hr : Mt r) (hs : Mt s) (ha : 0 ≤ s.a ∧ s.a ≤ 10000000) (r0 : 0 ≤ rate) (r1 : rate ≤ 1000) (hlt : s.s < r.s → s.t ≤ r.t) (hge : s ≠ r → ¬ s.s < r.s → r.t ≤ s.t) :
  ∃ σ', zD Pg 49 [yO s, .pointer (some ⟨B0, 0, none⟩), .pointer (some ⟨B1, 0, none⟩), .pointer (some ⟨B2, 0, none⟩)] σ (.tuple ⟨[]⟩) σ' ∧ Only (· = B2) σ σ' ∧ Own σ' B2 [yB (zXF w (zBW rate r s)).1, yB (zXF w (zBW rate r s)).2] 2 := by
 unfold Mt at hr hs
 have hb2 := o2.lt
 obtain ⟨τ, hτ⟩ : ∃ τ, τ = σ.re.row (yY s) 6 := ⟨_, rfl⟩
 have N1 : New σ.re τ := by rw [hτ]; exact New.row _ _ _
 have n1 : τ.next = σ.next + 1 := by rw [hτ]; rfl
 obtain ⟨d, hd⟩ : ∃ d, d = max (r.t - s.t) (s.t - r.t) := ⟨_, rfl⟩
 have hd0 : 0 ≤ d := by omega
 have hd1 : d ≤ 1000000 := by omega
 obtain ⟨p1, p2, p3, p4⟩ := zSP hd0 hd1 r0 r1
 have k0 := (o0.re.le N1.le).rw.load1 (P := Pg) (t := 3) zP (k := 2) rfl
 have k1 := (o1.re.le N1.le).rw.load1 (P := Pg) (t := 3) zP (k := 0) rfl
 have c50 := yXC (σ := τ) hd0 hd1 r0 r1
 obtain ⟨τ2, hτ2⟩ : ∃ τ2, τ2 = (τ.row [yB 0, yB 0] 2).own (σ.next + 1) [yB (pLo d rate), yB (pHi d rate)] 2 := ⟨_, rfl⟩
 have N2 : New σ.re τ2 := by rw [hτ2]; exact (N1.row').own (by show σ.next ≤ σ.next + 1; omega)
 have q0 := o0.re.le N2.le
 have q2 := o2.re.le N2.le
 have l0 : zB Pg τ2 79 ⟨B0, 0, none⟩ = some (yO r) := by simpa [zG] using q0.rw.loadN (P := Pg) (t := 79) zAT yH (k := 0) (ds := yY r) rfl rfl (by simp)
 have l1 := q0.rw.load1 (P := Pg) (t := 3) zP (k := 1) rfl
 have l2 : zB Pg τ2 52 ⟨B2, 0, none⟩ = some (spV w) := by simpa [zG] using q2.rw.loadN (P := Pg) (t := 52) yIT zEN (k := 0) (ds := [yB w.1, yB w.2]) rfl rfl (by simp)
 have st : ∀ x y : Int, zK Pg (evL [.pointer (some ⟨B2, 0, none⟩), .agg ⟨[yB x, yB y]⟩]) τ2 (.store 52 (.tmp 0) (.tmp 1)) = some (undef, τ2.own B2 [yB x, yB y] 2) := fun x y => q2.store (P := Pg) (k := 0) (t := 52) (v := .agg ⟨[yB x, yB y]⟩) (vs := [yB x, yB y]) (ds := [yB x, yB y]) rfl zEN rfl (by simp) rfl
 have fin : ∀ x y : Int, Only (· = B2) σ.re (τ2.own B2 [yB x, yB y] 2) ∧ ((τ2.own B2 [yB x, yB y] 2).low < σ.next ∨ zN RD (.tuple ⟨[]⟩) = false) ∧ ((.tuple ⟨[]⟩ : Value) = .tuple ⟨[]⟩ ∧ Own (τ2.own B2 [yB x, yB y] 2) B2 [yB x, yB y] 2) := fun x y =>
  ⟨N2.only.trans' (Only.own (S := (· = B2)) (.inr rfl)) (fun b _ e => .inl e), .inl (by show min _ _ < _; omega), rfl, q2.put⟩
 have key : zJ Pg 49 [yO s, .pointer (some ⟨B0, 0, none⟩), .pointer (some ⟨B1, 0, none⟩), .pointer (some ⟨B2, 0, none⟩)] σ.re fun v z => Only (· = B2) σ.re z ∧ (z.low < σ.next ∨ zN RD v = false) ∧ (v = .tuple ⟨[]⟩ ∧ Own z B2 [yB (zXF w (zBW rate r s)).1, yB (zXF w (zBW rate r s)).2] 2) := by
  have e79 := eql79 (x := s) (y := r) (o1 := .tmp 33) (o2 := .tmp 34)
  by_cases he : s = r
  ·have ew : zBW rate r s = (s.a, s.a) := if_pos he
   rw [ew]
   rw [decide_eq_true he] at e79
   have c51 := cut_c (σ := τ2) (v := w) (w := (s.a, s.a))
   subst hτ2 hτ hd
   exact sets_ra (by simpa [zG] using k0) zSV (by simpa [zG] using k1) c50 l0 e79 l2 c51 (st _ _) (fin _ _)
  ·rw [decide_eq_false he] at e79
   by_cases hl : s.s < r.s
   ·have h2 := hlt hl
    have ed : d = r.t - s.t := by omega
    have ew : zBW rate r s = (s.a + pLo d rate, s.a + pHi d rate) := by unfold zBW; rw [if_neg he, if_pos hl, ed]
    rw [ew]
    have c51 := cut_c (σ := τ2) (v := w) (w := (s.a + pLo d rate, s.a + pHi d rate))
    subst hτ2 hτ hd
    exact sets_rb (by simpa [zG] using k0) zSV (by simpa [zG] using k1) c50 l0 e79 (by simpa [zG] using l1) l2 c51 (st _ _) (fin _ _)
   ·have h2 := hge he hl
    have ed : d = s.t - r.t := by omega
    have ew : zBW rate r s = (s.a - pHi d rate, s.a - pLo d rate) := by unfold zBW; rw [if_neg he, if_neg hl, ed]
    rw [ew]
    have c51 := cut_c (σ := τ2) (v := w) (w := (s.a - pHi d rate, s.a - pLo d rate))
    subst hτ2 hτ hd
    exact sets_rc (by simpa [zG] using k0) zSV (by simpa [zG] using k1) c50 l0 e79 (by simpa [zG] using l1) l2 c51 (st _ _) (fin _ _)
 obtain ⟨v, σ', h1, h2, rfl, h4⟩ := zJ.mut (Q := fun v z => v = .tuple ⟨[]⟩ ∧ Own z B2 [yB (zXF w (zBW rate r s)).1, yB (zXF w (zBW rate r s)).2] 2) key (by rintro v z m ⟨h1, h2⟩; exact ⟨h1, ⟨h2.get, h2.lt⟩⟩)
 exact ⟨σ', h1, h2, h4⟩
end
end Go.Proofs.Ytffgfojabcbegaa
