
import Derived.Test.YtffgfojabcbegaaXN
import Derived.Test.YtffgfojabcbegaaVG
namespace Go.Proofs.Ytffgfojabcbegaa
open Go Go.Lay
open Try renaming prog → Pg
set_option linter.unusedVariables false
set_option linter.unusedSimpArgs false
set_option maxRecDepth 20000
theorem zSI {a b : Int} {σ : St} : xA Pg (evL [iV a, iV b]) σ (.call { callee := .builtin .max, args := ⟨vR 2⟩, argTypes := ⟨[3, 3]⟩ }) = some (iV (max a b)) := by
 have e : yC Pg (Builtin.max_ ⟨[3, 3]⟩ 0 ⟨[iV a, iV b]⟩) = some (iV (max a b)) := by
  rw [show max a b = if a < b then b else a by split <;> omega]
  simp only [Builtin.max_, List.foldlM, Builtin.max2]
  rfl
 have e2 : xA Pg (evL [iV a, iV b]) σ (.call { callee := .builtin .max, args := ⟨vR 2⟩, argTypes := ⟨[3, 3]⟩ }) =
   match ((yC Pg (Builtin.max_ ⟨[3, 3]⟩ 0 ⟨[iV a, iV b]⟩)).filter (zP RD)) with | some v => some v | none => xV Pg (evL [iV a, iV b]) σ (.call { callee := .builtin .max, args := ⟨vR 2⟩, argTypes := ⟨[3, 3]⟩ }) := rfl
 rw [e2, e]; rfl
theorem min_see {a b : Int} {σ : St} : xA Pg (evL [iV a, iV b]) σ (.call { callee := .builtin .min, args := ⟨vR 2⟩, argTypes := ⟨[3, 3]⟩ }) = some (iV (min a b)) := by
 have e : yC Pg (Builtin.min_ ⟨[3, 3]⟩ 0 ⟨[iV a, iV b]⟩) = some (iV (min a b)) := by
  rw [show min a b = if b < a then b else a by split <;> omega]
  simp only [Builtin.min_, List.foldlM, Builtin.min2]
  rfl
 have e2 : xA Pg (evL [iV a, iV b]) σ (.call { callee := .builtin .min, args := ⟨vR 2⟩, argTypes := ⟨[3, 3]⟩ }) =
   match ((yC Pg (Builtin.min_ ⟨[3, 3]⟩ 0 ⟨[iV a, iV b]⟩)).filter (zP RD)) with | some v => some v | none => xV Pg (evL [iV a, iV b]) σ (.call { callee := .builtin .min, args := ⟨vR 2⟩, argTypes := ⟨[3, 3]⟩ }) := rfl
 rw [e2, e]; rfl
def Mt (x : Rec) : Prop := 0 ≤ x.t ∧ x.t ≤ 1000000
theorem yFZ {x : Rec} (h : yA x = true) : Mt x := by have := zFN h; exact ⟨this.2.2.2.2.1, this.2.2.2.2.2.1⟩
theorem yPE {d rate : Int} (h0 : 0 ≤ d) (h1 : d ≤ 1000000) (r0 : 0 ≤ rate) (r1 : rate ≤ 1000) : 0 ≤ d * (1000 - rate) ∧ d * (1000 - rate) ≤ 1000000000 ∧ 0 ≤ d * (1000 + rate) ∧ d * (1000 + rate) ≤ 2000000000 := by
 have m1 := Int.mul_nonneg h0 (show 0 ≤ 1000 - rate by omega)
 have m2 : d * (1000 - rate) ≤ d * 1000 := Int.mul_le_mul_of_nonneg_left (by omega) h0
 have m3 := Int.mul_nonneg h0 (show 0 ≤ 1000 + rate by omega)
 have m4 : d * (1000 + rate) ≤ d * 2000 := Int.mul_le_mul_of_nonneg_left (by omega) h0
 omega
theorem zSC {d rate : Int} (h0 : 0 ≤ d) (h1 : d ≤ 1000000) (r0 : 0 ≤ rate) (r1 : rate ≤ 1000) : 0 ≤ pLo d rate ∧ pLo d rate ≤ 1000000 ∧ 0 ≤ pHi d rate ∧ pHi d rate ≤ 2000001 := by
 obtain ⟨a, b, c, e⟩ := yPE h0 h1 r0 r1
 unfold pLo pHi
 rw [Int.tdiv_eq_ediv_of_nonneg a, Int.tdiv_eq_ediv_of_nonneg (by omega)]
 omega
theorem zQD {n : Int} (h1 : -9223372036854775808 ≤ n) (h2 : n ≤ 9223372036854775807) : IntKind.wrap .i64 n = n := by rw [← uO, zB h1 h2]
abbrev spV (w : Int × Int) : Value := .agg ⟨[yD w.1, yD w.2]⟩
section
variable {σ : St}
theorem yXX {d rate : Int} (h0 : 0 ≤ d) (h1 : d ≤ 1000000) (r0 : 0 ≤ rate) (r1 : rate ≤ 1000) : zD Pg 50 [yD d, yD rate] σ (spV (pLo d rate, pHi d rate)) σ := by
 obtain ⟨a, b, c, e⟩ := yPE h0 h1 r0 r1
 obtain ⟨p1, p2, p3, p4⟩ := zSC h0 h1 r0 r1
 have eh : pHi d rate = (d * (1000 + rate) + 1000 - 1).tdiv 1000 := by unfold pHi; congr 1; omega
 rw [eh] at p3 p4 ⊢
 unfold pLo at p1 p2 ⊢
 exact zK.pure (ySP (zQD (by omega) (by omega)) (zQD (by omega) (by omega)) ⟨rfl, ((New.row σ.re _ _).own (Nat.le_refl _)).lw⟩)
theorem cut_c {v w : Int × Int} : zD Pg 51 [spV v, spV w] σ (spV (zRZ v w)) σ :=
 zK.pure (cut_ra zSI min_see ⟨rfl, ((((New.row σ.re _ _).row').row').own (by show σ.next ≤ σ.next + 2; omega)).lw⟩)
theorem sets_c {B0 B1 B2 : Nat} {r s : Rec} {rate : Int} {w : Int × Int} (o0 : Own σ B0 (yI r) 6) (o1 : Own σ B1 [yD rate] 1) (o2 : Own σ B2 [yD w.1, yD w.2] 2) (hr : Mt r) (hs : Mt s) (ha : 0 ≤ s.a ∧ s.a ≤ 10000000) (r0 : 0 ≤ rate) (r1 : rate ≤ 1000) (hlt : s.s < r.s → s.t ≤ r.t) (hge : s ≠ r → ¬ s.s < r.s → r.t ≤ s.t) :
  ∃ σ', zD Pg 49 [yH s, .pointer (some ⟨B0, 0, none⟩), .pointer (some ⟨B1, 0, none⟩), .pointer (some ⟨B2, 0, none⟩)] σ (.tuple ⟨[]⟩) σ' ∧ Only (· = B2) σ σ' ∧ Own σ' B2 [yD (zRZ w (xN rate r s)).1, yD (zRZ w (xN rate r s)).2] 2 := by
 unfold Mt at hr hs
 have hb2 := o2.lt
 obtain ⟨τ, hτ⟩ : ∃ τ, τ = σ.re.row (yI s) 6 := ⟨_, rfl⟩
 have N1 : New σ.re τ := by rw [hτ]; exact New.row _ _ _
 have n1 : τ.next = σ.next + 1 := by rw [hτ]; rfl
 obtain ⟨d, hd⟩ : ∃ d, d = max (r.t - s.t) (s.t - r.t) := ⟨_, rfl⟩
 have hd0 : 0 ≤ d := by omega
 have hd1 : d ≤ 1000000 := by omega
 obtain ⟨p1, p2, p3, p4⟩ := zSC hd0 hd1 r0 r1
 have k0 := (o0.re.le N1.le).rw.load1 (P := Pg) (t := 3) zN (k := 2) rfl
 have k1 := (o1.re.le N1.le).rw.load1 (P := Pg) (t := 3) zN (k := 0) rfl
 have c50 := yXX (σ := τ) hd0 hd1 r0 r1
 obtain ⟨τ2, hτ2⟩ : ∃ τ2, τ2 = (τ.row [yD 0, yD 0] 2).own (σ.next + 1) [yD (pLo d rate), yD (pHi d rate)] 2 := ⟨_, rfl⟩
 have N2 : New σ.re τ2 := by rw [hτ2]; exact (N1.row').own (by show σ.next ≤ σ.next + 1; omega)
 have q0 := o0.re.le N2.le
 have q2 := o2.re.le N2.le
 have l0 : zC Pg τ2 79 ⟨B0, 0, none⟩ = some (yH r) := by simpa [zG] using q0.rw.loadN (P := Pg) (t := 79) zCX xD (k := 0) (ds := yI r) rfl rfl (by simp)
 have l1 := q0.rw.load1 (P := Pg) (t := 3) zN (k := 1) rfl
 have l2 : zC Pg τ2 52 ⟨B2, 0, none⟩ = some (spV w) := by simpa [zG] using q2.rw.loadN (P := Pg) (t := 52) yIP zEE (k := 0) (ds := [yD w.1, yD w.2]) rfl rfl (by simp)
 have st : ∀ x y : Int, zL Pg (evL [.pointer (some ⟨B2, 0, none⟩), .agg ⟨[yD x, yD y]⟩]) τ2 (.store 52 (.tmp 0) (.tmp 1)) = some (undef, τ2.own B2 [yD x, yD y] 2) := fun x y => q2.store (P := Pg) (k := 0) (t := 52) (v := .agg ⟨[yD x, yD y]⟩) (vs := [yD x, yD y]) (ds := [yD x, yD y]) rfl zEE rfl (by simp) rfl
 have fin : ∀ x y : Int, Only (· = B2) σ.re (τ2.own B2 [yD x, yD y] 2) ∧ ((τ2.own B2 [yD x, yD y] 2).low < σ.next ∨ zP RD (.tuple ⟨[]⟩) = false) ∧ ((.tuple ⟨[]⟩ : Value) = .tuple ⟨[]⟩ ∧ Own (τ2.own B2 [yD x, yD y] 2) B2 [yD x, yD y] 2) := fun x y =>
  ⟨N2.only.trans' (Only.own (S := (· = B2)) (.inr rfl)) (fun b _ e => .inl e), .inl (by show min _ _ < _; omega), rfl, q2.put⟩
 have key : zK Pg 49 [yH s, .pointer (some ⟨B0, 0, none⟩), .pointer (some ⟨B1, 0, none⟩), .pointer (some ⟨B2, 0, none⟩)] σ.re fun v z => Only (· = B2) σ.re z ∧ (z.low < σ.next ∨ zP RD v = false) ∧ (v = .tuple ⟨[]⟩ ∧ Own z B2 [yD (zRZ w (xN rate r s)).1, yD (zRZ w (xN rate r s)).2] 2) := by
  have e79 := eql79 (x := s) (y := r) (o1 := .tmp 33) (o2 := .tmp 34)
  by_cases he : s = r
  ·have ew : xN rate r s = (s.a, s.a) := if_pos he
   rw [ew]
   rw [decide_eq_true he] at e79
   have c51 := cut_c (σ := τ2) (v := w) (w := (s.a, s.a))
   subst hτ2 hτ hd
   exact sets_ra (by simpa [zG] using k0) zSI (by simpa [zG] using k1) c50 l0 e79 l2 c51 (st _ _) (fin _ _)
  ·rw [decide_eq_false he] at e79
   by_cases hl : s.s < r.s
   ·have h2 := hlt hl
    have ed : d = r.t - s.t := by omega
    have ew : xN rate r s = (s.a + pLo d rate, s.a + pHi d rate) := by unfold xN; rw [if_neg he, if_pos hl, ed]
    rw [ew]
    have c51 := cut_c (σ := τ2) (v := w) (w := (s.a + pLo d rate, s.a + pHi d rate))
    subst hτ2 hτ hd
    exact sets_rb (by simpa [zG] using k0) zSI (by simpa [zG] using k1) c50 l0 e79 (by simpa [zG] using l1) l2 c51 (st _ _) (fin _ _)
   ·have h2 := hge he hl
    have ed : d = s.t - r.t := by omega
    have ew : xN rate r s = (s.a - pHi d rate, s.a - pLo d rate) := by unfold xN; rw [if_neg he, if_neg hl, ed]
    rw [ew]
    have c51 := cut_c (σ := τ2) (v := w) (w := (s.a - pHi d rate, s.a - pLo d rate))
    subst hτ2 hτ hd
    exact sets_rc (by simpa [zG] using k0) zSI (by simpa [zG] using k1) c50 l0 e79 (by simpa [zG] using l1) l2 c51 (st _ _) (fin _ _)
 obtain ⟨v, σ', h1, h2, rfl, h4⟩ := zK.mut (Q := fun v z => v = .tuple ⟨[]⟩ ∧ Own z B2 [yD (zRZ w (xN rate r s)).1, yD (zRZ w (xN rate r s)).2] 2) key (by rintro v z m ⟨h1, h2⟩; exact ⟨h1, ⟨h2.get, h2.lt⟩⟩)
 exact ⟨σ', h1, h2, h4⟩
end
end Go.Proofs.Ytffgfojabcbegaa
