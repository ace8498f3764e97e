import Derived.Test.YtgfiniccfpfplaaGreatOk
import Derived.Test.YtgfiniccfpfplaaGreatLayC

namespace Go.Proofs.YtgfiniccfpfplaaGreat
open Go Go.Lay
@[simp, reducible] def zI (x0 x1 x2 x3 : Int) : List Value := [.int .i64 x0, .int .i64 x1, .int .i64 x2, .int .i64 x3]
@[simp, reducible] def zD (x0 x1 x2 x3 x4 : Int) : List Value := [.int .i64 x0, .int .i64 x1, .int .i64 x2, .int .i64 x3, .int .i64 x4]
@[simp, reducible] def ints6 (x0 x1 x2 x3 x4 x5 : Int) : List Value := [.int .i64 x0, .int .i64 x1, .int .i64 x2, .int .i64 x3, .int .i64 x4, .int .i64 x5]
@[simp, reducible] def ints7 (x0 x1 x2 x3 x4 x5 x6 : Int) : List Value := [.int .i64 x0, .int .i64 x1, .int .i64 x2, .int .i64 x3, .int .i64 x4, .int .i64 x5, .int .i64 x6]
@[simp, reducible] def ints8 (x0 x1 x2 x3 x4 x5 x6 x7 : Int) : List Value := [.int .i64 x0, .int .i64 x1, .int .i64 x2, .int .i64 x3, .int .i64 x4, .int .i64 x5, .int .i64 x6, .int .i64 x7]
@[simp, reducible] def ints9 (x0 x1 x2 x3 x4 x5 x6 x7 x8 : Int) : List Value := [.int .i64 x0, .int .i64 x1, .int .i64 x2, .int .i64 x3, .int .i64 x4, .int .i64 x5, .int .i64 x6, .int .i64 x7, .int .i64 x8]
@[simp, reducible] def ints10 (x0 x1 x2 x3 x4 x5 x6 x7 x8 x9 : Int) : List Value := [.int .i64 x0, .int .i64 x1, .int .i64 x2, .int .i64 x3, .int .i64 x4, .int .i64 x5, .int .i64 x6, .int .i64 x7, .int .i64 x8, .int .i64 x9]
@[simp, reducible] def ints11 (x0 x1 x2 x3 x4 x5 x6 x7 x8 x9 x10 : Int) : List Value := [.int .i64 x0, .int .i64 x1, .int .i64 x2, .int .i64 x3, .int .i64 x4, .int .i64 x5, .int .i64 x6, .int .i64 x7, .int .i64 x8, .int .i64 x9, .int .i64 x10]
@[simp, reducible] def ints12 (x0 x1 x2 x3 x4 x5 x6 x7 x8 x9 x10 x11 : Int) : List Value := [.int .i64 x0, .int .i64 x1, .int .i64 x2, .int .i64 x3, .int .i64 x4, .int .i64 x5, .int .i64 x6, .int .i64 x7, .int .i64 x8, .int .i64 x9, .int .i64 x10, .int .i64 x11]
@[simp, reducible] def ints15 (x0 x1 x2 x3 x4 x5 x6 x7 x8 x9 x10 x11 x12 x13 x14 : Int) : List Value := [.int .i64 x0, .int .i64 x1, .int .i64 x2, .int .i64 x3, .int .i64 x4, .int .i64 x5, .int .i64 x6, .int .i64 x7, .int .i64 x8, .int .i64 x9, .int .i64 x10, .int .i64 x11, .int .i64 x12, .int .i64 x13, .int .i64 x14]
@[simp, reducible] def ints24 (x0 x1 x2 x3 x4 x5 x6 x7 x8 x9 x10 x11 x12 x13 x14 x15 x16 x17 x18 x19 x20 x21 x22 x23 : Int) : List Value := [.int .i64 x0, .int .i64 x1, .int .i64 x2, .int .i64 x3, .int .i64 x4, .int .i64 x5, .int .i64 x6, .int .i64 x7, .int .i64 x8, .int .i64 x9, .int .i64 x10, .int .i64 x11, .int .i64 x12, .int .i64 x13, .int .i64 x14, .int .i64 x15, .int .i64 x16, .int .i64 x17, .int .i64 x18, .int .i64 x19, .int .i64 x20, .int .i64 x21, .int .i64 x22, .int .i64 x23]
@[simp, reducible] def ints25 (x0 x1 x2 x3 x4 x5 x6 x7 x8 x9 x10 x11 x12 x13 x14 x15 x16 x17 x18 x19 x20 x21 x22 x23 x24 : Int) : List Value := [.int .i64 x0, .int .i64 x1, .int .i64 x2, .int .i64 x3, .int .i64 x4, .int .i64 x5, .int .i64 x6, .int .i64 x7, .int .i64 x8, .int .i64 x9, .int .i64 x10, .int .i64 x11, .int .i64 x12, .int .i64 x13, .int .i64 x14, .int .i64 x15, .int .i64 x16, .int .i64 x17, .int .i64 x18, .int .i64 x19, .int .i64 x20, .int .i64 x21, .int .i64 x22, .int .i64 x23, .int .i64 x24]
@[simp, reducible] def rcd (k a b : Int) : List Value := [.int .u8 k, .int .i64 a, .int .i64 b]
@[simp, reducible] def zG (p : Option Addr) (l c : Nat) (q : Option Addr) (m d : Nat) (r : Option Addr) (n e : Nat) (x y z : Int) : List Value := [.slice p l c, .slice q m d, .slice r n e, .int .i64 x, .int .i64 y, .int .i64 z]
@[simp, reducible] def wkc (a : Int) (p : Option Addr) (l c : Nat) (q : Option Addr) (m d : Nat) (x y z : Int) : List Value := [.int .i64 a, .slice p l c, .slice q m d, .int .i64 x, .int .i64 y, .int .i64 z]
theorem zR : zAA Tryz.prog 3 = some false := by kernel_rfl
theorem zKZ : yV Tryz.prog 3 = some 1 := by kernel_rfl
theorem agg5 : zAA Tryz.prog 5 = some false := by kernel_rfl
theorem zCC : zAA Tryz.prog 22 = some false := by kernel_rfl
theorem zCP : zAA Tryz.prog 23 = some false := by kernel_rfl
theorem wB : zAA Tryz.prog 25 = some true := by kernel_rfl
theorem yZ : yV Tryz.prog 25 = some 6 := by kernel_rfl
theorem yX : zAA Tryz.prog 26 = some false := by kernel_rfl
theorem zFD : zAA Tryz.prog 31 = some false := by kernel_rfl
theorem size31 : yV Tryz.prog 31 = some 1 := by kernel_rfl
theorem zFC : zAA Tryz.prog 32 = some false := by kernel_rfl
theorem size32 : yV Tryz.prog 32 = some 1 := by kernel_rfl
theorem uL : zAA Tryz.prog 34 = some true := by kernel_rfl
theorem xM : yV Tryz.prog 34 = some 6 := by kernel_rfl
theorem yNI : zAA Tryz.prog 36 = some false := by kernel_rfl
theorem yOD : yV Tryz.prog 36 = some 1 := by kernel_rfl
theorem agg45 : zAA Tryz.prog 45 = some true := by kernel_rfl
theorem yEM : yV Tryz.prog 45 = some 3 := by kernel_rfl
theorem agg46 : zAA Tryz.prog 46 = some true := by kernel_rfl
theorem size46 : yV Tryz.prog 46 = some 3 := by kernel_rfl
theorem yDY : zAA Tryz.prog 76 = some true := by kernel_rfl
theorem uS : yV Tryz.prog 76 = some 6 := by kernel_rfl
theorem zUE : zAA Tryz.prog 85 = some true := by kernel_rfl
theorem zDO : yV Tryz.prog 85 = some 5 := by kernel_rfl
theorem agg86 : zAA Tryz.prog 86 = some false := by kernel_rfl
theorem yNH : zAA Tryz.prog 88 = some true := by kernel_rfl
theorem zRH : yV Tryz.prog 88 = some 6 := by kernel_rfl
theorem agg89 : zAA Tryz.prog 89 = some false := by kernel_rfl
theorem agg92 : zAA Tryz.prog 92 = some true := by kernel_rfl
theorem zHK : yV Tryz.prog 92 = some 5 := by kernel_rfl
theorem agg105 : zAA Tryz.prog 105 = some false := by kernel_rfl
theorem zDE : zAA Tryz.prog 107 = some true := by kernel_rfl
theorem xT : yV Tryz.prog 107 = some 4 := by kernel_rfl
theorem agg109 : zAA Tryz.prog 109 = some true := by kernel_rfl
theorem yUQ : yV Tryz.prog 109 = some 24 := by kernel_rfl
theorem agg116 : zAA Tryz.prog 116 = some false := by kernel_rfl
theorem zYY : zAA Tryz.prog 118 = some true := by kernel_rfl
theorem zJI : yV Tryz.prog 118 = some 2 := by kernel_rfl
theorem yHE : zAA Tryz.prog 166 = some false := by kernel_rfl
theorem zUT : yV Tryz.prog 166 = some 1 := by kernel_rfl
theorem ai {a b : Prop} (h : a) (k : b) : a ∧ b := And.intro h k
abbrev iV (n : Int) : Value := .int .i64 n
abbrev I6 (n : Int) : Prop := -9223372036854775808 ≤ n ∧ n ≤ 9223372036854775807
end Go.Proofs.YtgfiniccfpfplaaGreat

set_option linter.unusedVariables false
set_option linter.unusedSimpArgs false
namespace Go.Lay
open Go
section
variable {P : Program} {S : Nat → Prop} {σ τ : St} {n0 n N len c : Nat} {p : Option Addr} {cs : List Value}
def Ax (σ : St) (n0 n : Nat) (p : Option Addr) (len c : Nat) (cs : List Value) : Prop :=
 App σ n0 n (.slice p len c) len cs ∨ ∃ b, p = some ⟨b, 0, none⟩ ∧ c = len ∧ xB len = true ∧ cs.length = len * n ∧ Own σ b cs n ∧ n0 ≤ b
theorem Ax.lit {b : Nat} (o : Own σ b cs n) (hl : cs.length = len * n) (he : xB len = true) (hb : n0 ≤ b) : Ax σ n0 n (some ⟨b, 0, none⟩) len len cs := .inr ⟨b, rfl, rfl, he, hl, o, hb⟩
theorem Ax.slp (h : Ax σ n0 n p len c cs) : SlP σ n p len cs := by
 rcases h with h | ⟨b, rfl, rfl, _, h1, h2, h3⟩
 ·cases h with
  | nil => exact SlP.nil _ _
  | more h1 h2 h3 h4 h5 h6 h7 =>
   refine ⟨h5, ?_, h4⟩
   have hle : ∀ k : Nat, Nat.ble (0 + k) k = true := fun k => (yA _ _).2 (by omega)
   unfold yP
   simp only [h1, yE, h2, zAF, Nat.beq_refl, cond_true, hle, List.drop_zero, List.take_length]
 ·exact ⟨h1, h2.rw⟩
theorem Ax.slv {t : Nat} {vs : List Value} (h : Ax σ n0 n p len c (zBZ vs)) (hl : vs.length = len) (he : ∀ v ∈ vs, zLW P t n v) : SlV P σ t n p len vs := ⟨h.slp, hl, he⟩
theorem Ax.bd (h : Ax σ n0 n p len c cs) : ∀ b, AtP p b → n0 ≤ b ∧ b < σ.next := by
 rintro b ⟨a, rfl, rfl⟩
 rcases h with h | ⟨b, h0, _, _, _, h2, h3⟩
 ·exact ⟨h.ge a rfl, h.lt a rfl⟩
 ·cases h0; exact ⟨h3, h2.lt⟩
theorem Ax.append {st xt e m k : Nat} {q : Option Addr} {xs : List Value} (T : AppT P st xt e n) (hA : Ax σ n0 n p len c cs) (hs : SlP σ n q m xs) (hroom : len + m ≤ 1073741824) (hc : xs.all cellB = true) (hn0 : n0 ≤ σ.next) :
  ∃ p' c' σ', xE P st xt (.slice p len c) (.slice q m k) σ = some (.slice p' (len + m) c', σ') ∧ Ax σ' n0 n p' (len + m) c' (cs ++ xs) ∧ Only (AtP p) σ σ' ∧ (∀ b, AtP p' b → AtP p b ∨ σ.next ≤ b) := by
 obtain ⟨xd, hxd, hxi⟩ := T.src
 obtain ⟨ei, z, hei, hz, hby, hrz, hzl⟩ := T.info
 have hsrc : zKI σ n z xd (.slice q m k) = some (m, xs) := by
  have : zAV σ n (.slice q m k) = some (m, xs) := by
   cases q with
   | none =>
    obtain ⟨h1, h2⟩ := hs
    have h2 : m = 0 := h2
    subst h2
    have : xs = [] := List.eq_nil_of_length_eq_zero (by omega)
    subst this
    simp [zAV]
   | some a =>
    have hrd := hs.2.rd
    rw [hs.1] at hrd
    simp [zAV, hrd]
  unfold zKI
  cases xd with
  | int _ => cases hxi
  | _ => simp only [this]
 have hcond : (zKK (len + m) n ei.bytes && xs.all cellB && Nat.beq xs.length (m * n) && zY RD z && Nat.beq z.cells.toList.length n) = true := by
  unfold zKK
  rw [(yA _ _).2 hroom, (yA _ _).2 T.le, (yA _ _).2 hby, hc, hs.1, Nat.beq_refl, hrz, hzl]; rfl
 have hc0 : yU 0 = 0 := by unfold yU; have := zIN; rw [if_neg (by omega)]
 rcases Nat.eq_zero_or_pos m with h0 | h0
 ·subst h0
  have hx : xs = [] := List.eq_nil_of_length_eq_zero (by have := hs.1; omega)
  subst hx
  have hlc : Nat.ble (len + 0) (yU c) = true := by
   rcases hA with h | ⟨b, _, rfl, he, _⟩
   ·cases h with
    | nil => rw [hc0]; rfl
    | more _ _ _ _ _ _ _ => rw [zLZ]; exact (yA _ _).2 (Nat.le_refl _)
   ·rw [zSE he]; exact (yA _ _).2 (Nat.le_refl _)
  refine ⟨p, c, σ, ?_, by simpa using hA, Only.refl _ _, fun b hb => .inl hb⟩
  unfold xE
  simp only [T.el, hxd, hei, hz, hsrc, hcond, cond_true, zEU, hlc]
  cases p <;> simp
 ·rcases hA with h | ⟨b, rfl, rfl, he, hl, h5, h6⟩
  ·obtain ⟨a, rfl, hr⟩ := hs.some h0
   obtain ⟨p', c', σ', h1, h2, h3, h4⟩ := yDX (k := k) T h hr hs.1 h0 hroom hc hn0
   exact ⟨p', c', σ', h1, .inl h2, h3, h4⟩
  ·have hble : Nat.ble (c + m) c = false := by rw [Bool.eq_false_iff]; intro e; have := (yA _ _).1 e; omega
   have hrd := h5.rw.rd
   rw [hl] at hrd
   have el : (cs ++ xs).length = (c + m) * n := by rw [List.length_append, hl, hs.1, Nat.add_mul]
   refine ⟨some ⟨σ.next, 0, none⟩, c + m + zEM, σ.add (.cells (cs ++ xs) n [(0, (cs ++ xs).length)] 1 false), ?_, .inl ?_, Only.add _ _, fun b hb => .inr (by obtain ⟨a, e, rfl⟩ := hb; cases e; exact Nat.le_refl _)⟩
   ·unfold xE
    simp only [T.el, hxd, hei, hz, hsrc, hcond, cond_true, zEU, zSE he, hble, cond_false, he, hrd, yO]
   ·exact .more (b := σ.next) (s := 0) (nx := 1) (log := []) (by rw [St.add_get, if_pos rfl]) rfl hn0 (by simp) el (by omega) (by omega)
end
end Go.Lay

namespace Go.Lay
open Go
section
variable {P : Program} {alts : List Alt}
theorem yAP {lo db : Nat} {tm : Tm} {ps : List Tmp} {a b : Code} {args : List Value} {τ τ1 : St} (hl : yK τ.heap lo = some (.loop tm ps a b .ready none db)) (hn : args.length = ps.length) {σ1 : St} (hl1 : yK τ1.heap lo = some (.loop tm ps a b .ready none db)) (hσ : σ1 = τ1.put lo (.loop tm ps a b .busy none db)) (aq : List Ans)
  (h : Hid (wpE P (zX P) (some lo) a aq ⟨(ps.zip args).foldl (fun f p => f.set p.1 p.2) tm, []⟩ τ.re (KAs P (zX P) lo b τ1 σ1 (KFinS alts)))) :
  zPM P lo args τ tm ps a b db alts := by
 subst hσ
 obtain ⟨e1, fr1, s1, an1, ⟨N1, h1⟩, ⟨rfl, rfl⟩, h2⟩ := zMK _ _ _ _ _ (hid h)
 obtain ⟨e, fr2, s, an2, ⟨N2, h3⟩, h4⟩ := zMK _ _ _ _ _ h2
 unfold KFinS at h4
 split at h4
 rotate_left
 ·exact h4.elim
 obtain ⟨rfl, h5, h6⟩ := h4
 rename_i al t
 refine ⟨_, s, ⟨al, h6, rfl, t, h5⟩, fun he hlt hb hs => ⟨N1 + N2 + 1, fun N hN => ?_⟩⟩
 obtain ⟨N, rfl⟩ : ∃ N', N = N' + 1 := ⟨N - 1, by omega⟩
 have k1 := h1 N (by omega)
 have k3 := h3 N (by omega)
 have hr : (⟨τ.heap, τ.next, τ.next⟩ : St) = τ.re := rfl
 have hlr : yK τ.re.heap lo = some (.loop tm ps a b .ready none db) := hl
 unfold zBC
 rw [hr]
 simp only [zX, hlr, hn, Nat.beq_refl, cond_true, Tm.puts_eq, k1, zRJ, hl1, St.write_eq, k3]
 have key : ∀ y : Blk, zCB τ (.bool (ySB al.e)) (s.put lo y) = some (.bool (ySB al.e), ⟨(s.put lo y).heap, s.next, min τ.low (min s.low lo)⟩) := by
  intro y
  unfold zCB
  have e1 : Nat.ble τ.next (s.put lo y).low = false := by
   rw [Bool.eq_false_iff]; intro e; have := (yA _ _).1 e; simp only [St.put_low] at this; omega
  have e2 : Nat.ble τ.next (s.put lo y).next = true := (yA _ _).2 hs
  simp only [e1, Bool.false_and, cond_false, e2, cond_true, vV, zFA]
  rfl
 rcases he with e | e | ⟨i, e⟩ <;> (rw [e] at key ⊢; simp only [zRI, zHS, hb, St.write_eq]; exact key _)
end
end Go.Lay

namespace Go.Lay
open Go
section
variable {P : Program} {R : Nat → Rec} {rd : Option Nat}
end
end Go.Lay

namespace Go.Proofs.YtgfiniccfpfplaaGreat
open Go Go.Lay
set_option linter.unusedVariables false
set_option linter.unusedSimpArgs false
set_option maxRecDepth 20000
structure Rec where
 k : Int
 a : Int
 b : Int
 deriving DecidableEq, Inhabited
abbrev xD (n : Int) : Value := iV n
abbrev zDH (x : Rec) : List Value := rcd x.k x.a x.b
abbrev zHC (x : Rec) : Value := .agg ⟨zDH x⟩
def inB (n lo hi : Int) : Bool := decide (lo ≤ n) && decide (n ≤ hi)
theorem zDA {n lo hi : Int} : inB n lo hi = true ↔ lo ≤ n ∧ n ≤ hi := by simp [inB]
theorem yCL {n lo hi : Int} : inB n lo hi = false ↔ ¬ (lo ≤ n ∧ n ≤ hi) := by rw [← Bool.not_eq_true, zDA]
theorem uR {α : Type} {xs : List α} {i : Nat} {x : α} (h : xs[i]? = some x) : xs.take (i + 1) = xs.take i ++ [x] := by
 rw [List.take_add_one, h]; rfl
theorem le0 (σ : St) : Le σ σ.re := Le.re' (Le.refl _)
end Go.Proofs.YtgfiniccfpfplaaGreat
