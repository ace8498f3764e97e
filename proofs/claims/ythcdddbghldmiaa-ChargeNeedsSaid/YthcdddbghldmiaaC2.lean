/- Contracts of the plain functions of the charge program: what is valid. -/
import Derived.Test.YthcdddbghldmiaaP1
import Derived.Test.YthcdddbghldmiaaT1
namespace Go.Proofs.Ythcdddbghldmiaa
open Go Go.Lay
set_option linter.unusedVariables false
set_option linter.unusedSimpArgs false

structure Slot where
  pw : Int
  pr : Int
structure Bus where
  fr : Int
  to : Int
  rate : Int
  full : Int
  floor : Int
  hlo : Int
  hhi : Int
  ulo : Int
  uhi : Int
abbrev slotL (s : Slot) : List Value := [.int .i64 s.pw, .int .i64 s.pr]
abbrev slotV (s : Slot) : Value := .agg ⟨slotL s⟩
abbrev busL (b : Bus) : List Value := [.int .i64 b.fr, .int .i64 b.to, .int .i64 b.rate, .int .i64 b.full, .int .i64 b.floor, .int .i64 b.hlo, .int .i64 b.hhi, .int .i64 b.ulo, .int .i64 b.uhi]
abbrev busV (b : Bus) : Value := .agg ⟨busL b⟩
abbrev intV (n : Int) : Value := .int .i64 n

def inB (n lo hi : Int) : Bool := decide (lo ≤ n) && decide (n ≤ hi)
def slotB (s : Slot) : Bool := inB s.pw 0 1000 && inB s.pr 0 1000
def uptoB (lo hi most : Int) : Bool := decide (0 ≤ lo) && decide (lo ≤ hi) && decide (hi ≤ most)
def busB (b : Bus) : Bool :=
  inB b.fr 0 b.to && decide (b.to ≤ 12) && inB b.rate 0 1000 && inB b.full 0 1000 && inB b.floor 0 b.full && uptoB b.hlo b.hhi b.full && uptoB b.ulo b.uhi (b.full - b.floor)
def needZ (b : Bus) : Int := max 0 (b.floor + b.uhi - b.hlo)
def thereB (b : Bus) (s : Int) : Bool := decide (b.fr ≤ s) && decide (s < b.to)
theorem inB_iff {n lo hi : Int} : inB n lo hi = true ↔ lo ≤ n ∧ n ≤ hi := by simp [inB]

section
variable {σ : St}
theorem within_c {n lo hi : Int} : CallsA Try.prog 64 [.int .i64 n, .int .i64 lo, .int .i64 hi] σ (.bool (inB n lo hi)) σ := by
  by_cases h1 : lo ≤ n
  · by_cases h2 : n ≤ hi
    · rw [show inB n lo hi = true by simp [inB, h1, h2]]
      exact pure_c (runs_of ⟨0, fun N _ => ⟨_, within_w0.mpr ⟨leI_tt h1, leI_tt h2, rfl, rfl⟩⟩⟩) (Nat.le_refl _) rfl
    · rw [show inB n lo hi = false by simp [inB, h1, h2]]
      exact pure_c (runs_of ⟨0, fun N _ => ⟨_, within_w1.mpr ⟨leI_tt h1, leI_ff h2, rfl, rfl⟩⟩⟩) (Nat.le_refl _) rfl
  · rw [show inB n lo hi = false by simp [inB, h1]]
    exact pure_c (runs_of ⟨0, fun N _ => ⟨_, within_w2.mpr ⟨leI_ff h1, rfl, rfl⟩⟩⟩) (Nat.le_refl _) rfl
theorem rIn_c {n lo hi : Int} : CallsA Try.prog 56 [.int .i64 n, .int .i64 lo, .int .i64 hi] σ (.bool (inB n lo hi)) σ := by
  by_cases h1 : lo ≤ n
  · by_cases h2 : n ≤ hi
    · rw [show inB n lo hi = true by simp [inB, h1, h2]]
      exact pure_c (runs_of ⟨0, fun N _ => ⟨_, rIn_w0.mpr ⟨leI_tt h1, leI_tt h2, rfl, rfl⟩⟩⟩) (Nat.le_refl _) rfl
    · rw [show inB n lo hi = false by simp [inB, h1, h2]]
      exact pure_c (runs_of ⟨0, fun N _ => ⟨_, rIn_w1.mpr ⟨leI_tt h1, leI_ff h2, rfl, rfl⟩⟩⟩) (Nat.le_refl _) rfl
  · rw [show inB n lo hi = false by simp [inB, h1]]
    exact pure_c (runs_of ⟨0, fun N _ => ⟨_, rIn_w2.mpr ⟨leI_ff h1, rfl, rfl⟩⟩⟩) (Nat.le_refl _) rfl
theorem units_c {n : Int} : CallsA Try.prog 90 [.int .i64 n] σ (.bool (inB n 0 1000)) σ := by
  obtain ⟨N1, c1⟩ := within_c (n := n) (lo := 0) (hi := 1000) (σ := σ.re)
  exact pure_c (runs_of ⟨N1, fun N hN => ⟨_, units_w0.mpr ⟨c1 N hN, rfl, rfl⟩⟩⟩) (Nat.le_refl _) rfl
theorem has_c {lo hi n : Int} : CallsA Try.prog 60 [.agg ⟨[.int .i64 lo, .int .i64 hi]⟩, .int .i64 n] σ (.bool (inB n lo hi)) σ := by
  obtain ⟨N1, c1⟩ := within_c (n := n) (lo := lo) (hi := hi) (σ := σ.re.row [.int .i64 lo, .int .i64 hi] 2)
  exact pure_c (runs_of ⟨N1, fun N hN => ⟨_, has_w0p (c1 N hN) ⟨rfl, rfl⟩⟩⟩) (Nat.le_refl _) rfl
theorem upto_c {lo hi most : Int} : CallsA Try.prog 93 [.agg ⟨[.int .i64 lo, .int .i64 hi]⟩, .int .i64 most] σ (.bool (uptoB lo hi most)) σ := by
  by_cases h1 : 0 ≤ lo
  · by_cases h2 : lo ≤ hi
    · by_cases h3 : hi ≤ most
      · rw [show uptoB lo hi most = true by simp [uptoB, h1, h2, h3]]
        exact pure_c (runs_of ⟨0, fun N _ => ⟨_, upto_w0p (leI_tt h1) (leI_tt h2) (leI_tt h3) ⟨rfl, rfl⟩⟩⟩) (Nat.le_refl _) rfl
      · rw [show uptoB lo hi most = false by simp [uptoB, h1, h2, h3]]
        exact pure_c (runs_of ⟨0, fun N _ => ⟨_, upto_w1p (leI_tt h1) (leI_tt h2) (leI_ff h3) ⟨rfl, rfl⟩⟩⟩) (Nat.le_refl _) rfl
    · rw [show uptoB lo hi most = false by simp [uptoB, h1, h2]]
      exact pure_c (runs_of ⟨0, fun N _ => ⟨_, upto_w2p (leI_tt h1) (leI_ff h2) ⟨rfl, rfl⟩⟩⟩) (Nat.le_refl _) rfl
  · rw [show uptoB lo hi most = false by simp [uptoB, h1]]
    exact pure_c (runs_of ⟨0, fun N _ => ⟨_, upto_w3p (leI_ff h1) ⟨rfl, rfl⟩⟩⟩) (Nat.le_refl _) rfl
theorem slotValid_c {s : Slot} : CallsA Try.prog 76 [slotV s] σ (.bool (slotB s)) σ := by
  obtain ⟨N1, c1⟩ := units_c (n := s.pw) (σ := σ.re.row (slotL s) 2)
  obtain ⟨N2, c2⟩ := units_c (n := s.pr) (σ := σ.re.row (slotL s) 2)
  unfold slotB
  cases h1 : inB s.pw 0 1000 with
  | true =>
    rw [h1] at c1
    exact pure_c (runs_of ⟨N1 + N2, fun N hN => ⟨_, slotValid_w0p (c1 N (by omega)) (c2 N (by omega)) ⟨rfl, rfl⟩⟩⟩) (Nat.le_refl _) rfl
  | false =>
    rw [h1] at c1
    exact pure_c (runs_of ⟨N1, fun N hN => ⟨_, slotValid_w1p (c1 N hN) ⟨rfl, rfl⟩⟩⟩) (Nat.le_refl _) rfl
theorem busValid_c {b : Bus} : CallsA Try.prog 78 [busV b] σ (.bool (busB b)) σ := by
  obtain ⟨N1, c1⟩ := within_c (n := b.fr) (lo := 0) (hi := b.to) (σ := σ.re.row (busL b) 9)
  obtain ⟨N2, c2⟩ := units_c (n := b.rate) (σ := σ.re.row (busL b) 9)
  obtain ⟨N3, c3⟩ := units_c (n := b.full) (σ := σ.re.row (busL b) 9)
  obtain ⟨N4, c4⟩ := within_c (n := b.floor) (lo := 0) (hi := b.full) (σ := σ.re.row (busL b) 9)
  obtain ⟨N5, c5⟩ := upto_c (lo := b.hlo) (hi := b.hhi) (most := b.full) (σ := σ.re.row (busL b) 9)
  obtain ⟨N6, c6⟩ := upto_c (lo := b.ulo) (hi := b.uhi) (most := b.full - b.floor) (σ := σ.re.row (busL b) 9)
  have nn : ∀ N, N1 + N2 + N3 + N4 + N5 + N6 ≤ N → N1 ≤ N ∧ N2 ≤ N ∧ N3 ≤ N ∧ N4 ≤ N ∧ N5 ≤ N ∧ N6 ≤ N := fun N h => by omega
  cases h1 : inB b.fr 0 b.to with
  | false =>
    rw [h1] at c1
    rw [show busB b = false by simp [busB, h1]]
    exact pure_c (runs_of ⟨N1, fun N hN => ⟨_, busValid_w6p (c1 N hN) ⟨rfl, rfl⟩⟩⟩) (Nat.le_refl _) rfl
  | true =>
  rw [h1] at c1
  by_cases h0 : b.to ≤ 12
  case neg =>
    rw [show busB b = false by simp [busB, h0]]
    exact pure_c (runs_of ⟨N1, fun N hN => ⟨_, busValid_w5p (c1 N hN) (leI_ff h0) ⟨rfl, rfl⟩⟩⟩) (Nat.le_refl _) rfl
  cases h2 : inB b.rate 0 1000 with
  | false =>
    rw [h2] at c2
    rw [show busB b = false by simp [busB, h2]]
    exact pure_c (runs_of ⟨N1 + N2, fun N hN => ⟨_, busValid_w4p (c1 N (by omega)) (leI_tt h0) (c2 N (by omega)) ⟨rfl, rfl⟩⟩⟩) (Nat.le_refl _) rfl
  | true =>
  rw [h2] at c2
  cases h3 : inB b.full 0 1000 with
  | false =>
    rw [h3] at c3
    rw [show busB b = false by simp [busB, h3]]
    exact pure_c (runs_of ⟨N1 + N2 + N3, fun N hN => ⟨_, busValid_w3p (c1 N (by omega)) (leI_tt h0) (c2 N (by omega)) (c3 N (by omega)) ⟨rfl, rfl⟩⟩⟩) (Nat.le_refl _) rfl
  | true =>
  rw [h3] at c3
  cases h4 : inB b.floor 0 b.full with
  | false =>
    rw [h4] at c4
    rw [show busB b = false by simp [busB, h4]]
    exact pure_c (runs_of ⟨N1 + N2 + N3 + N4, fun N hN => ⟨_, busValid_w2p (c1 N (by omega)) (leI_tt h0) (c2 N (by omega)) (c3 N (by omega)) (c4 N (by omega)) ⟨rfl, rfl⟩⟩⟩) (Nat.le_refl _) rfl
  | true =>
  rw [h4] at c4
  cases h5 : uptoB b.hlo b.hhi b.full with
  | false =>
    rw [h5] at c5
    rw [show busB b = false by simp [busB, h5]]
    exact pure_c (runs_of ⟨N1 + N2 + N3 + N4 + N5, fun N hN => ⟨_, busValid_w1p (c1 N (by omega)) (leI_tt h0) (c2 N (by omega)) (c3 N (by omega)) (c4 N (by omega)) (c5 N (by omega)) ⟨rfl, rfl⟩⟩⟩) (Nat.le_refl _) rfl
  | true =>
  rw [h5] at c5
  have k3 := inB_iff.1 h3
  have k4 := inB_iff.1 h4
  rw [show busB b = uptoB b.ulo b.uhi (b.full - b.floor) by simp [busB, h1, h0, h2, h3, h4, h5]]
  exact pure_c (runs_of ⟨N1 + N2 + N3 + N4 + N5 + N6, fun N hN => ⟨_, busValid_w0p (c1 N (by omega)) (leI_tt h0) (c2 N (by omega)) (c3 N (by omega)) (c4 N (by omega)) (c5 N (by omega)) (wrap64 (n := b.full - b.floor) (by omega) (by omega)) (c6 N (by omega)) ⟨rfl, rfl⟩⟩⟩) (Nat.le_refl _) rfl

/-! ### All of a list -/
theorem conS_c {p : Option Addr} {len cap : Nat} {fg : FuncId} {caps vs : List Value} {bs : List Bool} (hs : SlV Try.prog σ 94 2 p len vs) (hlen : len ≤ 1073741824) (hb : bs.length = len)
    (hc : ∀ τ, Le σ τ → ∀ (i : Nat) v b, vs[i]? = some v → bs[i]? = some b → CallsA Try.prog fg (v :: caps) τ (.bool b) τ) : CallsA Try.prog 88 [.slice p len cap, .func (.func fg) ⟨[]⟩ ⟨caps⟩] σ (.bool (bs.any id)) σ := by
  obtain ⟨N1, c1⟩ := (idxS_run (σ := σ.re.re) (cap := cap) (hs.re.re) hlen hb (fun i v b h1 h2 => hc _ (Le.re' (Le.re' (Le.refl _))) i v b h1 h2)).call (v := .int .i64 (firstTrue bs 0)) rfl
  have hf := firstTrue_any bs 0
  cases h : bs.any id with
  | true => exact pure_c (runs_of ⟨N1, fun N hN => ⟨_, conS_w0.mpr ⟨c1 N hN, by rw [hf, h], rfl, rfl⟩⟩⟩) (Nat.le_refl _) rfl
  | false => exact pure_c (runs_of ⟨N1, fun N hN => ⟨_, conS_w1.mpr ⟨c1 N hN, by rw [hf, h], rfl, rfl⟩⟩⟩) (Nat.le_refl _) rfl
end
end Go.Proofs.Ythcdddbghldmiaa
