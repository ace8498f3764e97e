import Derived.Test.YtgfiniccfpfplaaGreatUI
import Derived.Test.YtgfiniccfpfplaaGreatRI

namespace Go.Proofs.YtgfiniccfpfplaaGreat
open Go Go.Lay
set_option linter.unusedVariables false
set_option linter.unusedSimpArgs false
set_option maxRecDepth 20000
open Go.Sort (swp PermIn SortedIn Below SWO)
section
variable {σ : St} {b c : Nat} {s : Option Nat} {d : Array Rec} {g : FuncId} {gc : List Value} {lt : Rec → Rec → Bool} {V : Rec → Prop}
theorem sortF_c (hS : SWO lt) (hc : Cmp g gc lt V) (hd : Dt σ b s d) (hv : xJ V d) (hsz : d.size ≤ 60000) :
  ∃ d', PermIn 0 d.size d d' ∧ SortedIn lt 0 d.size d' ∧ zBI 78 [.slice (some ⟨b, 0, s⟩) d.size c, .func (.func g) ⟨[]⟩ ⟨gc⟩] (.tuple ⟨[]⟩) σ b s d d' := by
 obtain ⟨n, n1, n2, n3⟩ := yTX (σ := σ.re) (x := d.size) (by omega)
 obtain ⟨d', p1, p2, p3⟩ := pdq_c (c := c) (s := s) hS hc d.size σ.re d 0 d.size (n : Int) (by omega) hd hv (Nat.zero_le _) (Nat.le_refl _) hsz (.inl rfl) (by omega)
 have w0 : W σ σ.re b s d d := W.start hd
 obtain ⟨τ', k1, w1⟩ := w0.call p3
 exact ⟨d', p1, p2, zBI.of hd (yIC (z1 := (d.size : Int)) (by rw [zVI]; omega) n3 k1 ⟨rfl, w1⟩)⟩
theorem insS_nil : zE Tryz.prog 106 [.slice none 0 c, iV 0, iV 0, .func (.func g) ⟨[]⟩ ⟨gc⟩] σ (.tuple ⟨[]⟩) σ :=
 zN.pure (yVV (P0 := fun τ => τ = σ.re) (zXP (Inv := fun k i τ => i = 1 ∧ τ = σ.re) (fun k i τ h => by obtain ⟨rfl, rfl⟩ := h; exact yLQ rfl (by omega)) 0 _ σ.re ⟨rfl, rfl⟩) (fun τ h => zXO ⟨rfl, by rw [h]; exact Nat.le_refl _⟩) (by omega))
theorem pdq_nil {n : Int} : zE Tryz.prog 97 [.slice none 0 c, iV 0, iV 0, iV n, .func (.func g) ⟨[]⟩ ⟨gc⟩] σ (.tuple ⟨[]⟩) σ :=
 zN.pure (pdq_ra (Pr := fun τ => τ = σ.re) (yBK (Inv := fun k i1 i2 i3 t10 t11 τ => i1 = 0 ∧ i2 = 0 ∧ τ = σ.re) (fun k i1 i2 i3 t10 t11 τ h => by obtain ⟨rfl, rfl, rfl⟩ := h; exact yVC insS_nil rfl (by omega) (by omega)) 0 _ _ _ _ _ σ.re ⟨rfl, rfl, rfl⟩) (fun τ h => yBJ ⟨rfl, by rw [h]; exact Nat.le_refl _⟩))
theorem yXG : zE Tryz.prog 78 [.slice none 0 c, .func (.func g) ⟨[]⟩ ⟨gc⟩] σ (.tuple ⟨[]⟩) σ := by
 obtain ⟨n, n1, n2, n3⟩ := yTX (σ := σ.re) (x := 0) (by omega)
 exact zN.pure (yIC (x_l := 0) (z1 := ((0 : Nat) : Int)) (by rw [zVI]; rfl) n3 pdq_nil ⟨rfl, Nat.le_refl _⟩)
end
end Go.Proofs.YtgfiniccfpfplaaGreat

namespace Go.Proofs.YtgfiniccfpfplaaGreat
open Go Go.Lay
open Tryz renaming prog → Pg
set_option linter.unusedVariables false
set_option linter.unusedSimpArgs false
set_option maxRecDepth 20000
abbrev yXE (s : Std) : Value := .agg ⟨zW s.free s.row s.used s.day⟩
structure StOk (s : Std) : Prop where
 free : -1000000 ≤ s.free ∧ s.free ≤ 1000000
 row : 0 ≤ s.row ∧ s.row ≤ 1000000
 used : -1000000 ≤ s.used ∧ s.used ≤ 1000000
 day : -1 ≤ s.day ∧ s.day ≤ 6
structure DtOk (d : Dty) : Prop where
 day : 0 ≤ d.day ∧ d.day ≤ 6
 on : 0 ≤ d.on ∧ d.on ≤ 1439
section
variable {σ : St} {w : Wk} {p q : Option Addr} {l m c d : Nat} {k : Nat}
theorem conI_c {p : Option Addr} {l c : Nat} {xs : List Int} {n : Int} (h : yU σ p l xs) (hl : l ≤ 1073741824) : zE Pg 58 [.slice p l c, iV n] σ (.bool (xs.contains n)) σ := by
 have h1 := (SlV.re h).re
 have e1 := h.len
 have ci : ∃ r : Int, zE Pg 83 [.slice p l c, iV n] σ.re (iV r) σ.re ∧ (0 ≤ r ↔ n ∈ xs) := by
  have key : zN Pg 83 [.slice p l c, iV n] σ.re.re fun v s => (∃ r : Int, v = iV r ∧ (0 ≤ r ↔ n ∈ xs)) ∧ s = σ.re.re := by
   refine index_ra (yLT (Inv := fun k i τ => τ = σ.re.re ∧ ∃ j : Nat, i = j ∧ j + k = l ∧ n ∉ xs.take j) (Qr := fun i τ => τ = σ.re.re ∧ 0 ≤ i ∧ n ∈ xs) (Q0 := fun τ => τ = σ.re.re ∧ n ∉ xs) ?_ l 0 _ ⟨rfl, 0, rfl, by omega, by simp⟩) ?_ ?_
   ·rintro k i τ ⟨rfl, j, rfl, hk, he⟩
    by_cases hj : j < l
    ·obtain ⟨a, rfl, x, hx, l1⟩ := vQ h1 hj
     by_cases hxy : n = x
     ·exact index_s1a l1 ⟨rfl, by omega, hxy ▸ List.mem_of_getElem? hx⟩ (by omega) (by omega) hxy
     ·exact index_s1b l1 ⟨k - 1, by omega, rfl, j + 1, by omega, by omega, by rw [uS hx, List.mem_append]; simp; exact ⟨he, hxy⟩⟩ (by omega) (by omega) hxy (by omega)
    ·rw [List.take_of_length_le (by omega)] at he
     exact index_s1c ⟨rfl, he⟩ (by omega)
   ·rintro i τ ⟨rfl, h2, hn⟩
    exact yLR ⟨⟨i, rfl, by simp [h2, hn]⟩, rfl⟩
   ·rintro τ ⟨rfl, hn⟩
    exact yLS ⟨⟨-1, rfl, by simp [hn]⟩, rfl⟩
  obtain ⟨v, s, h3, ⟨r, rfl, h2⟩, rfl⟩ := key
  exact ⟨r, zRM h3 (Nat.le_refl _) rfl, h2⟩
 obtain ⟨r, c1, c2⟩ := ci
 by_cases hn : n ∈ xs
 ·rw [show xs.contains n = true by simp [hn]]
  exact (conI_ra c1 ⟨rfl, Nat.le_refl _⟩ (c2.2 hn)).pure
 ·rw [show xs.contains n = false by simp [hn]]
  exact (conI_rb c1 ⟨rfl, Nat.le_refl _⟩ (fun h => hn (c2.1 h))).pure
theorem yUR {s : Std} {x : Dty} {e : Int} (hs : StOk s) (hx : DtOk x) (he : -1000000 ≤ e ∧ e ≤ 1000000) : zE Pg 77 [yXE s, zDK x, iV e] σ (yXE (take s x e)) σ := by
 have h1 := hs.used; have h2 := hs.row; have h3 := hs.day; have h4 := hx.day; have h5 := hx.on
 unfold take
 by_cases e1 : s.day = x.day
 ·rw [if_pos e1]
  exact (stake_ra ⟨rfl, by simp⟩ (by omega) (by omega) e1).pure
 ·rw [if_neg e1]
  by_cases e2 : s.day = x.day - 1
  ·rw [if_pos e2]
   exact (stake_rc ⟨rfl, by simp⟩ (by omega) (by omega) e1 (by omega) e2 (by omega) (by omega) (by omega)).pure
  ·rw [if_neg e2]
   exact (stake_rb ⟨rfl, by simp⟩ (by omega) (by omega) e1 (by omega) e2 (by omega) (by omega)).pure
theorem ask_c (h : WkP σ 85 88 w p l q m) (hsh : zIY w) (hk : k < m) {s : Std} {x : Dty} (hs : StOk s) (hx : DtOk x) {n : Nat} (hn : n < 5) : zE Pg (92 + n) [.agg ⟨wkc w.days p l c q m d w.rest w.run w.hours⟩, iV (k : Int), zDK x, yXE s] σ (.bool (holds w n (drv w k) x s)) σ := by
 have h1 := hs.free; have h4 := hx.day; have h5 := hx.on
 have L : Le σ (((σ.re.row (wkc w.days p l c q m d w.rest w.run w.hours) 6).row (zF x.day x.on x.lo x.hi x.route) 5).row (zW s.free s.row s.used s.day) 4) := (((le0 σ).trans (Le.row _ _ _)).trans (Le.row _ _ _)).trans (Le.row _ _ _)
 obtain ⟨a, rfl, p', l', c', r', n', d', s', j', e', _, hkn, hlv, _, hf⟩ := (h.le L).vld yNH zRH hk
 have hm := h.len.2
 have hmem : drv w k ∈ w.drivers := by
  unfold drv
  rw [List.getD_eq_getElem?_getD, List.getElem?_eq_getElem (by omega)]
  exact List.getElem_mem _
 have hsx := hsh _ hmem
 match n, hn with
 | 0, _ => exact (yYO (hf 0 _ rfl 26 yY) (conI_c hkn (by have := hkn.len; omega)) ⟨rfl, Nat.le_refl _⟩ (by omega)).pure
 | 1, _ =>
  have cc := conI_c (c := d') (n := x.day) hlv (by have := hlv.len; omega)
  show zE Pg 93 _ σ (.bool (!(drv w k).leave.contains x.day)) σ
  cases hc : (drv w k).leave.contains x.day with
  | true => rw [hc] at cc; exact (qhere_ra (hf 1 _ rfl 26 yY) cc ⟨rfl, Nat.le_refl _⟩ (by omega)).pure
  | false => rw [hc] at cc; exact (qhere_rb (hf 1 _ rfl 26 yY) cc ⟨rfl, Nat.le_refl _⟩ (by omega)).pure
 | 2, _ =>
  show zE Pg 94 _ σ (.bool (decide (s.day ≠ x.day))) σ
  by_cases e : s.day = x.day
  ·rw [decide_eq_false (by simp [e])]; exact (yQD ⟨rfl, Nat.le_refl _⟩ e).pure
  ·rw [decide_eq_true e]; exact (yQE ⟨rfl, Nat.le_refl _⟩ e).pure
 | 3, _ =>
  show zE Pg 95 _ σ (.bool (decide (s.day = x.day) || decide (w.rest ≤ x.day * 1440 + x.on - s.free))) σ
  by_cases e : s.day = x.day
  ·rw [decide_eq_true e]; exact (yQH ⟨rfl, Nat.le_refl _⟩ e).pure
  ·rw [decide_eq_false e, Bool.false_or]
   by_cases e2 : w.rest ≤ x.day * 1440 + x.on - s.free
   ·rw [decide_eq_true e2]; exact (yQG ⟨rfl, Nat.le_refl _⟩ e (by omega) (by omega) (by omega) e2).pure
   ·rw [decide_eq_false e2]; exact (yQF ⟨rfl, Nat.le_refl _⟩ e (by omega) (by omega) (by omega) e2).pure
 | 4, _ =>
  show zE Pg 96 _ σ (.bool (decide (s.day = x.day) || decide ((take s x x.on).row ≤ w.run))) σ
  by_cases e : s.day = x.day
  ·rw [decide_eq_true e]; exact (yYR ⟨rfl, Nat.le_refl _⟩ e).pure
  ·rw [decide_eq_false e, Bool.false_or]
   have ct := yUR (σ := ((σ.re.row (wkc w.days p l c (some a) m d w.rest w.run w.hours) 6).row (zF x.day x.on x.lo x.hi x.route) 5).row (zW s.free s.row s.used s.day) 4) (e := x.on) hs hx (by omega)
   by_cases e2 : (take s x x.on).row ≤ w.run
   ·rw [decide_eq_true e2]; exact (yYQ ct ⟨rfl, Nat.le_refl _⟩ e e2).pure
   ·rw [decide_eq_false e2]; exact (yYP ct ⟨rfl, Nat.le_refl _⟩ e e2).pure
end
end Go.Proofs.YtgfiniccfpfplaaGreat
