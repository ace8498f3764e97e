/- Contracts: all elements of a list; the error of a garage; what a bus needs. -/
import Derived.Test.YthcdddbghldmiaaC2
namespace Go.Proofs.Ythcdddbghldmiaa
open Go Go.Lay
set_option linter.unusedVariables false
set_option linter.unusedSimpArgs false
section
variable {σ : St}
theorem any_not (bs : List Bool) : (bs.map (!·)).any id = !bs.all id := by
  induction bs with
  | nil => rfl
  | cons b bs ih => cases b <;> simp_all

theorem allS1_c {x : Slot} {a : Addr} {g : FuncId} {gc : List Value} {b : Bool} (hr : Row σ a [.func (.func g) ⟨[]⟩ ⟨gc⟩]) (hc : ∀ τ, Le σ τ → CallsA Try.prog g (slotV x :: gc) τ (.bool b) τ) :
    CallsA Try.prog 89 [slotV x, .pointer (some a)] σ (.bool (!b)) σ := by
  obtain ⟨N1, c1⟩ := hc (σ.re.row (slotL x) 2) ((Le.re' (Le.refl _)).trans (Le.row _ _ _))
  have hr := hr.re
  cases b with
  | true => exact pure_c (runs_of ⟨N1, fun N hN => ⟨_, allS1_w0p (hr.row.ld1 agg135) (c1 N hN) ⟨rfl, rfl⟩⟩⟩) (Nat.le_refl _) rfl
  | false => exact pure_c (runs_of ⟨N1, fun N hN => ⟨_, allS1_w1p (hr.row.ld1 agg135) (c1 N hN) ⟨rfl, rfl⟩⟩⟩) (Nat.le_refl _) rfl
theorem allS_c {p : Option Addr} {len cap : Nat} {g : FuncId} {gc : List Value} {xs : List Slot} {f : Slot → Bool} (hs : SlV Try.prog σ 94 2 p len (xs.map slotV)) (hlen : len ≤ 1073741824)
    (hc : ∀ τ x, Le σ τ → CallsA Try.prog g (slotV x :: gc) τ (.bool (f x)) τ) : CallsA Try.prog 75 [.slice p len cap, .func (.func g) ⟨[]⟩ ⟨gc⟩] σ (.bool (xs.all f)) σ := by
  have h0 : Le σ (σ.re.row [.func (.func g) ⟨[]⟩ ⟨gc⟩] 1) := (Le.re' (Le.refl _)).trans (Le.row _ _ _)
  obtain ⟨N1, c1⟩ := conS_c (σ := σ.re.row [.func (.func g) ⟨[]⟩ ⟨gc⟩] 1) (cap := cap) (fg := 89) (caps := [.pointer (some ⟨σ.next, 0, none⟩)]) (bs := (xs.map f).map (!·)) (hs.le h0) hlen
    (by have := hs.2.1; simpa using this) (fun τ hτ i v b hv hb => by
      simp only [List.getElem?_map] at hv hb
      cases hx : xs[i]? with
      | none => rw [hx] at hv; cases hv
      | some x =>
        rw [hx] at hv hb
        simp only [Option.map_some, Option.some.injEq] at hv hb
        subst hv; subst hb
        exact allS1_c ((row_new σ.re [.func (.func g) ⟨[]⟩ ⟨gc⟩] 1).le hτ) (fun τ' h' => hc τ' x ((h0.trans hτ).trans h')))
  have hf := any_not (xs.map f)
  have e : xs.all f = (xs.map f).all id := by simp [List.all_map]
  rw [e]
  rw [hf] at c1
  cases h : (xs.map f).all id with
  | true => rw [h] at c1; exact pure_c (runs_of ⟨N1, fun N hN => ⟨_, allS_w1.mpr ⟨c1 N hN, rfl, rfl⟩⟩⟩) (Nat.le_refl _) rfl
  | false => rw [h] at c1; exact pure_c (runs_of ⟨N1, fun N hN => ⟨_, allS_w0.mpr ⟨c1 N hN, rfl, rfl⟩⟩⟩) (Nat.le_refl _) rfl
theorem conB_c {p : Option Addr} {len cap : Nat} {fg : FuncId} {caps vs : List Value} {bs : List Bool} (hs : SlV Try.prog σ 97 9 p len vs) (hlen : len ≤ 1073741824) (hb : bs.length = len)
    (hc : ∀ τ, Le σ τ → ∀ (i : Nat) v b, vs[i]? = some v → bs[i]? = some b → CallsA Try.prog fg (v :: caps) τ (.bool b) τ) : CallsA Try.prog 91 [.slice p len cap, .func (.func fg) ⟨[]⟩ ⟨caps⟩] σ (.bool (bs.any id)) σ := by
  obtain ⟨N1, c1⟩ := (idxB_run (σ := σ.re.re) (cap := cap) (hs.re.re) hlen hb (fun i v b h1 h2 => hc _ (Le.re' (Le.re' (Le.refl _))) i v b h1 h2)).call (v := .int .i64 (firstTrue bs 0)) rfl
  have hf := firstTrue_any bs 0
  cases h : bs.any id with
  | true => exact pure_c (runs_of ⟨N1, fun N hN => ⟨_, conB_w0.mpr ⟨c1 N hN, by rw [hf, h], rfl, rfl⟩⟩⟩) (Nat.le_refl _) rfl
  | false => exact pure_c (runs_of ⟨N1, fun N hN => ⟨_, conB_w1.mpr ⟨c1 N hN, by rw [hf, h], rfl, rfl⟩⟩⟩) (Nat.le_refl _) rfl
theorem allB1_c {x : Bus} {a : Addr} {g : FuncId} {gc : List Value} {b : Bool} (hr : Row σ a [.func (.func g) ⟨[]⟩ ⟨gc⟩]) (hc : ∀ τ, Le σ τ → CallsA Try.prog g (busV x :: gc) τ (.bool b) τ) :
    CallsA Try.prog 92 [busV x, .pointer (some a)] σ (.bool (!b)) σ := by
  obtain ⟨N1, c1⟩ := hc (σ.re.row (busL x) 9) ((Le.re' (Le.refl _)).trans (Le.row _ _ _))
  have hr := hr.re
  cases b with
  | true => exact pure_c (runs_of ⟨N1, fun N hN => ⟨_, allB1_w0p (hr.row.ld1 agg137) (c1 N hN) ⟨rfl, rfl⟩⟩⟩) (Nat.le_refl _) rfl
  | false => exact pure_c (runs_of ⟨N1, fun N hN => ⟨_, allB1_w1p (hr.row.ld1 agg137) (c1 N hN) ⟨rfl, rfl⟩⟩⟩) (Nat.le_refl _) rfl
theorem allB_c {p : Option Addr} {len cap : Nat} {g : FuncId} {gc : List Value} {xs : List Bus} {f : Bus → Bool} (hs : SlV Try.prog σ 97 9 p len (xs.map busV)) (hlen : len ≤ 1073741824)
    (hc : ∀ τ x, Le σ τ → CallsA Try.prog g (busV x :: gc) τ (.bool (f x)) τ) : CallsA Try.prog 77 [.slice p len cap, .func (.func g) ⟨[]⟩ ⟨gc⟩] σ (.bool (xs.all f)) σ := by
  have h0 : Le σ (σ.re.row [.func (.func g) ⟨[]⟩ ⟨gc⟩] 1) := (Le.re' (Le.refl _)).trans (Le.row _ _ _)
  obtain ⟨N1, c1⟩ := conB_c (σ := σ.re.row [.func (.func g) ⟨[]⟩ ⟨gc⟩] 1) (cap := cap) (fg := 92) (caps := [.pointer (some ⟨σ.next, 0, none⟩)]) (bs := (xs.map f).map (!·)) (hs.le h0) hlen
    (by have := hs.2.1; simpa using this) (fun τ hτ i v b hv hb => by
      simp only [List.getElem?_map] at hv hb
      cases hx : xs[i]? with
      | none => rw [hx] at hv; cases hv
      | some x =>
        rw [hx] at hv hb
        simp only [Option.map_some, Option.some.injEq] at hv hb
        subst hv; subst hb
        exact allB1_c ((row_new σ.re [.func (.func g) ⟨[]⟩ ⟨gc⟩] 1).le hτ) (fun τ' h' => hc τ' x ((h0.trans hτ).trans h')))
  have hf := any_not (xs.map f)
  have e : xs.all f = (xs.map f).all id := by simp [List.all_map]
  rw [e]
  rw [hf] at c1
  cases h : (xs.map f).all id with
  | true => rw [h] at c1; exact pure_c (runs_of ⟨N1, fun N hN => ⟨_, allB_w1.mpr ⟨c1 N hN, rfl, rfl⟩⟩⟩) (Nat.le_refl _) rfl
  | false => rw [h] at c1; exact pure_c (runs_of ⟨N1, fun N hN => ⟨_, allB_w0.mpr ⟨c1 N hN, rfl, rfl⟩⟩⟩) (Nat.le_refl _) rfl
theorem conI_c {p : Option Addr} {len cap : Nat} {fg : FuncId} {caps vs : List Value} {bs : List Bool} (hs : SlV Try.prog σ 3 1 p len vs) (hlen : len ≤ 1073741824) (hb : bs.length = len)
    (hc : ∀ τ, Le σ τ → ∀ (i : Nat) v b, vs[i]? = some v → bs[i]? = some b → CallsA Try.prog fg (v :: caps) τ (.bool b) τ) : CallsA Try.prog 84 [.slice p len cap, .func (.func fg) ⟨[]⟩ ⟨caps⟩] σ (.bool (bs.any id)) σ := by
  obtain ⟨N1, c1⟩ := (idxI_run (σ := σ.re.re) (cap := cap) (hs.re.re) hlen hb (fun i v b h1 h2 => hc _ (Le.re' (Le.re' (Le.refl _))) i v b h1 h2)).call (v := .int .i64 (firstTrue bs 0)) rfl
  have hf := firstTrue_any bs 0
  cases h : bs.any id with
  | true => exact pure_c (runs_of ⟨N1, fun N hN => ⟨_, conI_w0.mpr ⟨c1 N hN, by rw [hf, h], rfl, rfl⟩⟩⟩) (Nat.le_refl _) rfl
  | false => exact pure_c (runs_of ⟨N1, fun N hN => ⟨_, conI_w1.mpr ⟨c1 N hN, by rw [hf, h], rfl, rfl⟩⟩⟩) (Nat.le_refl _) rfl
theorem allI1_c {x : Int} {a : Addr} {g : FuncId} {gc : List Value} {b : Bool} (hr : Row σ a [.func (.func g) ⟨[]⟩ ⟨gc⟩]) (hc : ∀ τ, Le σ τ → CallsA Try.prog g (intV x :: gc) τ (.bool b) τ) :
    CallsA Try.prog 85 [intV x, .pointer (some a)] σ (.bool (!b)) σ := by
  obtain ⟨N1, c1⟩ := hc (σ.re) (Le.re' (Le.refl _))
  have hr := hr.re
  cases b with
  | true => exact pure_c (runs_of ⟨N1, fun N hN => ⟨_, allI1_w0.mpr ⟨hr.ld1 agg117, c1 N hN, rfl, rfl⟩⟩⟩) (Nat.le_refl _) rfl
  | false => exact pure_c (runs_of ⟨N1, fun N hN => ⟨_, allI1_w1.mpr ⟨hr.ld1 agg117, c1 N hN, rfl, rfl⟩⟩⟩) (Nat.le_refl _) rfl
theorem allI_c {p : Option Addr} {len cap : Nat} {g : FuncId} {gc : List Value} {xs : List Int} {f : Int → Bool} (hs : SlV Try.prog σ 3 1 p len (xs.map intV)) (hlen : len ≤ 1073741824)
    (hc : ∀ τ x, Le σ τ → CallsA Try.prog g (intV x :: gc) τ (.bool (f x)) τ) : CallsA Try.prog 66 [.slice p len cap, .func (.func g) ⟨[]⟩ ⟨gc⟩] σ (.bool (xs.all f)) σ := by
  have h0 : Le σ (σ.re.row [.func (.func g) ⟨[]⟩ ⟨gc⟩] 1) := (Le.re' (Le.refl _)).trans (Le.row _ _ _)
  obtain ⟨N1, c1⟩ := conI_c (σ := σ.re.row [.func (.func g) ⟨[]⟩ ⟨gc⟩] 1) (cap := cap) (fg := 85) (caps := [.pointer (some ⟨σ.next, 0, none⟩)]) (bs := (xs.map f).map (!·)) (hs.le h0) hlen
    (by have := hs.2.1; simpa using this) (fun τ hτ i v b hv hb => by
      simp only [List.getElem?_map] at hv hb
      cases hx : xs[i]? with
      | none => rw [hx] at hv; cases hv
      | some x =>
        rw [hx] at hv hb
        simp only [Option.map_some, Option.some.injEq] at hv hb
        subst hv; subst hb
        exact allI1_c ((row_new σ.re [.func (.func g) ⟨[]⟩ ⟨gc⟩] 1).le hτ) (fun τ' h' => hc τ' x ((h0.trans hτ).trans h')))
  have hf := any_not (xs.map f)
  have e : xs.all f = (xs.map f).all id := by simp [List.all_map]
  rw [e]
  rw [hf] at c1
  cases h : (xs.map f).all id with
  | true => rw [h] at c1; exact pure_c (runs_of ⟨N1, fun N hN => ⟨_, allI_w1.mpr ⟨c1 N hN, rfl, rfl⟩⟩⟩) (Nat.le_refl _) rfl
  | false => rw [h] at c1; exact pure_c (runs_of ⟨N1, fun N hN => ⟨_, allI_w0.mpr ⟨c1 N hN, rfl, rfl⟩⟩⟩) (Nat.le_refl _) rfl

/-! ### A garage -/
structure Gar where
  slots : List Slot
  buses : List Bus
def checkZ (g : Gar) : Int := if 12 < g.slots.length ∨ 5 < g.buses.length then 3 else if g.slots.all slotB && g.buses.all busB then 0 else 1
/-- A garage of the program lies there. -/
structure GarP (σ : St) (p : Option Addr) (l : Nat) (q : Option Addr) (m : Nat) (g : Gar) : Prop where
  sl : SlV Try.prog σ 94 2 p l (g.slots.map slotV)
  bu : SlV Try.prog σ 97 9 q m (g.buses.map busV)
theorem GarP.le {σ' : St} {p q : Option Addr} {l m : Nat} {g : Gar} (h : GarP σ p l q m g) (k : Le σ σ') : GarP σ' p l q m g := ⟨h.sl.le k, h.bu.le k⟩
theorem GarP.len1 {p q : Option Addr} {l m : Nat} {g : Gar} (h : GarP σ p l q m g) : g.slots.length = l := by have := h.sl.2.1; simpa using this
theorem GarP.len2 {p q : Option Addr} {l m : Nat} {g : Gar} (h : GarP σ p l q m g) : g.buses.length = m := by have := h.bu.2.1; simpa using this
abbrev garL (p : Option Addr) (l c : Nat) (q : Option Addr) (m d : Nat) : List Value := [.slice p l c, .slice q m d]
theorem le0 (σ : St) : Le σ σ.re := Le.re' (Le.refl _)
theorem check_c {p q : Option Addr} {l c m d : Nat} {g : Gar} (h : GarP σ p l q m g) : CallsA Try.prog 50 [.agg ⟨garL p l c q m d⟩] σ (.int .i64 (checkZ g)) σ := by
  have h1 := h.len1
  have h2 := h.len2
  have hle : Le σ (σ.re.row (garL p l c q m d) 2) := (le0 σ).trans (Le.row _ _ _)
  by_cases k1 : 12 < l
  · rw [show checkZ g = 3 by simp [checkZ, h1, k1]]
    exact pure_c (runs_of ⟨0, fun N hN => ⟨_, check_w0p (ltI_tt (by omega)) ⟨rfl, rfl⟩⟩⟩) (Nat.le_refl _) rfl
  by_cases k2 : 5 < m
  · rw [show checkZ g = 3 by simp [checkZ, h2, k2]]
    exact pure_c (runs_of ⟨0, fun N hN => ⟨_, check_w1p (ltI_ff (by omega)) (ltI_tt (by omega)) ⟨rfl, rfl⟩⟩⟩) (Nat.le_refl _) rfl
  obtain ⟨N1, c1⟩ := allS_c (σ := σ.re.row (garL p l c q m d) 2) (cap := c) (g := 76) (gc := []) (f := slotB) (h.sl.le hle) (by omega) (fun τ x _ => slotValid_c)
  obtain ⟨N2, c2⟩ := allB_c (σ := σ.re.row (garL p l c q m d) 2) (cap := d) (g := 78) (gc := []) (f := busB) (h.bu.le hle) (by omega) (fun τ x _ => busValid_c)
  cases k3 : g.slots.all slotB with
  | false =>
    rw [k3] at c1
    rw [show checkZ g = 1 by simp only [checkZ, h1, h2, k3]; simp; omega]
    exact pure_c (runs_of ⟨N1, fun N hN => ⟨_, check_w4p (ltI_ff (by omega)) (ltI_ff (by omega)) (c1 N hN) ⟨rfl, rfl⟩⟩⟩) (Nat.le_refl _) rfl
  | true =>
    rw [k3] at c1
    cases k4 : g.buses.all busB with
    | false =>
      rw [k4] at c2
      rw [show checkZ g = 1 by simp only [checkZ, h1, h2, k3, k4]; simp; omega]
      exact pure_c (runs_of ⟨N1 + N2, fun N hN => ⟨_, check_w3p (ltI_ff (by omega)) (ltI_ff (by omega)) (c1 N (by omega)) (c2 N (by omega)) ⟨rfl, rfl⟩⟩⟩) (Nat.le_refl _) rfl
    | true =>
      rw [k4] at c2
      rw [show checkZ g = 0 by simp only [checkZ, h1, h2, k3, k4]; simp; omega]
      exact pure_c (runs_of ⟨N1 + N2, fun N hN => ⟨_, check_w2p (ltI_ff (by omega)) (ltI_ff (by omega)) (c1 N (by omega)) (c2 N (by omega)) ⟨rfl, rfl⟩⟩⟩) (Nat.le_refl _) rfl
theorem checkGarage_c {p q : Option Addr} {l c m d : Nat} {g : Gar} (h : GarP σ p l q m g) : CallsA Try.prog 28 [.agg ⟨garL p l c q m d⟩] σ (.int .i64 (checkZ g)) σ := by
  obtain ⟨N1, c1⟩ := check_c (σ := σ.re.row (garL p l c q m d) 2) (c := c) (d := d) (h.le ((le0 σ).trans (Le.row _ _ _)))
  exact pure_c (runs_of ⟨N1, fun N hN => ⟨_, checkGarage_w0p (c1 N hN) ⟨rfl, rfl⟩⟩⟩) (Nat.le_refl _) rfl
/-- A valid garage. -/
theorem check_zero {g : Gar} (h : checkZ g = 0) : g.slots.length ≤ 12 ∧ g.buses.length ≤ 5 ∧ (∀ s ∈ g.slots, slotB s = true) ∧ (∀ b ∈ g.buses, busB b = true) := by
  unfold checkZ at h
  split at h
  · omega
  · split at h
    · rename_i h1 h2
      simp only [Bool.and_eq_true, List.all_eq_true] at h2
      exact ⟨by omega, by omega, h2.1, h2.2⟩
    · omega
theorem busB_iff {b : Bus} (h : busB b = true) : 0 ≤ b.fr ∧ b.fr ≤ b.to ∧ b.to ≤ 12 ∧ 0 ≤ b.rate ∧ b.rate ≤ 1000 ∧ 0 ≤ b.full ∧ b.full ≤ 1000 ∧ 0 ≤ b.floor ∧ b.floor ≤ b.full ∧ 0 ≤ b.hlo ∧ b.hlo ≤ b.hhi ∧ b.hhi ≤ b.full ∧ 0 ≤ b.ulo ∧ b.ulo ≤ b.uhi ∧ b.uhi ≤ b.full - b.floor := by
  simp only [busB, inB, uptoB, Bool.and_eq_true, decide_eq_true_eq] at h
  omega
end
end Go.Proofs.Ythcdddbghldmiaa
