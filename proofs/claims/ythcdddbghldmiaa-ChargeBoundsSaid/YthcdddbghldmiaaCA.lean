
import Derived.Test.YthcdddbghldmiaaXA
namespace Go.Proofs.Ythcdddbghldmiaa
open Go Go.Lay
open Try renaming prog → Pg
set_option linter.unusedVariables false
set_option linter.unusedSimpArgs false
set_option maxRecDepth 20000
structure Slot where
 pw : Int
 pr : Int
structure Bus where
 fr : Int
 to : Int
 rate : Int
 full : Int
 floor : Int
 hlo : Int
 hhi : Int
 ulo : Int
 uhi : Int
abbrev slotL (s : Slot) : List Value := [iV s.pw, iV s.pr]
abbrev slotV (s : Slot) : Value := .agg ⟨slotL s⟩
abbrev busL (b : Bus) : List Value := [iV b.fr, iV b.to, iV b.rate, iV b.full, iV b.floor, iV b.hlo, iV b.hhi, iV b.ulo, iV b.uhi]
abbrev busV (b : Bus) : Value := .agg ⟨busL b⟩
abbrev intV (n : Int) : Value := iV n
def inB (n lo hi : Int) : Bool := decide (lo ≤ n) && decide (n ≤ hi)
def slotB (s : Slot) : Bool := inB s.pw 0 1000 && inB s.pr 0 1000
def uptoB (lo hi most : Int) : Bool := decide (0 ≤ lo) && decide (lo ≤ hi) && decide (hi ≤ most)
def busB (b : Bus) : Bool :=
 inB b.fr 0 b.to && decide (b.to ≤ 12) && inB b.rate 0 1000 && inB b.full 0 1000 && inB b.floor 0 b.full && uptoB b.hlo b.hhi b.full && uptoB b.ulo b.uhi (b.full - b.floor)
def needZ (b : Bus) : Int := max 0 (b.floor + b.uhi - b.hlo)
def thereB (b : Bus) (s : Int) : Bool := decide (b.fr ≤ s) && decide (s < b.to)
theorem inB_iff {n lo hi : Int} : inB n lo hi = true ↔ lo ≤ n ∧ n ≤ hi := by simp [inB]
theorem busB_iff {b : Bus} (h : busB b = true) : 0 ≤ b.fr ∧ b.fr ≤ b.to ∧ b.to ≤ 12 ∧ 0 ≤ b.rate ∧ b.rate ≤ 1000 ∧ 0 ≤ b.full ∧ b.full ≤ 1000 ∧ 0 ≤ b.floor ∧ b.floor ≤ b.full ∧ 0 ≤ b.hlo ∧ b.hlo ≤ b.hhi ∧ b.hhi ≤ b.full ∧ 0 ≤ b.ulo ∧ b.ulo ≤ b.uhi ∧ b.uhi ≤ b.full - b.floor := by
 simp only [busB, inB, uptoB, Bool.and_eq_true, decide_eq_true_eq] at h
 omega
theorem take_snoc {α : Type} {xs : List α} {i : Nat} {x : α} (h : xs[i]? = some x) : xs.take (i + 1) = xs.take i ++ [x] := by
 rw [List.take_add_one, h]; rfl
theorem all_snoc {α : Type} {xs : List α} {i : Nat} {x : α} {f : α → Bool} (h : xs[i]? = some x) (ha : (xs.take i).all f = true) : (xs.take (i + 1)).all f = f x := by
 rw [take_snoc h, List.all_append, ha]; simp
theorem all_false {α : Type} {xs : List α} {i : Nat} {f : α → Bool} (h : (xs.take i).all f = false) : xs.all f = false := by
 cases hx : xs.all f with
 | false => rfl
 | true =>
  have : (xs.take i).all f = true := List.all_eq_true.2 (fun x hx2 => List.all_eq_true.1 hx x (List.mem_of_mem_take hx2))
  rw [this] at h; cases h
theorem max_see {a b : Int} {σ : St} : seeOp Pg (evL [iV a, iV b]) σ (.call { callee := .builtin .max, args := ⟨tmpsTo 2⟩, argTypes := ⟨[3, 3]⟩ }) = some (iV (max a b)) := by
 have e : pureVal Pg (Builtin.max_ ⟨[3, 3]⟩ 0 ⟨[iV a, iV b]⟩) = some (iV (max a b)) := by
  rw [show max a b = if a < b then b else a by split <;> omega]
  simp only [Builtin.max_, List.foldlM, Builtin.max2]
  rfl
 have e2 : seeOp Pg (evL [iV a, iV b]) σ (.call { callee := .builtin .max, args := ⟨tmpsTo 2⟩, argTypes := ⟨[3, 3]⟩ }) =
   match ((pureVal Pg (Builtin.max_ ⟨[3, 3]⟩ 0 ⟨[iV a, iV b]⟩)).filter (rigidB RD)) with | some v => some v | none => lookOp Pg (evL [iV a, iV b]) σ (.call { callee := .builtin .max, args := ⟨tmpsTo 2⟩, argTypes := ⟨[3, 3]⟩ }) := rfl
 rw [e2, e]; rfl
theorem min_see {a b : Int} {σ : St} : seeOp Pg (evL [iV a, iV b]) σ (.call { callee := .builtin .min, args := ⟨tmpsTo 2⟩, argTypes := ⟨[3, 3]⟩ }) = some (iV (min a b)) := by
 have e : pureVal Pg (Builtin.min_ ⟨[3, 3]⟩ 0 ⟨[iV a, iV b]⟩) = some (iV (min a b)) := by
  rw [show min a b = if b < a then b else a by split <;> omega]
  simp only [Builtin.min_, List.foldlM, Builtin.min2]
  rfl
 have e2 : seeOp Pg (evL [iV a, iV b]) σ (.call { callee := .builtin .min, args := ⟨tmpsTo 2⟩, argTypes := ⟨[3, 3]⟩ }) =
   match ((pureVal Pg (Builtin.min_ ⟨[3, 3]⟩ 0 ⟨[iV a, iV b]⟩)).filter (rigidB RD)) with | some v => some v | none => lookOp Pg (evL [iV a, iV b]) σ (.call { callee := .builtin .min, args := ⟨tmpsTo 2⟩, argTypes := ⟨[3, 3]⟩ }) := rfl
 rw [e2, e]; rfl
section
variable {σ : St}
theorem le0 (σ : St) : Le σ σ.re := Le.re' (Le.refl _)
theorem slv_at {α : Type} {t n len i : Nat} {p : Option Addr} {xs : List α} {f : α → Value} (h : SlV Pg σ t n p len (xs.map f)) (hi : i < len) : ∃ a, p = some a ∧ ∃ x, xs[i]? = some x ∧ loadA Pg σ t (aadd a (Int.toNat (i : Int) * n)) = some (f x) := by
 obtain ⟨a, rfl, _⟩ := h.some hi
 have hl : i < xs.length := by have := h.2.1; simp at this; omega
 exact ⟨a, rfl, xs[i], by simp, h.at rfl (by simp [hl])⟩
theorem within_c {n lo hi : Int} : CallsA Pg 64 [iV n, iV lo, iV hi] σ (.bool (inB n lo hi)) σ := by
 by_cases h1 : lo ≤ n <;> by_cases h2 : n ≤ hi
 ·exact (within_ra ⟨by simp [inB, h1, h2], Nat.le_refl _⟩).pure
 ·exact (within_rb ⟨by simp [inB, h1, h2], Nat.le_refl _⟩).pure
 ·exact (within_rc ⟨by simp [inB, h1], Nat.le_refl _⟩).pure
 ·exact (within_rc ⟨by simp [inB, h1], Nat.le_refl _⟩).pure
theorem rIn_c {n lo hi : Int} : CallsA Pg 56 [iV n, iV lo, iV hi] σ (.bool (inB n lo hi)) σ := by
 by_cases h1 : lo ≤ n <;> by_cases h2 : n ≤ hi
 ·exact (rIn_ra ⟨by simp [inB, h1, h2], Nat.le_refl _⟩).pure
 ·exact (rIn_rb ⟨by simp [inB, h1, h2], Nat.le_refl _⟩).pure
 ·exact (rIn_rc ⟨by simp [inB, h1], Nat.le_refl _⟩).pure
 ·exact (rIn_rc ⟨by simp [inB, h1], Nat.le_refl _⟩).pure
theorem units_c {n : Int} : CallsA Pg 90 [iV n] σ (.bool (inB n 0 1000)) σ := (units_ra within_c ⟨rfl, Nat.le_refl _⟩).pure
theorem upto_c {lo hi most : Int} : CallsA Pg 93 [.agg ⟨[iV lo, iV hi]⟩, iV most] σ (.bool (uptoB lo hi most)) σ := by
 by_cases h1 : 0 ≤ lo <;> by_cases h2 : lo ≤ hi <;> by_cases h3 : hi ≤ most
 all_goals first
  | exact (upto_ra ⟨by simp [uptoB, h1, h2, h3], Nat.le_refl _⟩).pure
  | exact (upto_rb ⟨by simp [uptoB, h1, h2, h3], Nat.le_refl _⟩).pure
  | exact (upto_rc ⟨by simp [uptoB, h1, h2], Nat.le_refl _⟩).pure
  | exact (upto_rd ⟨by simp [uptoB, h1], Nat.le_refl _⟩).pure
theorem slotValid_c {s : Slot} : CallsA Pg 76 [slotV s] σ (.bool (slotB s)) σ := by
 unfold slotB
 have u1 := units_c (n := s.pw) (σ := σ.re.row (slotL s) 2)
 have u2 := units_c (n := s.pr) (σ := σ.re.row (slotL s) 2)
 cases h1 : inB s.pw 0 1000 with
 | true => rw [h1] at u1; exact (slotValid_ra u1 u2 ⟨by simp, Nat.le_refl _⟩).pure
 | false => rw [h1] at u1; exact (slotValid_rb u1 ⟨rfl, Nat.le_refl _⟩).pure
theorem busValid_c {b : Bus} : CallsA Pg 78 [busV b] σ (.bool (busB b)) σ := by
 unfold busB
 have u1 := within_c (n := b.fr) (lo := 0) (hi := b.to) (σ := σ.re.row (busL b) 9)
 have u2 := units_c (n := b.rate) (σ := σ.re.row (busL b) 9)
 have u3 := units_c (n := b.full) (σ := σ.re.row (busL b) 9)
 have u4 := within_c (n := b.floor) (lo := 0) (hi := b.full) (σ := σ.re.row (busL b) 9)
 have u5 := upto_c (lo := b.hlo) (hi := b.hhi) (most := b.full) (σ := σ.re.row (busL b) 9)
 have u6 := upto_c (lo := b.ulo) (hi := b.uhi) (most := b.full - b.floor) (σ := σ.re.row (busL b) 9)
 cases h1 : inB b.fr 0 b.to with
 | false => rw [h1] at u1; exact (busValid_rg u1 ⟨by simp, Nat.le_refl _⟩).pure
 | true =>
 rw [h1] at u1
 by_cases h12 : b.to ≤ 12
 ·cases h2 : inB b.rate 0 1000 with
  | false => rw [h2] at u2; exact (busValid_re u1 u2 ⟨by simp, Nat.le_refl _⟩).pure
  | true =>
  rw [h2] at u2
  cases h3 : inB b.full 0 1000 with
  | false => rw [h3] at u3; exact (busValid_rd u1 u2 u3 ⟨by simp, Nat.le_refl _⟩).pure
  | true =>
  rw [h3] at u3
  cases h4 : inB b.floor 0 b.full with
  | false => rw [h4] at u4; exact (busValid_rc u1 u2 u3 u4 ⟨by simp, Nat.le_refl _⟩).pure
  | true =>
  rw [h4] at u4
  cases h5 : uptoB b.hlo b.hhi b.full with
  | false => rw [h5] at u5; exact (busValid_rb u1 u2 u3 u4 u5 ⟨by simp, Nat.le_refl _⟩).pure
  | true =>
   rw [h5] at u5
   have := inB_iff.1 h3; have := inB_iff.1 h4
   exact (busValid_ra u1 u2 u3 u4 u5 u6 ⟨by simp [h12], Nat.le_refl _⟩).pure
 ·exact (busValid_rf u1 ⟨by simp [h12], Nat.le_refl _⟩).pure
theorem idxI_c {p : Option Addr} {len cap : Nat} {g : FuncId} {gc : List Value} {xs : List Int} {f : Int → Bool} (hs : SlV Pg σ 3 1 p len (xs.map intV)) (hlen : len ≤ 1073741824)
  (hc : ∀ x ∈ xs, ∀ τ, Le σ τ → CallsA Pg g (intV x :: gc) τ (.bool (f x)) τ) : ∃ r : Int, CallsA Pg 94 [.slice p len cap, .func (.func g) ⟨[]⟩ ⟨gc⟩] σ (iV r) σ ∧ (0 ≤ r ↔ xs.any f = true) := by
 have hl : xs.length = len := by have := hs.2.1; simpa using this
 have key : RunsQ Pg 94 [.slice p len cap, .func (.func g) ⟨[]⟩ ⟨gc⟩] σ.re fun v s => (∃ r : Int, v = iV r ∧ (0 ≤ r ↔ xs.any f = true)) ∧ s = σ.re := by
  refine idxI_ra (idxI_loop1 (Inv := fun k i τ => τ = σ.re ∧ ∃ j : Nat, i = j ∧ j + k = len ∧ (xs.take j).any f = false) (Qr := fun i τ => τ = σ.re ∧ 0 ≤ i ∧ xs.any f = true) (Q0 := fun τ => τ = σ.re ∧ xs.any f = false) ?_ len 0 σ.re ⟨rfl, 0, rfl, by omega, by simp⟩) ?_ ?_
  ·rintro k i τ ⟨rfl, j, rfl, hk, ha⟩
   by_cases hj : j < len
   ·obtain ⟨a, rfl, x, hx, ld⟩ := slv_at hs.re hj
    have c := hc x (List.mem_of_getElem? hx) σ.re (le0 σ)
    cases hf : f x with
    | true =>
     rw [hf] at c
     exact idxI_s1a ld c ⟨rfl, by omega, List.any_eq_true.2 ⟨x, List.mem_of_getElem? hx, hf⟩⟩
    | false =>
     rw [hf] at c
     exact idxI_s1b ld c ⟨k - 1, by omega, rfl, j + 1, by omega, by omega, by rw [take_snoc hx, List.any_append, ha]; simp [hf]⟩
   ·exact idxI_s1c ⟨rfl, by rwa [List.take_of_length_le (by omega)] at ha⟩
  ·rintro i τ ⟨rfl, h1, h2⟩
   exact idxI_t1xra ⟨⟨i, rfl, by simp [h1, h2]⟩, rfl⟩
  ·rintro τ ⟨rfl, h⟩
   exact idxI_t1x0a ⟨⟨-1, rfl, by simp [h]⟩, rfl⟩
 obtain ⟨v, s, h1, ⟨r, rfl, h2⟩, rfl⟩ := key
 exact ⟨r, pure_c h1 (Nat.le_refl _) rfl, h2⟩
theorem conI_c {p : Option Addr} {len cap : Nat} {g : FuncId} {gc : List Value} {xs : List Int} {f : Int → Bool} (hs : SlV Pg σ 3 1 p len (xs.map intV)) (hlen : len ≤ 1073741824)
  (hc : ∀ x ∈ xs, ∀ τ, Le σ τ → CallsA Pg g (intV x :: gc) τ (.bool (f x)) τ) : CallsA Pg 84 [.slice p len cap, .func (.func g) ⟨[]⟩ ⟨gc⟩] σ (.bool (xs.any f)) σ := by
 obtain ⟨r, h1, h2⟩ := idxI_c (σ := σ.re) (cap := cap) hs.re hlen (fun x hx τ hτ => hc x hx τ ((le0 σ).trans hτ))
 cases ha : xs.any f with
 | true => exact (conI_ra h1 ⟨rfl, Nat.le_refl _⟩ (h2.2 ha)).pure
 | false => exact (conI_rb h1 ⟨rfl, Nat.le_refl _⟩ (fun h => by rw [h2.1 h] at ha; cases ha)).pure
theorem allI1_c {x : Int} {a : Addr} {g : FuncId} {gc : List Value} {b : Bool} (hr : Row σ a [.func (.func g) ⟨[]⟩ ⟨gc⟩]) (hc : ∀ τ, Le σ τ → CallsA Pg g (intV x :: gc) τ (.bool b) τ) :
  CallsA Pg 85 [intV x, .pointer (some a)] σ (.bool (!b)) σ := by
 cases b with
 | true => exact (allI1_ra (hr.re.ld1 agg117) (hc _ (le0 σ)) ⟨rfl, Nat.le_refl _⟩).pure
 | false => exact (allI1_rb (hr.re.ld1 agg117) (hc _ (le0 σ)) ⟨rfl, Nat.le_refl _⟩).pure
theorem allI_c {p : Option Addr} {len cap : Nat} {g : FuncId} {gc : List Value} {xs : List Int} {f : Int → Bool} (hs : SlV Pg σ 3 1 p len (xs.map intV)) (hlen : len ≤ 1073741824)
  (hc : ∀ x ∈ xs, ∀ τ, Le σ τ → CallsA Pg g (intV x :: gc) τ (.bool (f x)) τ) : CallsA Pg 66 [.slice p len cap, .func (.func g) ⟨[]⟩ ⟨gc⟩] σ (.bool (xs.all f)) σ := by
 have c := conI_c (σ := σ.re.row [.func (.func g) ⟨[]⟩ ⟨gc⟩] 1) (g := 85) (gc := [.pointer (some ⟨σ.re.next, 0, none⟩)]) (f := fun x => !f x) (cap := cap) hs.re.row hlen
  (fun x hx τ hτ => allI1_c ((row_new _ _ _).le hτ) (fun τ' hτ' => hc x hx τ' ((((le0 σ).trans (Le.row _ _ _)).trans hτ).trans hτ')))
 have e : (xs.any fun x => !f x) = !xs.all f := by rw [List.not_all_eq_any_not]
 rw [e] at c
 cases ha : xs.all f with
 | true => rw [ha] at c; exact (allI_rb c ⟨rfl, Nat.le_refl _⟩).pure
 | false => rw [ha] at c; exact (allI_ra c ⟨rfl, Nat.le_refl _⟩).pure
theorem idxS_c {p : Option Addr} {len cap : Nat} {g : FuncId} {gc : List Value} {xs : List Slot} {f : Slot → Bool} (hs : SlV Pg σ 94 2 p len (xs.map slotV)) (hlen : len ≤ 1073741824)
  (hc : ∀ x ∈ xs, ∀ τ, Le σ τ → CallsA Pg g (slotV x :: gc) τ (.bool (f x)) τ) : ∃ r : Int, CallsA Pg 96 [.slice p len cap, .func (.func g) ⟨[]⟩ ⟨gc⟩] σ (iV r) σ ∧ (0 ≤ r ↔ xs.any f = true) := by
 have hl : xs.length = len := by have := hs.2.1; simpa using this
 have key : RunsQ Pg 96 [.slice p len cap, .func (.func g) ⟨[]⟩ ⟨gc⟩] σ.re fun v s => (∃ r : Int, v = iV r ∧ (0 ≤ r ↔ xs.any f = true)) ∧ s = σ.re := by
  refine idxS_ra (idxS_loop1 (Inv := fun k i τ => τ = σ.re ∧ ∃ j : Nat, i = j ∧ j + k = len ∧ (xs.take j).any f = false) (Qr := fun i τ => τ = σ.re ∧ 0 ≤ i ∧ xs.any f = true) (Q0 := fun τ => τ = σ.re ∧ xs.any f = false) ?_ len 0 σ.re ⟨rfl, 0, rfl, by omega, by simp⟩) ?_ ?_
  ·rintro k i τ ⟨rfl, j, rfl, hk, ha⟩
   by_cases hj : j < len
   ·obtain ⟨a, rfl, x, hx, ld⟩ := slv_at hs.re hj
    have c := hc x (List.mem_of_getElem? hx) σ.re (le0 σ)
    cases hf : f x with
    | true =>
     rw [hf] at c
     exact idxS_s1a ld c ⟨rfl, by omega, List.any_eq_true.2 ⟨x, List.mem_of_getElem? hx, hf⟩⟩
    | false =>
     rw [hf] at c
     exact idxS_s1b ld c ⟨k - 1, by omega, rfl, j + 1, by omega, by omega, by rw [take_snoc hx, List.any_append, ha]; simp [hf]⟩
   ·exact idxS_s1c ⟨rfl, by rwa [List.take_of_length_le (by omega)] at ha⟩
  ·rintro i τ ⟨rfl, h1, h2⟩
   exact idxS_t1xra ⟨⟨i, rfl, by simp [h1, h2]⟩, rfl⟩
  ·rintro τ ⟨rfl, h⟩
   exact idxS_t1x0a ⟨⟨-1, rfl, by simp [h]⟩, rfl⟩
 obtain ⟨v, s, h1, ⟨r, rfl, h2⟩, rfl⟩ := key
 exact ⟨r, pure_c h1 (Nat.le_refl _) rfl, h2⟩
theorem conS_c {p : Option Addr} {len cap : Nat} {g : FuncId} {gc : List Value} {xs : List Slot} {f : Slot → Bool} (hs : SlV Pg σ 94 2 p len (xs.map slotV)) (hlen : len ≤ 1073741824)
  (hc : ∀ x ∈ xs, ∀ τ, Le σ τ → CallsA Pg g (slotV x :: gc) τ (.bool (f x)) τ) : CallsA Pg 88 [.slice p len cap, .func (.func g) ⟨[]⟩ ⟨gc⟩] σ (.bool (xs.any f)) σ := by
 obtain ⟨r, h1, h2⟩ := idxS_c (σ := σ.re) (cap := cap) hs.re hlen (fun x hx τ hτ => hc x hx τ ((le0 σ).trans hτ))
 cases ha : xs.any f with
 | true => exact (conS_ra h1 ⟨rfl, Nat.le_refl _⟩ (h2.2 ha)).pure
 | false => exact (conS_rb h1 ⟨rfl, Nat.le_refl _⟩ (fun h => by rw [h2.1 h] at ha; cases ha)).pure
theorem allS1_c {x : Slot} {a : Addr} {g : FuncId} {gc : List Value} {b : Bool} (hr : Row σ a [.func (.func g) ⟨[]⟩ ⟨gc⟩]) (hc : ∀ τ, Le σ τ → CallsA Pg g (slotV x :: gc) τ (.bool b) τ) :
  CallsA Pg 89 [slotV x, .pointer (some a)] σ (.bool (!b)) σ := by
 cases b with
 | true => exact (allS1_ra (hr.re.row.ld1 agg134) (hc _ ((le0 σ).trans (Le.row _ _ _))) ⟨rfl, Nat.le_refl _⟩).pure
 | false => exact (allS1_rb (hr.re.row.ld1 agg134) (hc _ ((le0 σ).trans (Le.row _ _ _))) ⟨rfl, Nat.le_refl _⟩).pure
theorem allS_c {p : Option Addr} {len cap : Nat} {g : FuncId} {gc : List Value} {xs : List Slot} {f : Slot → Bool} (hs : SlV Pg σ 94 2 p len (xs.map slotV)) (hlen : len ≤ 1073741824)
  (hc : ∀ x ∈ xs, ∀ τ, Le σ τ → CallsA Pg g (slotV x :: gc) τ (.bool (f x)) τ) : CallsA Pg 75 [.slice p len cap, .func (.func g) ⟨[]⟩ ⟨gc⟩] σ (.bool (xs.all f)) σ := by
 have c := conS_c (σ := σ.re.row [.func (.func g) ⟨[]⟩ ⟨gc⟩] 1) (g := 89) (gc := [.pointer (some ⟨σ.re.next, 0, none⟩)]) (f := fun x => !f x) (cap := cap) hs.re.row hlen
  (fun x hx τ hτ => allS1_c ((row_new _ _ _).le hτ) (fun τ' hτ' => hc x hx τ' ((((le0 σ).trans (Le.row _ _ _)).trans hτ).trans hτ')))
 have e : (xs.any fun x => !f x) = !xs.all f := by rw [List.not_all_eq_any_not]
 rw [e] at c
 cases ha : xs.all f with
 | true => rw [ha] at c; exact (allS_rb c ⟨rfl, Nat.le_refl _⟩).pure
 | false => rw [ha] at c; exact (allS_ra c ⟨rfl, Nat.le_refl _⟩).pure
theorem idxB_c {p : Option Addr} {len cap : Nat} {g : FuncId} {gc : List Value} {xs : List Bus} {f : Bus → Bool} (hs : SlV Pg σ 97 9 p len (xs.map busV)) (hlen : len ≤ 1073741824)
  (hc : ∀ x ∈ xs, ∀ τ, Le σ τ → CallsA Pg g (busV x :: gc) τ (.bool (f x)) τ) : ∃ r : Int, CallsA Pg 97 [.slice p len cap, .func (.func g) ⟨[]⟩ ⟨gc⟩] σ (iV r) σ ∧ (0 ≤ r ↔ xs.any f = true) := by
 have hl : xs.length = len := by have := hs.2.1; simpa using this
 have key : RunsQ Pg 97 [.slice p len cap, .func (.func g) ⟨[]⟩ ⟨gc⟩] σ.re fun v s => (∃ r : Int, v = iV r ∧ (0 ≤ r ↔ xs.any f = true)) ∧ s = σ.re := by
  refine idxB_ra (idxB_loop1 (Inv := fun k i τ => τ = σ.re ∧ ∃ j : Nat, i = j ∧ j + k = len ∧ (xs.take j).any f = false) (Qr := fun i τ => τ = σ.re ∧ 0 ≤ i ∧ xs.any f = true) (Q0 := fun τ => τ = σ.re ∧ xs.any f = false) ?_ len 0 σ.re ⟨rfl, 0, rfl, by omega, by simp⟩) ?_ ?_
  ·rintro k i τ ⟨rfl, j, rfl, hk, ha⟩
   by_cases hj : j < len
   ·obtain ⟨a, rfl, x, hx, ld⟩ := slv_at hs.re hj
    have c := hc x (List.mem_of_getElem? hx) σ.re (le0 σ)
    cases hf : f x with
    | true =>
     rw [hf] at c
     exact idxB_s1a ld c ⟨rfl, by omega, List.any_eq_true.2 ⟨x, List.mem_of_getElem? hx, hf⟩⟩
    | false =>
     rw [hf] at c
     exact idxB_s1b ld c ⟨k - 1, by omega, rfl, j + 1, by omega, by omega, by rw [take_snoc hx, List.any_append, ha]; simp [hf]⟩
   ·exact idxB_s1c ⟨rfl, by rwa [List.take_of_length_le (by omega)] at ha⟩
  ·rintro i τ ⟨rfl, h1, h2⟩
   exact idxB_t1xra ⟨⟨i, rfl, by simp [h1, h2]⟩, rfl⟩
  ·rintro τ ⟨rfl, h⟩
   exact idxB_t1x0a ⟨⟨-1, rfl, by simp [h]⟩, rfl⟩
 obtain ⟨v, s, h1, ⟨r, rfl, h2⟩, rfl⟩ := key
 exact ⟨r, pure_c h1 (Nat.le_refl _) rfl, h2⟩
theorem conB_c {p : Option Addr} {len cap : Nat} {g : FuncId} {gc : List Value} {xs : List Bus} {f : Bus → Bool} (hs : SlV Pg σ 97 9 p len (xs.map busV)) (hlen : len ≤ 1073741824)
  (hc : ∀ x ∈ xs, ∀ τ, Le σ τ → CallsA Pg g (busV x :: gc) τ (.bool (f x)) τ) : CallsA Pg 91 [.slice p len cap, .func (.func g) ⟨[]⟩ ⟨gc⟩] σ (.bool (xs.any f)) σ := by
 obtain ⟨r, h1, h2⟩ := idxB_c (σ := σ.re) (cap := cap) hs.re hlen (fun x hx τ hτ => hc x hx τ ((le0 σ).trans hτ))
 cases ha : xs.any f with
 | true => exact (conB_ra h1 ⟨rfl, Nat.le_refl _⟩ (h2.2 ha)).pure
 | false => exact (conB_rb h1 ⟨rfl, Nat.le_refl _⟩ (fun h => by rw [h2.1 h] at ha; cases ha)).pure
theorem allB1_c {x : Bus} {a : Addr} {g : FuncId} {gc : List Value} {b : Bool} (hr : Row σ a [.func (.func g) ⟨[]⟩ ⟨gc⟩]) (hc : ∀ τ, Le σ τ → CallsA Pg g (busV x :: gc) τ (.bool b) τ) :
  CallsA Pg 92 [busV x, .pointer (some a)] σ (.bool (!b)) σ := by
 cases b with
 | true => exact (allB1_ra (hr.re.row.ld1 agg137) (hc _ ((le0 σ).trans (Le.row _ _ _))) ⟨rfl, Nat.le_refl _⟩).pure
 | false => exact (allB1_rb (hr.re.row.ld1 agg137) (hc _ ((le0 σ).trans (Le.row _ _ _))) ⟨rfl, Nat.le_refl _⟩).pure
theorem allB_c {p : Option Addr} {len cap : Nat} {g : FuncId} {gc : List Value} {xs : List Bus} {f : Bus → Bool} (hs : SlV Pg σ 97 9 p len (xs.map busV)) (hlen : len ≤ 1073741824)
  (hc : ∀ x ∈ xs, ∀ τ, Le σ τ → CallsA Pg g (busV x :: gc) τ (.bool (f x)) τ) : CallsA Pg 77 [.slice p len cap, .func (.func g) ⟨[]⟩ ⟨gc⟩] σ (.bool (xs.all f)) σ := by
 have c := conB_c (σ := σ.re.row [.func (.func g) ⟨[]⟩ ⟨gc⟩] 1) (g := 92) (gc := [.pointer (some ⟨σ.re.next, 0, none⟩)]) (f := fun x => !f x) (cap := cap) hs.re.row hlen
  (fun x hx τ hτ => allB1_c ((row_new _ _ _).le hτ) (fun τ' hτ' => hc x hx τ' ((((le0 σ).trans (Le.row _ _ _)).trans hτ).trans hτ')))
 have e : (xs.any fun x => !f x) = !xs.all f := by rw [List.not_all_eq_any_not]
 rw [e] at c
 cases ha : xs.all f with
 | true => rw [ha] at c; exact (allB_rb c ⟨rfl, Nat.le_refl _⟩).pure
 | false => rw [ha] at c; exact (allB_ra c ⟨rfl, Nat.le_refl _⟩).pure
structure Gar where
 slots : List Slot
 buses : List Bus
def checkZ (g : Gar) : Int := if 12 < g.slots.length ∨ 5 < g.buses.length then 3 else if g.slots.all slotB && g.buses.all busB then 0 else 1
structure GarP (σ : St) (p : Option Addr) (l : Nat) (q : Option Addr) (m : Nat) (g : Gar) : Prop where
 sl : SlV Pg σ 94 2 p l (g.slots.map slotV)
 bu : SlV Pg σ 97 9 q m (g.buses.map busV)
theorem GarP.le {σ' : St} {p q : Option Addr} {l m : Nat} {g : Gar} (h : GarP σ p l q m g) (k : Le σ σ') : GarP σ' p l q m g := ⟨h.sl.le k, h.bu.le k⟩
theorem GarP.len1 {p q : Option Addr} {l m : Nat} {g : Gar} (h : GarP σ p l q m g) : g.slots.length = l := by have := h.sl.2.1; simpa using this
theorem GarP.len2 {p q : Option Addr} {l m : Nat} {g : Gar} (h : GarP σ p l q m g) : g.buses.length = m := by have := h.bu.2.1; simpa using this
abbrev garL (p : Option Addr) (l c : Nat) (q : Option Addr) (m d : Nat) : List Value := [.slice p l c, .slice q m d]
theorem check_zero {g : Gar} (h : checkZ g = 0) : g.slots.length ≤ 12 ∧ g.buses.length ≤ 5 ∧ (∀ s ∈ g.slots, slotB s = true) ∧ (∀ b ∈ g.buses, busB b = true) := by
 unfold checkZ at h
 split at h
 ·omega
 ·split at h
  ·rename_i h1 h2
   simp only [Bool.and_eq_true, List.all_eq_true] at h2
   exact ⟨by omega, by omega, h2.1, h2.2⟩
  ·omega
theorem check_c {p q : Option Addr} {l c m d : Nat} {g : Gar} (h : GarP σ p l q m g) : CallsA Pg 50 [.agg ⟨garL p l c q m d⟩] σ (iV (checkZ g)) σ := by
 have h1 := h.len1; have h2 := h.len2
 unfold checkZ
 by_cases hl : 12 < l
 ·rw [if_pos (by omega)]; exact (check_ra ⟨rfl, Nat.le_refl _⟩).pure
 by_cases hm : 5 < m
 ·rw [if_pos (by omega)]; exact (check_rb ⟨rfl, Nat.le_refl _⟩).pure
 rw [if_neg (by omega)]
 have hle : Le σ (σ.re.row (garL p l c q m d) 2) := (le0 σ).trans (Le.row _ _ _)
 have cs := allS_c (cap := c) (h.sl.le hle) (by omega) (fun x _ τ _ => slotValid_c)
 have cb := allB_c (cap := d) (h.bu.le hle) (by omega) (fun x _ τ _ => busValid_c)
 cases hs : g.slots.all slotB with
 | false => rw [hs] at cs; exact (check_re cs ⟨rfl, Nat.le_refl _⟩).pure
 | true =>
  rw [hs] at cs
  cases hb : g.buses.all busB with
  | false => rw [hb] at cb; exact (check_rd cs cb ⟨rfl, Nat.le_refl _⟩).pure
  | true => rw [hb] at cb; exact (check_rc cs cb ⟨rfl, Nat.le_refl _⟩).pure
theorem smax_c {p : Option Addr} {len cap : Nat} {x : Int} {xs : List Int} (h : SlV Pg σ 3 1 p len ((x :: xs).map intV)) (hlen : len ≤ 1073741824) : CallsA Pg 87 [.slice p len cap] σ (iV (xs.foldl max x)) σ := by
 have hl : xs.length + 1 = len := by have := h.2.1; simpa using this
 obtain ⟨a, rfl, y, hy, ld⟩ := slv_at (i := 0) h.re (by omega)
 have hy : x = y := by simpa using hy
 subst hy
 refine (smax_ra (by simpa [aadd] using ld) (smax_loop1 (Inv := fun k n i τ => τ = σ.re ∧ ∃ j : Nat, i = j + 1 ∧ j + k = xs.length ∧ n = (xs.take j).foldl max x) (Q0 := fun n τ => τ = σ.re ∧ n = xs.foldl max x) ?_ xs.length x 1 σ.re ⟨rfl, 0, by omega, by omega, by simp⟩) ?_).pure
 ·rintro k n i τ ⟨rfl, j, rfl, hk, rfl⟩
  by_cases hj : j < xs.length
  ·obtain ⟨_, e, y, hy, ld⟩ := slv_at (i := j + 1) h.re (by omega)
   cases e
   have hy : xs[j]? = some y := by simpa using hy
   exact smax_s1a (by simpa using ld) max_see ⟨k - 1, by omega, rfl, j + 1, by omega, by omega, by rw [take_snoc hy, List.foldl_append]; rfl⟩
  ·exact smax_s1b ⟨rfl, by rw [List.take_of_length_le (by omega)]⟩
 ·rintro n τ ⟨rfl, rfl⟩
  exact smax_t1x0a ⟨rfl, Nat.le_refl _⟩
theorem greater_c {p : Option Addr} {len cap : Nat} {x : Int} {xs : List Int} (h : SlV Pg σ 3 1 p len ((x :: xs).map intV)) (hlen : len ≤ 1073741824) : CallsA Pg 70 [.slice p len cap] σ (iV (xs.foldl max x)) σ :=
 (greater_ra (smax_c h.re hlen) ⟨rfl, Nat.le_refl _⟩).pure
theorem smin_c {p : Option Addr} {len cap : Nat} {x : Int} {xs : List Int} (h : SlV Pg σ 3 1 p len ((x :: xs).map intV)) (hlen : len ≤ 1073741824) : CallsA Pg 83 [.slice p len cap] σ (iV (xs.foldl min x)) σ := by
 have hl : xs.length + 1 = len := by have := h.2.1; simpa using this
 obtain ⟨a, rfl, y, hy, ld⟩ := slv_at (i := 0) h.re (by omega)
 have hy : x = y := by simpa using hy
 subst hy
 refine (smin_ra (by simpa [aadd] using ld) (smin_loop1 (Inv := fun k n i τ => τ = σ.re ∧ ∃ j : Nat, i = j + 1 ∧ j + k = xs.length ∧ n = (xs.take j).foldl min x) (Q0 := fun n τ => τ = σ.re ∧ n = xs.foldl min x) ?_ xs.length x 1 σ.re ⟨rfl, 0, by omega, by omega, by simp⟩) ?_).pure
 ·rintro k n i τ ⟨rfl, j, rfl, hk, rfl⟩
  by_cases hj : j < xs.length
  ·obtain ⟨_, e, y, hy, ld⟩ := slv_at (i := j + 1) h.re (by omega)
   cases e
   have hy : xs[j]? = some y := by simpa using hy
   exact smin_s1a (by simpa using ld) min_see ⟨k - 1, by omega, rfl, j + 1, by omega, by omega, by rw [take_snoc hy, List.foldl_append]; rfl⟩
  ·exact smin_s1b ⟨rfl, by rw [List.take_of_length_le (by omega)]⟩
 ·rintro n τ ⟨rfl, rfl⟩
  exact smin_t1x0a ⟨rfl, Nat.le_refl _⟩
theorem lesser_c {p : Option Addr} {len cap : Nat} {x : Int} {xs : List Int} (h : SlV Pg σ 3 1 p len ((x :: xs).map intV)) (hlen : len ≤ 1073741824) : CallsA Pg 62 [.slice p len cap] σ (iV (xs.foldl min x)) σ :=
 (lesser_ra (smin_c h.re hlen) ⟨rfl, Nat.le_refl _⟩).pure
theorem slv_two (a b : Int) : SlV Pg (σ.row [iV a, iV b] 1) 3 1 (some ⟨σ.next, 0, none⟩) 2 ([a, b].map intV) :=
 ⟨(row_new σ [iV a, iV b] 1).sl (n := 1) (len := 2) rfl, rfl, by
  intro v hv; simp at hv; rcases hv with rfl | rfl <;> exact .inl ⟨agg3, rfl, rfl⟩⟩
theorem greater2_c {a b : Int} : CallsA Pg 70 [.slice (some ⟨σ.next, 0, none⟩) 2 2] (σ.row [iV a, iV b] 1) (iV (max a b)) (σ.row [iV a, iV b] 1) :=
 greater_c (xs := [b]) (slv_two a b) (by omega)
theorem lesser2_c {a b : Int} : CallsA Pg 62 [.slice (some ⟨σ.next, 0, none⟩) 2 2] (σ.row [iV a, iV b] 1) (iV (min a b)) (σ.row [iV a, iV b] 1) :=
 lesser_c (xs := [b]) (slv_two a b) (by omega)
theorem need_c {b : Bus} (h : busB b = true) : CallsA Pg 58 [busV b] σ (iV (needZ b)) σ := by
 have := busB_iff h
 exact (need_ra (greater2_c (σ := σ.re.row (busL b) 9)) ⟨rfl, Nat.le_refl _⟩).pure
theorem rNeed_c {b : Bus} (h : busB b = true) : CallsA Pg 30 [busV b] σ (iV (needZ b)) σ := by
 have := busB_iff h
 exact (rNeed_ra max_see ⟨rfl, Nat.le_refl _⟩).pure
theorem rThere_c {b : Bus} {s : Int} : CallsA Pg 57 [busV b, iV s] σ (.bool (thereB b s)) σ := by
 by_cases h1 : b.fr ≤ s <;> by_cases h2 : s < b.to
 ·exact (rThere_ra ⟨by simp [thereB, h1, h2], Nat.le_refl _⟩).pure
 ·exact (rThere_rb ⟨by simp [thereB, h1, h2], Nat.le_refl _⟩).pure
 ·exact (rThere_rc ⟨by simp [thereB, h1], Nat.le_refl _⟩).pure
 ·exact (rThere_rc ⟨by simp [thereB, h1], Nat.le_refl _⟩).pure
theorem busThere_c {b : Bus} {s : Int} (h : busB b = true) : CallsA Pg 81 [busV b, iV s] σ (.bool (thereB b s)) σ := by
 have := busB_iff h
 have c := within_c (n := s) (lo := b.fr) (hi := b.to - 1) (σ := σ.re.row (busL b) 9)
 have e : inB s b.fr (b.to - 1) = thereB b s := by
  unfold inB thereB
  congr 1
  exact decide_eq_decide.2 (by omega)
 rw [e] at c
 exact (busThere_ra c ⟨rfl, Nat.le_refl _⟩).pure
theorem toR_c {lo hi : Int} : CallsA Pg 54 [.agg ⟨[iV lo, iV hi]⟩] σ (.agg ⟨[iV lo, iV hi]⟩) σ := (toR_ra ⟨rfl, by simp⟩).pure
end
end Go.Proofs.Ythcdddbghldmiaa
