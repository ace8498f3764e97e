
import Derived.Test.YtmdopblmkkameaaXA
import Derived.Test.YtmdopblmkkameaaXF
namespace Go.Proofs.Ytmdopblmkkameaa
open Go Go.Lay
open Try renaming prog → Pg
set_option linter.unusedVariables false
set_option linter.unusedSimpArgs false
set_option maxRecDepth 20000
structure Trip where
 fr : Int
 to : Int
 st : Int
 least : Int
 most : Int
 kind : Int
deriving DecidableEq
structure Tab where
 places : Int
 layover : Int
 empty : List (List Int)
 trips : List Trip
abbrev zEW (x : Trip) : List Value := zA x.fr x.to x.st x.least x.most x.kind
abbrev vB (x : Trip) : Value := .agg ⟨zEW x⟩
abbrev wM (n : Int) : Value := iV n
def inB (n lo hi : Int) : Bool := decide (lo ≤ n) && decide (n ≤ hi)
theorem zAM {n lo hi : Int} : inB n lo hi = true ↔ lo ≤ n ∧ n ≤ hi := by simp [inB]
def zAP (pl : Int) (x : Trip) : Bool := inB x.fr 0 (pl - 1) && inB x.to 0 (pl - 1) && inB x.st 0 2000 && inB x.least 1 x.most && inB x.most 0 600 && inB x.kind 0 2
theorem tripB_iff {pl : Int} {x : Trip} (h : zAP pl x = true) : 0 ≤ x.fr ∧ x.fr < pl ∧ 0 ≤ x.to ∧ x.to < pl ∧ 0 ≤ x.st ∧ x.st ≤ 2000 ∧ 1 ≤ x.least ∧ x.least ≤ x.most ∧ x.most ≤ 600 ∧ 0 ≤ x.kind ∧ x.kind ≤ 2 := by
 simp only [zAP, inB, Bool.and_eq_true, decide_eq_true_eq] at h
 omega
theorem uS {α : Type} {xs : List α} {i : Nat} {x : α} (h : xs[i]? = some x) : xs.take (i + 1) = xs.take i ++ [x] := by
 rw [List.take_add_one, h]; rfl
theorem all_snoc {α : Type} {xs : List α} {i : Nat} {x : α} {f : α → Bool} (h : xs[i]? = some x) (ha : (xs.take i).all f = true) : (xs.take (i + 1)).all f = f x := by
 rw [uS h, List.all_append, ha]; simp
theorem all_false {α : Type} {xs : List α} {i : Nat} {f : α → Bool} (h : (xs.take i).all f = false) : xs.all f = false := by
 cases hx : xs.all f with
 | false => rfl
 | true =>
  have : (xs.take i).all f = true := List.all_eq_true.2 (fun x hx2 => List.all_eq_true.1 hx x (List.mem_of_mem_take hx2))
  rw [this] at h; cases h
theorem max_see {a b : Int} {σ : St} : yN Pg (evL [iV a, iV b]) σ (.call { callee := .builtin .max, args := ⟨yI 2⟩, argTypes := ⟨[3, 3]⟩ }) = some (iV (max a b)) := by
 have e : yT Pg (Builtin.max_ ⟨[3, 3]⟩ 0 ⟨[iV a, iV b]⟩) = some (iV (max a b)) := by
  rw [show max a b = if a < b then b else a by split <;> omega]
  simp only [Builtin.max_, List.foldlM, Builtin.max2]
  rfl
 have e2 : yN Pg (evL [iV a, iV b]) σ (.call { callee := .builtin .max, args := ⟨yI 2⟩, argTypes := ⟨[3, 3]⟩ }) =
   match ((yT Pg (Builtin.max_ ⟨[3, 3]⟩ 0 ⟨[iV a, iV b]⟩)).filter (zS RD)) with | some v => some v | none => wX Pg (evL [iV a, iV b]) σ (.call { callee := .builtin .max, args := ⟨yI 2⟩, argTypes := ⟨[3, 3]⟩ }) := rfl
 rw [e2, e]; rfl
theorem min_see {a b : Int} {σ : St} : yN Pg (evL [iV a, iV b]) σ (.call { callee := .builtin .min, args := ⟨yI 2⟩, argTypes := ⟨[3, 3]⟩ }) = some (iV (min a b)) := by
 have e : yT Pg (Builtin.min_ ⟨[3, 3]⟩ 0 ⟨[iV a, iV b]⟩) = some (iV (min a b)) := by
  rw [show min a b = if b < a then b else a by split <;> omega]
  simp only [Builtin.min_, List.foldlM, Builtin.min2]
  rfl
 have e2 : yN Pg (evL [iV a, iV b]) σ (.call { callee := .builtin .min, args := ⟨yI 2⟩, argTypes := ⟨[3, 3]⟩ }) =
   match ((yT Pg (Builtin.min_ ⟨[3, 3]⟩ 0 ⟨[iV a, iV b]⟩)).filter (zS RD)) with | some v => some v | none => wX Pg (evL [iV a, iV b]) σ (.call { callee := .builtin .min, args := ⟨yI 2⟩, argTypes := ⟨[3, 3]⟩ }) := rfl
 rw [e2, e]; rfl
section
variable {σ : St}
theorem le0 (σ : St) : Le σ σ.re := Le.re' (Le.refl _)
theorem vP {α : Type} {t n len i : Nat} {p : Option Addr} {xs : List α} {f : α → Value} (h : SlV Pg σ t n p len (xs.map f)) (hi : i < len) : ∃ a, p = some a ∧ ∃ x, xs[i]? = some x ∧ zB Pg σ t (zH a (Int.toNat (i : Int) * n)) = some (f x) := by
 obtain ⟨a, rfl, _⟩ := h.some hi
 have hl : i < xs.length := by have := h.2.1; simp at this; omega
 exact ⟨a, rfl, xs[i], by simp, h.at rfl (by simp [hl])⟩
theorem zEU {n lo hi : Int} : zD Pg 56 [iV n, iV lo, iV hi] σ (.bool (inB n lo hi)) σ := by
 by_cases h1 : lo ≤ n <;> by_cases h2 : n ≤ hi
 ·exact (within_ra ⟨by simp [inB, h1, h2], Nat.le_refl _⟩).pure
 ·exact (within_rb ⟨by simp [inB, h1, h2], Nat.le_refl _⟩).pure
 ·exact (within_rc ⟨by simp [inB, h1], Nat.le_refl _⟩).pure
 ·exact (within_rc ⟨by simp [inB, h1], Nat.le_refl _⟩).pure
theorem rIn_c {n lo hi : Int} : zD Pg 51 [iV n, iV lo, iV hi] σ (.bool (inB n lo hi)) σ := by
 by_cases h1 : lo ≤ n <;> by_cases h2 : n ≤ hi
 ·exact (rIn_ra ⟨by simp [inB, h1, h2], Nat.le_refl _⟩).pure
 ·exact (rIn_rb ⟨by simp [inB, h1, h2], Nat.le_refl _⟩).pure
 ·exact (rIn_rc ⟨by simp [inB, h1], Nat.le_refl _⟩).pure
 ·exact (rIn_rc ⟨by simp [inB, h1], Nat.le_refl _⟩).pure
theorem minutes_c {n : Int} : zD Pg 75 [iV n] σ (.bool (inB n 0 600)) σ := (minutes_ra zEU ⟨rfl, Nat.le_refl _⟩).pure
abbrev yU (σ : St) (p : Option Addr) (l : Nat) (xs : List Int) : Prop := SlV Pg σ 3 1 p l (xs.map wM)
theorem yU.len {σ : St} {p : Option Addr} {l : Nat} {xs : List Int} (h : yU σ p l xs) : xs.length = l := by have := h.2.1; simpa using this
def wU (σ : St) (p : Option Addr) (l : Nat) (rs : List (List Int)) : Prop := ∃ vs : List Value, SlV Pg σ 41 1 p l vs ∧ rs.length = l ∧ ∀ (i : Nat) (r : List Int), rs[i]? = some r → ∃ q c, vs[i]? = some (Value.slice q r.length c) ∧ yU σ q r.length r
theorem wU.le {σ' : St} {p : Option Addr} {l : Nat} {rs : List (List Int)} (h : wU σ p l rs) (k : Le σ σ') : wU σ' p l rs := by
 obtain ⟨vs, h1, h2, h3⟩ := h
 exact ⟨vs, h1.le k, h2, fun i r hi => by obtain ⟨q, c, g1, g2⟩ := h3 i r hi; exact ⟨q, c, g1, g2.le k⟩⟩
theorem wU.len {p : Option Addr} {l : Nat} {rs : List (List Int)} (h : wU σ p l rs) : rs.length = l := h.choose_spec.2.1
theorem wU.row {p : Option Addr} {l i : Nat} {rs : List (List Int)} (h : wU σ p l rs) (hi : i < l) : ∃ a, p = some a ∧ ∃ r q c, rs[i]? = some r ∧ (∀ τ, Le σ τ → zB Pg τ 41 (zH a (Int.toNat (i : Int) * 1)) = some (.slice q r.length c)) ∧ yU σ q r.length r := by
 obtain ⟨vs, h1, h2, h3⟩ := h
 obtain ⟨a, rfl, _⟩ := h1.some hi
 obtain ⟨q, c, g1, g2⟩ := h3 i rs[i] (by simp)
 exact ⟨a, rfl, rs[i], q, c, by simp, fun τ hτ => (h1.le hτ).at rfl g1, g2⟩
theorem idxI_c {p : Option Addr} {len cap : Nat} {g : FuncId} {gc : List Value} {xs : List Int} {f : Int → Bool} (hs : SlV Pg σ 3 1 p len (xs.map wM)) (hlen : len ≤ 1073741824)
  (hc : ∀ x ∈ xs, ∀ τ, Le σ τ → zD Pg g ((wM x :: gc)) τ (.bool (f x)) τ) : ∃ r : Int, zD Pg 95 [.slice p len cap, .func (.func g) ⟨[]⟩ ⟨gc⟩] σ (iV r) σ ∧ (0 ≤ r ↔ xs.any f = true) := by
 have hl : xs.length = len := by have := hs.2.1; simpa using this
 have key : zN Pg 95 [.slice p len cap, .func (.func g) ⟨[]⟩ ⟨gc⟩] σ.re fun v s => (∃ r : Int, v = iV r ∧ (0 ≤ r ↔ xs.any f = true)) ∧ s = σ.re := by
  refine idxI_ra (idxI_loop1 (Inv := fun k i τ => τ = σ.re ∧ ∃ j : Nat, i = j ∧ j + k = len ∧ (xs.take j).any f = false) (Qr := fun i τ => τ = σ.re ∧ 0 ≤ i ∧ xs.any f = true) (Q0 := fun τ => τ = σ.re ∧ xs.any f = false) ?_ len 0 σ.re ⟨rfl, 0, rfl, by omega, by simp⟩) ?_ ?_
  ·rintro k i τ ⟨rfl, j, rfl, hk, ha⟩
   by_cases hj : j < len
   ·obtain ⟨a, rfl, x, hx, ld⟩ := vP hs.re hj
    have c := hc x (List.mem_of_getElem? hx) σ.re (le0 σ)
    cases hf : f x with
    | true =>
     rw [hf] at c
     exact idxI_s1a ld c ⟨rfl, by omega, List.any_eq_true.2 ⟨x, List.mem_of_getElem? hx, hf⟩⟩
    | false =>
     rw [hf] at c
     exact idxI_s1b ld c ⟨k - 1, by omega, rfl, j + 1, by omega, by omega, by rw [uS hx, List.any_append, ha]; simp [hf]⟩
   ·exact idxI_s1c ⟨rfl, by rwa [List.take_of_length_le (by omega)] at ha⟩
  ·rintro i τ ⟨rfl, h1, h2⟩
   exact idxI_t1xra ⟨⟨i, rfl, by simp [h1, h2]⟩, rfl⟩
  ·rintro τ ⟨rfl, h⟩
   exact idxI_t1x0a ⟨⟨-1, rfl, by simp [h]⟩, rfl⟩
 obtain ⟨v, s, h1, ⟨r, rfl, h2⟩, rfl⟩ := key
 exact ⟨r, zJD h1 (Nat.le_refl _) rfl, h2⟩
theorem conI_c {p : Option Addr} {len cap : Nat} {g : FuncId} {gc : List Value} {xs : List Int} {f : Int → Bool} (hs : SlV Pg σ 3 1 p len (xs.map wM)) (hlen : len ≤ 1073741824)
  (hc : ∀ x ∈ xs, ∀ τ, Le σ τ → zD Pg g ((wM x :: gc)) τ (.bool (f x)) τ) : zD Pg 82 [.slice p len cap, .func (.func g) ⟨[]⟩ ⟨gc⟩] σ (.bool (xs.any f)) σ := by
 obtain ⟨r, h1, h2⟩ := idxI_c (σ := σ.re) (cap := cap) hs.re hlen (fun x hx τ hτ => hc x hx τ ((le0 σ).trans hτ))
 cases ha : xs.any f with
 | true => exact (conI_ra h1 ⟨rfl, Nat.le_refl _⟩ (h2.2 ha)).pure
 | false => exact (conI_rb h1 ⟨rfl, Nat.le_refl _⟩ (fun h => by rw [h2.1 h] at ha; cases ha)).pure
theorem allI1_c {x : Int} {a : Addr} {g : FuncId} {gc : List Value} {b : Bool} (hr : Row σ a [.func (.func g) ⟨[]⟩ ⟨gc⟩]) (hc : ∀ τ, Le σ τ → zD Pg g ((wM x :: gc)) τ (.bool b) τ) :
  zD Pg 83 [wM x, .pointer (some a)] σ (.bool (!b)) σ := by
 cases b with
 | true => exact (allI1_ra (hr.re.ld1 agg93) (hc _ (le0 σ)) ⟨rfl, Nat.le_refl _⟩).pure
 | false => exact (allI1_rb (hr.re.ld1 agg93) (hc _ (le0 σ)) ⟨rfl, Nat.le_refl _⟩).pure
theorem allI_c {p : Option Addr} {len cap : Nat} {g : FuncId} {gc : List Value} {xs : List Int} {f : Int → Bool} (hs : SlV Pg σ 3 1 p len (xs.map wM)) (hlen : len ≤ 1073741824)
  (hc : ∀ x ∈ xs, ∀ τ, Le σ τ → zD Pg g ((wM x :: gc)) τ (.bool (f x)) τ) : zD Pg 54 [.slice p len cap, .func (.func g) ⟨[]⟩ ⟨gc⟩] σ (.bool (xs.all f)) σ := by
 have c := conI_c (σ := σ.re.row [.func (.func g) ⟨[]⟩ ⟨gc⟩] 1) (g := 83) (gc := [.pointer (some ⟨σ.re.next, 0, none⟩)]) (f := fun x => !f x) (cap := cap) hs.re.row hlen
  (fun x hx τ hτ => allI1_c ((row_new _ _ _).le hτ) (fun τ' hτ' => hc x hx τ' ((((le0 σ).trans (Le.row _ _ _)).trans hτ).trans hτ')))
 have e : (xs.any fun x => !f x) = !xs.all f := by rw [List.not_all_eq_any_not]
 rw [e] at c
 cases ha : xs.all f with
 | true => rw [ha] at c; exact (allI_rb c ⟨rfl, Nat.le_refl _⟩).pure
 | false => rw [ha] at c; exact (allI_ra c ⟨rfl, Nat.le_refl _⟩).pure
theorem idxT_c {p : Option Addr} {len cap : Nat} {g : FuncId} {ga : List Value} {gc : List Value} {xs : List Trip} {f : Trip → Bool} (hs : SlV Pg σ 79 6 p len (xs.map vB)) (hlen : len ≤ 1073741824)
  (hc : ∀ x ∈ xs, ∀ τ, Le σ τ → zD Pg g (ga ++ (vB x :: gc)) τ (.bool (f x)) τ) : ∃ r : Int, zD Pg 97 [.slice p len cap, .func (.func g) ⟨ga⟩ ⟨gc⟩] σ (iV r) σ ∧ (0 ≤ r ↔ xs.any f = true) := by
 have hl : xs.length = len := by have := hs.2.1; simpa using this
 have key : zN Pg 97 [.slice p len cap, .func (.func g) ⟨ga⟩ ⟨gc⟩] σ.re fun v s => (∃ r : Int, v = iV r ∧ (0 ≤ r ↔ xs.any f = true)) ∧ s = σ.re := by
  refine idxT_ra (idxT_loop1 (Inv := fun k i τ => τ = σ.re ∧ ∃ j : Nat, i = j ∧ j + k = len ∧ (xs.take j).any f = false) (Qr := fun i τ => τ = σ.re ∧ 0 ≤ i ∧ xs.any f = true) (Q0 := fun τ => τ = σ.re ∧ xs.any f = false) ?_ len 0 σ.re ⟨rfl, 0, rfl, by omega, by simp⟩) ?_ ?_
  ·rintro k i τ ⟨rfl, j, rfl, hk, ha⟩
   by_cases hj : j < len
   ·obtain ⟨a, rfl, x, hx, ld⟩ := vP hs.re hj
    have c := hc x (List.mem_of_getElem? hx) σ.re (le0 σ)
    cases hf : f x with
    | true =>
     rw [hf] at c
     exact idxT_s1a ld c ⟨rfl, by omega, List.any_eq_true.2 ⟨x, List.mem_of_getElem? hx, hf⟩⟩
    | false =>
     rw [hf] at c
     exact idxT_s1b ld c ⟨k - 1, by omega, rfl, j + 1, by omega, by omega, by rw [uS hx, List.any_append, ha]; simp [hf]⟩
   ·exact idxT_s1c ⟨rfl, by rwa [List.take_of_length_le (by omega)] at ha⟩
  ·rintro i τ ⟨rfl, h1, h2⟩
   exact idxT_t1xra ⟨⟨i, rfl, by simp [h1, h2]⟩, rfl⟩
  ·rintro τ ⟨rfl, h⟩
   exact idxT_t1x0a ⟨⟨-1, rfl, by simp [h]⟩, rfl⟩
 obtain ⟨v, s, h1, ⟨r, rfl, h2⟩, rfl⟩ := key
 exact ⟨r, zJD h1 (Nat.le_refl _) rfl, h2⟩
theorem conT_c {p : Option Addr} {len cap : Nat} {g : FuncId} {ga : List Value} {gc : List Value} {xs : List Trip} {f : Trip → Bool} (hs : SlV Pg σ 79 6 p len (xs.map vB)) (hlen : len ≤ 1073741824)
  (hc : ∀ x ∈ xs, ∀ τ, Le σ τ → zD Pg g (ga ++ (vB x :: gc)) τ (.bool (f x)) τ) : zD Pg 91 [.slice p len cap, .func (.func g) ⟨ga⟩ ⟨gc⟩] σ (.bool (xs.any f)) σ := by
 obtain ⟨r, h1, h2⟩ := idxT_c (σ := σ.re) (cap := cap) hs.re hlen (fun x hx τ hτ => hc x hx τ ((le0 σ).trans hτ))
 cases ha : xs.any f with
 | true => exact (conT_ra h1 ⟨rfl, Nat.le_refl _⟩ (h2.2 ha)).pure
 | false => exact (conT_rb h1 ⟨rfl, Nat.le_refl _⟩ (fun h => by rw [h2.1 h] at ha; cases ha)).pure
theorem allT1_c {x : Trip} {a : Addr} {g : FuncId} {ga : List Value} {gc : List Value} {b : Bool} (hr : Row σ a [.func (.func g) ⟨ga⟩ ⟨gc⟩]) (hc : ∀ τ, Le σ τ → zD Pg g (ga ++ (vB x :: gc)) τ (.bool b) τ) :
  zD Pg 92 [vB x, .pointer (some a)] σ (.bool (!b)) σ := by
 cases b with
 | true => exact (allT1_ra (hr.re.row.ld1 agg114) (hc _ ((le0 σ).trans (Le.row _ _ _))) ⟨rfl, Nat.le_refl _⟩).pure
 | false => exact (allT1_rb (hr.re.row.ld1 agg114) (hc _ ((le0 σ).trans (Le.row _ _ _))) ⟨rfl, Nat.le_refl _⟩).pure
theorem allT_c {p : Option Addr} {len cap : Nat} {g : FuncId} {ga : List Value} {gc : List Value} {xs : List Trip} {f : Trip → Bool} (hs : SlV Pg σ 79 6 p len (xs.map vB)) (hlen : len ≤ 1073741824)
  (hc : ∀ x ∈ xs, ∀ τ, Le σ τ → zD Pg g (ga ++ (vB x :: gc)) τ (.bool (f x)) τ) : zD Pg 78 [.slice p len cap, .func (.func g) ⟨ga⟩ ⟨gc⟩] σ (.bool (xs.all f)) σ := by
 have c := conT_c (σ := σ.re.row [.func (.func g) ⟨ga⟩ ⟨gc⟩] 1) (g := 92) (ga := []) (gc := [.pointer (some ⟨σ.re.next, 0, none⟩)]) (f := fun x => !f x) (cap := cap) hs.re.row hlen
  (fun x hx τ hτ => allT1_c ((row_new _ _ _).le hτ) (fun τ' hτ' => hc x hx τ' ((((le0 σ).trans (Le.row _ _ _)).trans hτ).trans hτ')))
 have e : (xs.any fun x => !f x) = !xs.all f := by rw [List.not_all_eq_any_not]
 rw [e] at c
 cases ha : xs.all f with
 | true => rw [ha] at c; exact (allT_rb c ⟨rfl, Nat.le_refl _⟩).pure
 | false => rw [ha] at c; exact (allT_ra c ⟨rfl, Nat.le_refl _⟩).pure
theorem idxR_c {p : Option Addr} {len cap : Nat} {g : FuncId} {gc : List Value} {rs : List (List Int)} {f : List Int → Bool} (hs : wU σ p len rs) (hlen : len ≤ 1073741824)
  (hc : ∀ r ∈ rs, ∀ q c τ, Le σ τ → yU τ q r.length r → zD Pg g (.slice q r.length c :: gc) τ (.bool (f r)) τ) : ∃ r : Int, zD Pg 96 [.slice p len cap, .func (.func g) ⟨[]⟩ ⟨gc⟩] σ (iV r) σ ∧ (0 ≤ r ↔ rs.any f = true) := by
 have hl := hs.len
 have hs' := hs.le (le0 σ)
 have key : zN Pg 96 [.slice p len cap, .func (.func g) ⟨[]⟩ ⟨gc⟩] σ.re fun v s => (∃ r : Int, v = iV r ∧ (0 ≤ r ↔ rs.any f = true)) ∧ s = σ.re := by
  refine idxR_ra (idxR_loop1 (Inv := fun k i τ => τ = σ.re ∧ ∃ j : Nat, i = j ∧ j + k = len ∧ (rs.take j).any f = false) (Qr := fun i τ => τ = σ.re ∧ 0 ≤ i ∧ rs.any f = true) (Q0 := fun τ => τ = σ.re ∧ rs.any f = false) ?_ len 0 σ.re ⟨rfl, 0, rfl, by omega, by simp⟩) ?_ ?_
  ·rintro k i τ ⟨rfl, j, rfl, hk, ha⟩
   by_cases hj : j < len
   ·obtain ⟨a, rfl, r, q, c, hr, ld, hq⟩ := hs'.row hj
    have ld := ld _ (Le.refl _)
    have c := hc r (List.mem_of_getElem? hr) q c σ.re (le0 σ) hq
    cases hf : f r with
    | true =>
     rw [hf] at c
     exact idxR_s1a ld c ⟨rfl, by omega, List.any_eq_true.2 ⟨r, List.mem_of_getElem? hr, hf⟩⟩
    | false =>
     rw [hf] at c
     exact idxR_s1b ld c ⟨k - 1, by omega, rfl, j + 1, by omega, by omega, by rw [uS hr, List.any_append, ha]; simp [hf]⟩
   ·exact idxR_s1c ⟨rfl, by rwa [List.take_of_length_le (by omega)] at ha⟩
  ·rintro i τ ⟨rfl, h1, h2⟩
   exact idxR_t1xra ⟨⟨i, rfl, by simp [h1, h2]⟩, rfl⟩
  ·rintro τ ⟨rfl, h⟩
   exact idxR_t1x0a ⟨⟨-1, rfl, by simp [h]⟩, rfl⟩
 obtain ⟨v, s, h1, ⟨r, rfl, h2⟩, rfl⟩ := key
 exact ⟨r, zJD h1 (Nat.le_refl _) rfl, h2⟩
theorem conR_c {p : Option Addr} {len cap : Nat} {g : FuncId} {gc : List Value} {rs : List (List Int)} {f : List Int → Bool} (hs : wU σ p len rs) (hlen : len ≤ 1073741824)
  (hc : ∀ r ∈ rs, ∀ q c τ, Le σ τ → yU τ q r.length r → zD Pg g (.slice q r.length c :: gc) τ (.bool (f r)) τ) : zD Pg 88 [.slice p len cap, .func (.func g) ⟨[]⟩ ⟨gc⟩] σ (.bool (rs.any f)) σ := by
 obtain ⟨r, h1, h2⟩ := idxR_c (σ := σ.re) (cap := cap) (hs.le (le0 σ)) hlen (fun x hx q c τ hτ => hc x hx q c τ ((le0 σ).trans hτ))
 cases ha : rs.any f with
 | true => exact (conR_ra h1 ⟨rfl, Nat.le_refl _⟩ (h2.2 ha)).pure
 | false => exact (conR_rb h1 ⟨rfl, Nat.le_refl _⟩ (fun h => by rw [h2.1 h] at ha; cases ha)).pure
theorem allR1_c {q : Option Addr} {l c : Nat} {a : Addr} {g : FuncId} {gc : List Value} {b : Bool} (hr : Row σ a [.func (.func g) ⟨[]⟩ ⟨gc⟩]) (hc : ∀ τ, Le σ τ → zD Pg g (.slice q l c :: gc) τ (.bool b) τ) :
  zD Pg 89 [.slice q l c, .pointer (some a)] σ (.bool (!b)) σ := by
 cases b with
 | true => exact (allR1_ra (hr.re.ld1 agg46) (hc _ (le0 σ)) ⟨rfl, Nat.le_refl _⟩).pure
 | false => exact (allR1_rb (hr.re.ld1 agg46) (hc _ (le0 σ)) ⟨rfl, Nat.le_refl _⟩).pure
theorem allR_c {p : Option Addr} {len cap : Nat} {g : FuncId} {gc : List Value} {rs : List (List Int)} {f : List Int → Bool} (hs : wU σ p len rs) (hlen : len ≤ 1073741824)
  (hc : ∀ r ∈ rs, ∀ q c τ, Le σ τ → yU τ q r.length r → zD Pg g (.slice q r.length c :: gc) τ (.bool (f r)) τ) : zD Pg 76 [.slice p len cap, .func (.func g) ⟨[]⟩ ⟨gc⟩] σ (.bool (rs.all f)) σ := by
 have c := conR_c (σ := σ.re.row [.func (.func g) ⟨[]⟩ ⟨gc⟩] 1) (g := 89) (gc := [.pointer (some ⟨σ.re.next, 0, none⟩)]) (f := fun x => !f x) (cap := cap) (hs.le ((le0 σ).trans (Le.row _ _ _))) hlen
  (fun x hx q c τ hτ hq => allR1_c ((row_new _ _ _).le hτ) (fun τ' hτ' => hc x hx q c τ' ((((le0 σ).trans (Le.row _ _ _)).trans hτ).trans hτ') (SlV.le hq hτ')))
 have e : (rs.any fun x => !f x) = !rs.all f := by rw [List.not_all_eq_any_not]
 rw [e] at c
 cases ha : rs.all f with
 | true => rw [ha] at c; exact (allR_rb c ⟨rfl, Nat.le_refl _⟩).pure
 | false => rw [ha] at c; exact (allR_ra c ⟨rfl, Nat.le_refl _⟩).pure
end
end Go.Proofs.Ytmdopblmkkameaa
