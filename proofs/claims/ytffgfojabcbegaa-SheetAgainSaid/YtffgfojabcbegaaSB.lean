import Derived.Test.YtffgfojabcbegaaXA
import Derived.Test.YtffgfojabcbegaaWB

namespace Go.Proofs.Ytffgfojabcbegaa
open Go Go.Lay
set_option linter.unusedVariables false
set_option linter.unusedSimpArgs false
set_option maxRecDepth 20000
abbrev vV (n : Int) : Value := iV n
abbrev yN (x : Rec) : List Value := rcd x.m x.s x.t x.k x.a x.b
abbrev yE (x : Rec) : Value := .agg ⟨yN x⟩
def inB (n lo hi : Int) : Bool := decide (lo ≤ n) && decide (n ≤ hi)
theorem zKN {n lo hi : Int} : inB n lo hi = true ↔ lo ≤ n ∧ n ≤ hi := by simp [inB]
theorem xK {α : Type} {xs : List α} {i : Nat} {x : α} (h : xs[i]? = some x) : xs.take (i + 1) = xs.take i ++ [x] := by
 rw [List.take_add_one, h]; rfl
def yG (x : Rec) : Bool := inB x.m 0 999 && inB x.s 1 9999 && inB x.t 0 1000000 && (if x.k = 0 then inB x.a 0 99 && inB x.b 0 10000 else if x.k = 1 then inB x.a 0 1000000 && decide (x.b = 0) else if x.k = 2 then inB x.a 0 9999 && inB x.b 0 10000000 else false)
theorem zED {x : Rec} (h : yG x = true) : 0 ≤ x.m ∧ x.m ≤ 999 ∧ 1 ≤ x.s ∧ x.s ≤ 9999 ∧ 0 ≤ x.t ∧ x.t ≤ 1000000 ∧ 0 ≤ x.k ∧ x.k ≤ 2 ∧ 0 ≤ x.a ∧ x.a ≤ 1000000 ∧ 0 ≤ x.b ∧ x.b ≤ 10000000 := by
 unfold yG at h
 simp only [Bool.and_eq_true, zKN] at h
 obtain ⟨⟨⟨h1, h2⟩, h3⟩, h4⟩ := h
 split at h4
 ·simp only [Bool.and_eq_true, zKN] at h4; omega
 ·split at h4
  ·simp only [Bool.and_eq_true, zKN, decide_eq_true_eq] at h4; omega
  ·split at h4
   ·simp only [Bool.and_eq_true, zKN] at h4; omega
   ·cases h4
section
variable {σ : St}
theorem le0 (σ : St) : Le σ σ.re := Le.re' (Le.refl _)
theorem zAO {α : Type} {t n len i : Nat} {p : Option Addr} {xs : List α} {f : α → Value} (h : SlV Try.prog σ t n p len (xs.map f)) (hi : i < len) : ∃ a, p = some a ∧ ∃ x, xs[i]? = some x ∧ zC Try.prog σ t (zG a (Int.toNat (i : Int) * n)) = some (f x) := by
 obtain ⟨a, rfl, _⟩ := h.some hi
 have hl : i < xs.length := by have := h.2.1; simp at this; omega
 exact ⟨a, rfl, xs[i], by simp, h.at rfl (by simp [hl])⟩
theorem xN {n lo hi : Int} : zF Try.prog 48 [iV n, iV lo, iV hi] σ (.bool (inB n lo hi)) σ := by
 by_cases h1 : lo ≤ n <;> by_cases h2 : n ≤ hi
 ·exact (yUZ ⟨by simp [inB, h1, h2], Nat.le_refl _⟩).pure
 ·exact (yUY ⟨by simp [inB, h1, h2], Nat.le_refl _⟩).pure
 ·exact (zYY ⟨by simp [inB, h1], Nat.le_refl _⟩).pure
 ·exact (zYY ⟨by simp [inB, h1], Nat.le_refl _⟩).pure
theorem wD {n lo hi : Int} : zF Try.prog 24 [iV n, iV lo, iV hi] σ (.bool (inB n lo hi)) σ := by
 by_cases h1 : lo ≤ n <;> by_cases h2 : n ≤ hi
 ·exact (rIn_ra ⟨by simp [inB, h1, h2], Nat.le_refl _⟩).pure
 ·exact (rIn_rb ⟨by simp [inB, h1, h2], Nat.le_refl _⟩).pure
 ·exact (rIn_rc ⟨by simp [inB, h1], Nat.le_refl _⟩).pure
 ·exact (rIn_rc ⟨by simp [inB, h1], Nat.le_refl _⟩).pure
theorem sale_c {x : Rec} : zF Try.prog 85 [yE x] σ (.bool (inB x.a 0 99 && inB x.b 0 10000)) σ := by
 cases h : inB x.a 0 99 with
 | true => exact (sale_ra (by rw [← h]; exact xN) xN ⟨by rw [Bool.true_and], Nat.le_refl _⟩).pure
 | false => exact (sale_rb (by rw [← h]; exact xN) ⟨rfl, Nat.le_refl _⟩).pure
theorem sync_c {x : Rec} : zF Try.prog 86 [yE x] σ (.bool (inB x.a 0 1000000 && decide (x.b = 0))) σ := by
 cases h : inB x.a 0 1000000 with
 | true =>
  by_cases hb : x.b = 0
  ·exact (sync_ra (by rw [← h]; exact xN) ⟨by simp [hb], Nat.le_refl _⟩ hb).pure
  ·exact (sync_rb (by rw [← h]; exact xN) ⟨by simp [hb], Nat.le_refl _⟩ hb).pure
 | false => exact (sync_rc (by rw [← h]; exact xN) ⟨rfl, Nat.le_refl _⟩).pure
theorem closes_c {x : Rec} : zF Try.prog 87 [yE x] σ (.bool (inB x.a 0 9999 && inB x.b 0 10000000)) σ := by
 cases h : inB x.a 0 9999 with
 | true => exact (yYD (by rw [← h]; exact xN) xN ⟨by rw [Bool.true_and], Nat.le_refl _⟩).pure
 | false => exact (yYC (by rw [← h]; exact xN) ⟨rfl, Nat.le_refl _⟩).pure
end
end Go.Proofs.Ytffgfojabcbegaa

namespace Go.Proofs.Ytffgfojabcbegaa
open Go Go.Lay
open Try renaming prog → Pg
set_option linter.unusedVariables false
set_option linter.unusedSimpArgs false
set_option maxRecDepth 20000
abbrev yU (σ : St) (t : Nat) (p : Option Addr) (l : Nat) (xs : List Rec) : Prop := SlV Pg σ t 6 p l (xs.map yE)
def zAY (σ : St) (ts te : Nat) (p : Option Addr) (l : Nat) (rs : List (List Rec)) : Prop := ∃ vs : List Value, SlV Pg σ ts 1 p l vs ∧ rs.length = l ∧ ∀ (i : Nat) (r : List Rec), rs[i]? = some r → ∃ q c, vs[i]? = some (Value.slice q r.length c) ∧ yU σ te q r.length r
section
variable {σ : St} {ts te : Nat}
theorem yU.len {t : Nat} {p : Option Addr} {l : Nat} {xs : List Rec} (h : yU σ t p l xs) : xs.length = l := by have := h.2.1; simpa using this
theorem zAY.le {σ' : St} {p : Option Addr} {l : Nat} {rs : List (List Rec)} (h : zAY σ ts te p l rs) (k : Le σ σ') : zAY σ' ts te p l rs := by
 obtain ⟨vs, h1, h2, h3⟩ := h
 exact ⟨vs, h1.le k, h2, fun i r hi => by obtain ⟨q, c, g1, g2⟩ := h3 i r hi; exact ⟨q, c, g1, g2.le k⟩⟩
theorem zAY.len {p : Option Addr} {l : Nat} {rs : List (List Rec)} (h : zAY σ ts te p l rs) : rs.length = l := h.choose_spec.2.1
theorem zAY.row {p : Option Addr} {l i : Nat} {rs : List (List Rec)} (h : zAY σ ts te p l rs) (hi : i < l) : ∃ a, p = some a ∧ ∃ r q c, rs[i]? = some r ∧ (∀ τ, Le σ τ → zC Pg τ ts (zG a (Int.toNat (i : Int) * 1)) = some (.slice q r.length c)) ∧ yU σ te q r.length r := by
 obtain ⟨vs, h1, h2, h3⟩ := h
 obtain ⟨a, rfl, _⟩ := h1.some hi
 obtain ⟨q, c, g1, g2⟩ := h3 i rs[i] (by simp)
 exact ⟨a, rfl, rs[i], q, c, by simp, fun τ hτ => (h1.le hτ).at rfl g1, g2⟩
theorem idxT_c {p : Option Addr} {len cap : Nat} {g : FuncId} {gc : List Value} {xs : List Rec} {f : Rec → Bool} (hs : SlV Pg σ 79 6 p len (xs.map yE)) (hlen : len ≤ 1073741824)
  (hc : ∀ x ∈ xs, ∀ τ, Le σ τ → zF Pg g (yE x :: gc) τ (.bool (f x)) τ) : ∃ r : Int, zF Pg 84 [.slice p len cap, .func (.func g) ⟨[]⟩ ⟨gc⟩] σ (iV r) σ ∧ (0 ≤ r ↔ xs.any f = true) := by
 have hl : xs.length = len := by have := hs.2.1; simpa using this
 have key : zM Pg 84 [.slice p len cap, .func (.func g) ⟨[]⟩ ⟨gc⟩] σ.re fun v s => (∃ r : Int, v = iV r ∧ (0 ≤ r ↔ xs.any f = true)) ∧ s = σ.re := by
  refine idxT_ra (yQC (Inv := fun k i τ => τ = σ.re ∧ ∃ j : Nat, i = j ∧ j + k = len ∧ (xs.take j).any f = false) (Qr := fun i τ => τ = σ.re ∧ 0 ≤ i ∧ xs.any f = true) (Q0 := fun τ => τ = σ.re ∧ xs.any f = false) ?_ len 0 σ.re ⟨rfl, 0, rfl, by omega, by simp⟩) ?_ ?_
  ·rintro k i τ ⟨rfl, j, rfl, hk, ha⟩
   by_cases hj : j < len
   ·obtain ⟨a, rfl, x, hx, ld⟩ := zAO hs.re hj
    have c := hc x (List.mem_of_getElem? hx) σ.re (le0 σ)
    cases hf : f x with
    | true =>
     rw [hf] at c
     exact idxT_s1a ld c ⟨rfl, by omega, List.any_eq_true.2 ⟨x, List.mem_of_getElem? hx, hf⟩⟩
    | false =>
     rw [hf] at c
     exact idxT_s1b ld c ⟨k - 1, by omega, rfl, j + 1, by omega, by omega, by rw [xK hx, List.any_append, ha]; simp [hf]⟩
   ·exact idxT_s1c ⟨rfl, by rwa [List.take_of_length_le (by omega)] at ha⟩
  ·rintro i τ ⟨rfl, h1, h2⟩
   exact yQA ⟨⟨i, rfl, by simp [h1, h2]⟩, rfl⟩
  ·rintro τ ⟨rfl, h⟩
   exact yQB ⟨⟨-1, rfl, by simp [h]⟩, rfl⟩
 obtain ⟨v, s, h1, ⟨r, rfl, h2⟩, rfl⟩ := key
 exact ⟨r, yDU h1 (Nat.le_refl _) rfl, h2⟩
theorem conT_c {p : Option Addr} {len cap : Nat} {g : FuncId} {gc : List Value} {xs : List Rec} {f : Rec → Bool} (hs : SlV Pg σ 79 6 p len (xs.map yE)) (hlen : len ≤ 1073741824)
  (hc : ∀ x ∈ xs, ∀ τ, Le σ τ → zF Pg g (yE x :: gc) τ (.bool (f x)) τ) : zF Pg 72 [.slice p len cap, .func (.func g) ⟨[]⟩ ⟨gc⟩] σ (.bool (xs.any f)) σ := by
 obtain ⟨r, h1, h2⟩ := idxT_c (σ := σ.re) (cap := cap) hs.re hlen (fun x hx τ hτ => hc x hx τ ((le0 σ).trans hτ))
 cases ha : xs.any f with
 | true => exact (conT_ra h1 ⟨rfl, Nat.le_refl _⟩ (h2.2 ha)).pure
 | false => exact (conT_rb h1 ⟨rfl, Nat.le_refl _⟩ (fun h => by rw [h2.1 h] at ha; cases ha)).pure
theorem allT1_c {x : Rec} {a : Addr} {g : FuncId} {gc : List Value} {b : Bool} (hr : Row σ a [.func (.func g) ⟨[]⟩ ⟨gc⟩]) (hc : ∀ τ, Le σ τ → zF Pg g (yE x :: gc) τ (.bool b) τ) :
  zF Pg 73 [yE x, .pointer (some a)] σ (.bool (!b)) σ := by
 cases b with
 | true => exact (allT1_ra (hr.re.row.ld1 zYD) (hc _ ((le0 σ).trans (Le.row _ _ _))) ⟨rfl, Nat.le_refl _⟩).pure
 | false => exact (allT1_rb (hr.re.row.ld1 zYD) (hc _ ((le0 σ).trans (Le.row _ _ _))) ⟨rfl, Nat.le_refl _⟩).pure
theorem allT_c {p : Option Addr} {len cap : Nat} {g : FuncId} {gc : List Value} {xs : List Rec} {f : Rec → Bool} (hs : SlV Pg σ 79 6 p len (xs.map yE)) (hlen : len ≤ 1073741824)
  (hc : ∀ x ∈ xs, ∀ τ, Le σ τ → zF Pg g (yE x :: gc) τ (.bool (f x)) τ) : zF Pg 56 [.slice p len cap, .func (.func g) ⟨[]⟩ ⟨gc⟩] σ (.bool (xs.all f)) σ := by
 have c := conT_c (σ := σ.re.row [.func (.func g) ⟨[]⟩ ⟨gc⟩] 1) (g := 73) (gc := [.pointer (some ⟨σ.re.next, 0, none⟩)]) (f := fun x => !f x) (cap := cap) hs.re.row hlen
  (fun x hx τ hτ => allT1_c ((yCW _ _ _).le hτ) (fun τ' hτ' => hc x hx τ' ((((le0 σ).trans (Le.row _ _ _)).trans hτ).trans hτ')))
 have e : (xs.any fun x => !f x) = !xs.all f := by rw [List.not_all_eq_any_not]
 rw [e] at c
 cases ha : xs.all f with
 | true => rw [ha] at c; exact (allT_rb c ⟨rfl, Nat.le_refl _⟩).pure
 | false => rw [ha] at c; exact (allT_ra c ⟨rfl, Nat.le_refl _⟩).pure
theorem idxR_c {p : Option Addr} {len cap : Nat} {g : FuncId} {gc : List Value} {rs : List (List Rec)} {f : List Rec → Bool} (hs : zAY σ 28 79 p len rs) (hlen : len ≤ 1073741824)
  (hc : ∀ r ∈ rs, ∀ q c τ, Le σ τ → yU τ 79 q r.length r → zF Pg g (.slice q r.length c :: gc) τ (.bool (f r)) τ) : ∃ r : Int, zF Pg 83 [.slice p len cap, .func (.func g) ⟨[]⟩ ⟨gc⟩] σ (iV r) σ ∧ (0 ≤ r ↔ rs.any f = true) := by
 have hl := hs.len
 have hs' := hs.le (le0 σ)
 have key : zM Pg 83 [.slice p len cap, .func (.func g) ⟨[]⟩ ⟨gc⟩] σ.re fun v s => (∃ r : Int, v = iV r ∧ (0 ≤ r ↔ rs.any f = true)) ∧ s = σ.re := by
  refine idxR_ra (yQF (Inv := fun k i τ => τ = σ.re ∧ ∃ j : Nat, i = j ∧ j + k = len ∧ (rs.take j).any f = false) (Qr := fun i τ => τ = σ.re ∧ 0 ≤ i ∧ rs.any f = true) (Q0 := fun τ => τ = σ.re ∧ rs.any f = false) ?_ len 0 σ.re ⟨rfl, 0, rfl, by omega, by simp⟩) ?_ ?_
  ·rintro k i τ ⟨rfl, j, rfl, hk, ha⟩
   by_cases hj : j < len
   ·obtain ⟨a, rfl, r, q, c, hr, ld, hq⟩ := hs'.row hj
    have ld := ld _ (Le.refl _)
    have c := hc r (List.mem_of_getElem? hr) q c σ.re (le0 σ) hq
    cases hf : f r with
    | true =>
     rw [hf] at c
     exact idxR_s1a ld c ⟨rfl, by omega, List.any_eq_true.2 ⟨r, List.mem_of_getElem? hr, hf⟩⟩
    | false =>
     rw [hf] at c
     exact idxR_s1b ld c ⟨k - 1, by omega, rfl, j + 1, by omega, by omega, by rw [xK hr, List.any_append, ha]; simp [hf]⟩
   ·exact idxR_s1c ⟨rfl, by rwa [List.take_of_length_le (by omega)] at ha⟩
  ·rintro i τ ⟨rfl, h1, h2⟩
   exact yQD ⟨⟨i, rfl, by simp [h1, h2]⟩, rfl⟩
  ·rintro τ ⟨rfl, h⟩
   exact yQE ⟨⟨-1, rfl, by simp [h]⟩, rfl⟩
 obtain ⟨v, s, h1, ⟨r, rfl, h2⟩, rfl⟩ := key
 exact ⟨r, yDU h1 (Nat.le_refl _) rfl, h2⟩
theorem conR_c {p : Option Addr} {len cap : Nat} {g : FuncId} {gc : List Value} {rs : List (List Rec)} {f : List Rec → Bool} (hs : zAY σ 28 79 p len rs) (hlen : len ≤ 1073741824)
  (hc : ∀ r ∈ rs, ∀ q c τ, Le σ τ → yU τ 79 q r.length r → zF Pg g (.slice q r.length c :: gc) τ (.bool (f r)) τ) : zF Pg 70 [.slice p len cap, .func (.func g) ⟨[]⟩ ⟨gc⟩] σ (.bool (rs.any f)) σ := by
 obtain ⟨r, h1, h2⟩ := idxR_c (σ := σ.re) (cap := cap) (hs.le (le0 σ)) hlen (fun x hx q c τ hτ => hc x hx q c τ ((le0 σ).trans hτ))
 cases ha : rs.any f with
 | true => exact (conR_ra h1 ⟨rfl, Nat.le_refl _⟩ (h2.2 ha)).pure
 | false => exact (conR_rb h1 ⟨rfl, Nat.le_refl _⟩ (fun h => by rw [h2.1 h] at ha; cases ha)).pure
theorem allR1_c {q : Option Addr} {l c : Nat} {a : Addr} {g : FuncId} {gc : List Value} {b : Bool} (hr : Row σ a [.func (.func g) ⟨[]⟩ ⟨gc⟩]) (hc : ∀ τ, Le σ τ → zF Pg g (.slice q l c :: gc) τ (.bool b) τ) :
  zF Pg 71 [.slice q l c, .pointer (some a)] σ (.bool (!b)) σ := by
 cases b with
 | true => exact (allR1_ra (hr.re.ld1 agg103) (hc _ (le0 σ)) ⟨rfl, Nat.le_refl _⟩).pure
 | false => exact (allR1_rb (hr.re.ld1 agg103) (hc _ (le0 σ)) ⟨rfl, Nat.le_refl _⟩).pure
theorem allR_c {p : Option Addr} {len cap : Nat} {g : FuncId} {gc : List Value} {rs : List (List Rec)} {f : List Rec → Bool} (hs : zAY σ 28 79 p len rs) (hlen : len ≤ 1073741824)
  (hc : ∀ r ∈ rs, ∀ q c τ, Le σ τ → yU τ 79 q r.length r → zF Pg g (.slice q r.length c :: gc) τ (.bool (f r)) τ) : zF Pg 53 [.slice p len cap, .func (.func g) ⟨[]⟩ ⟨gc⟩] σ (.bool (rs.all f)) σ := by
 have c := conR_c (σ := σ.re.row [.func (.func g) ⟨[]⟩ ⟨gc⟩] 1) (g := 71) (gc := [.pointer (some ⟨σ.re.next, 0, none⟩)]) (f := fun x => !f x) (cap := cap) (hs.le ((le0 σ).trans (Le.row _ _ _))) hlen
  (fun x hx q c τ hτ hq => allR1_c ((yCW _ _ _).le hτ) (fun τ' hτ' => hc x hx q c τ' ((((le0 σ).trans (Le.row _ _ _)).trans hτ).trans hτ') (SlV.le hq hτ')))
 have e : (rs.any fun x => !f x) = !rs.all f := by rw [List.not_all_eq_any_not]
 rw [e] at c
 cases ha : rs.all f with
 | true => rw [ha] at c; exact (allR_rb c ⟨rfl, Nat.le_refl _⟩).pure
 | false => rw [ha] at c; exact (allR_ra c ⟨rfl, Nat.le_refl _⟩).pure
end
end Go.Proofs.Ytffgfojabcbegaa
