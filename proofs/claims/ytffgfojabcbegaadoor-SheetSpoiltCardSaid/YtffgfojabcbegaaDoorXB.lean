import Derived.Test.YtffgfojabcbegaaDoorXA
import Derived.Test.YtffgfojabcbegaaDoorPA
set_option linter.unusedVariables false
set_option linter.unusedSimpArgs false
set_option maxRecDepth 20000
namespace Go.Proofs.YtffgfojabcbegaaDoor
open Go Go.Lay
open Tryd renaming prog → Pg
abbrev intV (n : Int) : Value := iV n
abbrev recL (x : Rec) : List Value := rcd x.m x.s x.t x.k x.a x.b
abbrev recV (x : Rec) : Value := .agg ⟨recL x⟩
def inB (n lo hi : Int) : Bool := decide (lo ≤ n) && decide (n ≤ hi)
theorem inB_iff {n lo hi : Int} : inB n lo hi = true ↔ lo ≤ n ∧ n ≤ hi := by simp [inB]
theorem inB_false {n lo hi : Int} : inB n lo hi = false ↔ ¬ (lo ≤ n ∧ n ≤ hi) := by rw [← Bool.not_eq_true, inB_iff]
theorem take_snoc {α : Type} {xs : List α} {i : Nat} {x : α} (h : xs[i]? = some x) : xs.take (i + 1) = xs.take i ++ [x] := by
 rw [List.take_add_one, h]; rfl
def rightB (x : Rec) : Bool := inB x.m 0 999 && inB x.s 1 9999 && inB x.t 0 1000000 && (if x.k = 0 then inB x.a 0 99 && inB x.b 0 10000 else if x.k = 1 then inB x.a 0 1000000 && decide (x.b = 0) else if x.k = 2 then inB x.a 0 9999 && inB x.b 0 10000000 else false)
theorem rightB_iff {x : Rec} (h : rightB x = true) : 0 ≤ x.m ∧ x.m ≤ 999 ∧ 1 ≤ x.s ∧ x.s ≤ 9999 ∧ 0 ≤ x.t ∧ x.t ≤ 1000000 ∧ 0 ≤ x.k ∧ x.k ≤ 2 ∧ 0 ≤ x.a ∧ x.a ≤ 1000000 ∧ 0 ≤ x.b ∧ x.b ≤ 10000000 := by
 unfold rightB at h
 simp only [Bool.and_eq_true, inB_iff] at h
 obtain ⟨⟨⟨h1, h2⟩, h3⟩, h4⟩ := h
 split at h4
 ·simp only [Bool.and_eq_true, inB_iff] at h4; omega
 ·split at h4
  ·simp only [Bool.and_eq_true, inB_iff, decide_eq_true_eq] at h4; omega
  ·split at h4
   ·simp only [Bool.and_eq_true, inB_iff] at h4; omega
   ·cases h4
section
variable {σ : St}
theorem le0 (σ : St) : Le σ σ.re := Le.re' (Le.refl _)
theorem slv_at {α : Type} {t n len i : Nat} {p : Option Addr} {xs : List α} {f : α → Value} (h : SlV Tryd.prog σ t n p len (xs.map f)) (hi : i < len) : ∃ a, p = some a ∧ ∃ x, xs[i]? = some x ∧ loadA Tryd.prog σ t (aadd a (Int.toNat (i : Int) * n)) = some (f x) := by
 obtain ⟨a, rfl, _⟩ := h.some hi
 have hl : i < xs.length := by have := h.2.1; simp at this; omega
 exact ⟨a, rfl, xs[i], by simp, h.at rfl (by simp [hl])⟩
theorem within_c {n lo hi : Int} : CallsA Tryd.prog 31 [iV n, iV lo, iV hi] σ (.bool (inB n lo hi)) σ := by
 by_cases h1 : lo ≤ n <;> by_cases h2 : n ≤ hi
 ·exact (within_ra ⟨by simp [inB, h1, h2], Nat.le_refl _⟩).pure
 ·exact (within_rb ⟨by simp [inB, h1, h2], Nat.le_refl _⟩).pure
 ·exact (within_rc ⟨by simp [inB, h1], Nat.le_refl _⟩).pure
 ·exact (within_rc ⟨by simp [inB, h1], Nat.le_refl _⟩).pure
theorem rIn_c {n lo hi : Int} : CallsA Tryd.prog 48 [iV n, iV lo, iV hi] σ (.bool (inB n lo hi)) σ := by
 by_cases h1 : lo ≤ n <;> by_cases h2 : n ≤ hi
 ·exact (rIn_ra ⟨by simp [inB, h1, h2], Nat.le_refl _⟩).pure
 ·exact (rIn_rb ⟨by simp [inB, h1, h2], Nat.le_refl _⟩).pure
 ·exact (rIn_rc ⟨by simp [inB, h1], Nat.le_refl _⟩).pure
 ·exact (rIn_rc ⟨by simp [inB, h1], Nat.le_refl _⟩).pure
theorem sale_c {x : Rec} : CallsA Tryd.prog 61 [recV x] σ (.bool (inB x.a 0 99 && inB x.b 0 10000)) σ := by
 cases h : inB x.a 0 99 with
 | true => exact (sale_ra (by rw [← h]; exact within_c) within_c ⟨by rw [Bool.true_and], Nat.le_refl _⟩).pure
 | false => exact (sale_rb (by rw [← h]; exact within_c) ⟨rfl, Nat.le_refl _⟩).pure
theorem sync_c {x : Rec} : CallsA Tryd.prog 62 [recV x] σ (.bool (inB x.a 0 1000000 && decide (x.b = 0))) σ := by
 cases h : inB x.a 0 1000000 with
 | true =>
  by_cases hb : x.b = 0
  ·exact (sync_ra (by rw [← h]; exact within_c) ⟨by simp [hb], Nat.le_refl _⟩ hb).pure
  ·exact (sync_rb (by rw [← h]; exact within_c) ⟨by simp [hb], Nat.le_refl _⟩ hb).pure
 | false => exact (sync_rc (by rw [← h]; exact within_c) ⟨rfl, Nat.le_refl _⟩).pure
theorem closes_c {x : Rec} : CallsA Tryd.prog 63 [recV x] σ (.bool (inB x.a 0 9999 && inB x.b 0 10000000)) σ := by
 cases h : inB x.a 0 9999 with
 | true => exact (closes_ra (by rw [← h]; exact within_c) within_c ⟨by rw [Bool.true_and], Nat.le_refl _⟩).pure
 | false => exact (closes_rb (by rw [← h]; exact within_c) ⟨rfl, Nat.le_refl _⟩).pure
end
abbrev RecsP (σ : St) (t : Nat) (p : Option Addr) (l : Nat) (xs : List Rec) : Prop := SlV Pg σ t 6 p l (xs.map recV)
def RowsP (σ : St) (ts te : Nat) (p : Option Addr) (l : Nat) (rs : List (List Rec)) : Prop := ∃ vs : List Value, SlV Pg σ ts 1 p l vs ∧ rs.length = l ∧ ∀ (i : Nat) (r : List Rec), rs[i]? = some r → ∃ q c, vs[i]? = some (Value.slice q r.length c) ∧ RecsP σ te q r.length r
section
variable {σ : St} {ts te : Nat}
theorem RecsP.len {t : Nat} {p : Option Addr} {l : Nat} {xs : List Rec} (h : RecsP σ t p l xs) : xs.length = l := by have := h.2.1; simpa using this
theorem RowsP.le {σ' : St} {p : Option Addr} {l : Nat} {rs : List (List Rec)} (h : RowsP σ ts te p l rs) (k : Le σ σ') : RowsP σ' ts te p l rs := by
 obtain ⟨vs, h1, h2, h3⟩ := h
 exact ⟨vs, h1.le k, h2, fun i r hi => by obtain ⟨q, c, g1, g2⟩ := h3 i r hi; exact ⟨q, c, g1, g2.le k⟩⟩
theorem RowsP.len {p : Option Addr} {l : Nat} {rs : List (List Rec)} (h : RowsP σ ts te p l rs) : rs.length = l := h.choose_spec.2.1
theorem RowsP.row {p : Option Addr} {l i : Nat} {rs : List (List Rec)} (h : RowsP σ ts te p l rs) (hi : i < l) : ∃ a, p = some a ∧ ∃ r q c, rs[i]? = some r ∧ (∀ τ, Le σ τ → loadA Pg τ ts (aadd a (Int.toNat (i : Int) * 1)) = some (.slice q r.length c)) ∧ RecsP σ te q r.length r := by
 obtain ⟨vs, h1, h2, h3⟩ := h
 obtain ⟨a, rfl, _⟩ := h1.some hi
 obtain ⟨q, c, g1, g2⟩ := h3 i rs[i] (by simp)
 exact ⟨a, rfl, rs[i], q, c, by simp, fun τ hτ => (h1.le hτ).at rfl g1, g2⟩
theorem idxT_c {p : Option Addr} {len cap : Nat} {g : FuncId} {gc : List Value} {xs : List Rec} {f : Rec → Bool} (hs : SlV Pg σ 40 6 p len (xs.map recV)) (hlen : len ≤ 1073741824)
  (hc : ∀ x ∈ xs, ∀ τ, Le σ τ → CallsA Pg g (recV x :: gc) τ (.bool (f x)) τ) : ∃ r : Int, CallsA Pg 81 [.slice p len cap, .func (.func g) ⟨[]⟩ ⟨gc⟩] σ (iV r) σ ∧ (0 ≤ r ↔ xs.any f = true) := by
 have hl : xs.length = len := by have := hs.2.1; simpa using this
 have key : RunsQ Pg 81 [.slice p len cap, .func (.func g) ⟨[]⟩ ⟨gc⟩] σ.re fun v s => (∃ r : Int, v = iV r ∧ (0 ≤ r ↔ xs.any f = true)) ∧ s = σ.re := by
  refine idxT_ra (idxT_loop1 (Inv := fun k i τ => τ = σ.re ∧ ∃ j : Nat, i = j ∧ j + k = len ∧ (xs.take j).any f = false) (Qr := fun i τ => τ = σ.re ∧ 0 ≤ i ∧ xs.any f = true) (Q0 := fun τ => τ = σ.re ∧ xs.any f = false) ?_ len 0 σ.re ⟨rfl, 0, rfl, by omega, by simp⟩) ?_ ?_
  ·rintro k i τ ⟨rfl, j, rfl, hk, ha⟩
   by_cases hj : j < len
   ·obtain ⟨a, rfl, x, hx, ld⟩ := slv_at hs.re hj
    have c := hc x (List.mem_of_getElem? hx) σ.re (le0 σ)
    cases hf : f x with
    | true =>
     rw [hf] at c
     exact idxT_s1a ld c ⟨rfl, by omega, List.any_eq_true.2 ⟨x, List.mem_of_getElem? hx, hf⟩⟩
    | false =>
     rw [hf] at c
     exact idxT_s1b ld c ⟨k - 1, by omega, rfl, j + 1, by omega, by omega, by rw [take_snoc hx, List.any_append, ha]; simp [hf]⟩
   ·exact idxT_s1c ⟨rfl, by rwa [List.take_of_length_le (by omega)] at ha⟩
  ·rintro i τ ⟨rfl, h1, h2⟩
   exact idxT_t1xra ⟨⟨i, rfl, by simp [h1, h2]⟩, rfl⟩
  ·rintro τ ⟨rfl, h⟩
   exact idxT_t1x0a ⟨⟨-1, rfl, by simp [h]⟩, rfl⟩
 obtain ⟨v, s, h1, ⟨r, rfl, h2⟩, rfl⟩ := key
 exact ⟨r, pure_c h1 (Nat.le_refl _) rfl, h2⟩
theorem conT_c {p : Option Addr} {len cap : Nat} {g : FuncId} {gc : List Value} {xs : List Rec} {f : Rec → Bool} (hs : SlV Pg σ 40 6 p len (xs.map recV)) (hlen : len ≤ 1073741824)
  (hc : ∀ x ∈ xs, ∀ τ, Le σ τ → CallsA Pg g (recV x :: gc) τ (.bool (f x)) τ) : CallsA Pg 70 [.slice p len cap, .func (.func g) ⟨[]⟩ ⟨gc⟩] σ (.bool (xs.any f)) σ := by
 obtain ⟨r, h1, h2⟩ := idxT_c (σ := σ.re) (cap := cap) hs.re hlen (fun x hx τ hτ => hc x hx τ ((le0 σ).trans hτ))
 cases ha : xs.any f with
 | true => exact (conT_ra h1 ⟨rfl, Nat.le_refl _⟩ (h2.2 ha)).pure
 | false => exact (conT_rb h1 ⟨rfl, Nat.le_refl _⟩ (fun h => by rw [h2.1 h] at ha; cases ha)).pure
theorem allT1_c {x : Rec} {a : Addr} {g : FuncId} {gc : List Value} {b : Bool} (hr : Row σ a [.func (.func g) ⟨[]⟩ ⟨gc⟩]) (hc : ∀ τ, Le σ τ → CallsA Pg g (recV x :: gc) τ (.bool b) τ) :
  CallsA Pg 71 [recV x, .pointer (some a)] σ (.bool (!b)) σ := by
 cases b with
 | true => exact (allT1_ra (hr.re.row.ld1 agg107) (hc _ ((le0 σ).trans (Le.row _ _ _))) ⟨rfl, Nat.le_refl _⟩).pure
 | false => exact (allT1_rb (hr.re.row.ld1 agg107) (hc _ ((le0 σ).trans (Le.row _ _ _))) ⟨rfl, Nat.le_refl _⟩).pure
theorem allT_c {p : Option Addr} {len cap : Nat} {g : FuncId} {gc : List Value} {xs : List Rec} {f : Rec → Bool} (hs : SlV Pg σ 40 6 p len (xs.map recV)) (hlen : len ≤ 1073741824)
  (hc : ∀ x ∈ xs, ∀ τ, Le σ τ → CallsA Pg g (recV x :: gc) τ (.bool (f x)) τ) : CallsA Pg 53 [.slice p len cap, .func (.func g) ⟨[]⟩ ⟨gc⟩] σ (.bool (xs.all f)) σ := by
 have c := conT_c (σ := σ.re.row [.func (.func g) ⟨[]⟩ ⟨gc⟩] 1) (g := 71) (gc := [.pointer (some ⟨σ.re.q, 0, none⟩)]) (f := fun x => !f x) (cap := cap) hs.re.row hlen
  (fun x hx τ hτ => allT1_c ((row_new _ _ _).le hτ) (fun τ' hτ' => hc x hx τ' ((((le0 σ).trans (Le.row _ _ _)).trans hτ).trans hτ')))
 have e : (xs.any fun x => !f x) = !xs.all f := by rw [List.not_all_eq_any_not]
 rw [e] at c
 cases ha : xs.all f with
 | true => rw [ha] at c; exact (allT_rb c ⟨rfl, Nat.le_refl _⟩).pure
 | false => rw [ha] at c; exact (allT_ra c ⟨rfl, Nat.le_refl _⟩).pure
theorem idxR_c {p : Option Addr} {len cap : Nat} {g : FuncId} {gc : List Value} {rs : List (List Rec)} {f : List Rec → Bool} (hs : RowsP σ 24 40 p len rs) (hlen : len ≤ 1073741824)
  (hc : ∀ r ∈ rs, ∀ q c τ, Le σ τ → RecsP τ 40 q r.length r → CallsA Pg g (.slice q r.length c :: gc) τ (.bool (f r)) τ) : ∃ r : Int, CallsA Pg 80 [.slice p len cap, .func (.func g) ⟨[]⟩ ⟨gc⟩] σ (iV r) σ ∧ (0 ≤ r ↔ rs.any f = true) := by
 have hl := hs.len
 have hs' := hs.le (le0 σ)
 have key : RunsQ Pg 80 [.slice p len cap, .func (.func g) ⟨[]⟩ ⟨gc⟩] σ.re fun v s => (∃ r : Int, v = iV r ∧ (0 ≤ r ↔ rs.any f = true)) ∧ s = σ.re := by
  refine idxR_ra (idxR_loop1 (Inv := fun k i τ => τ = σ.re ∧ ∃ j : Nat, i = j ∧ j + k = len ∧ (rs.take j).any f = false) (Qr := fun i τ => τ = σ.re ∧ 0 ≤ i ∧ rs.any f = true) (Q0 := fun τ => τ = σ.re ∧ rs.any f = false) ?_ len 0 σ.re ⟨rfl, 0, rfl, by omega, by simp⟩) ?_ ?_
  ·rintro k i τ ⟨rfl, j, rfl, hk, ha⟩
   by_cases hj : j < len
   ·obtain ⟨a, rfl, r, q, c, hr, ld, hq⟩ := hs'.row hj
    have ld := ld _ (Le.refl _)
    have c := hc r (List.mem_of_getElem? hr) q c σ.re (le0 σ) hq
    cases hf : f r with
    | true =>
     rw [hf] at c
     exact idxR_s1a ld c ⟨rfl, by omega, List.any_eq_true.2 ⟨r, List.mem_of_getElem? hr, hf⟩⟩
    | false =>
     rw [hf] at c
     exact idxR_s1b ld c ⟨k - 1, by omega, rfl, j + 1, by omega, by omega, by rw [take_snoc hr, List.any_append, ha]; simp [hf]⟩
   ·exact idxR_s1c ⟨rfl, by rwa [List.take_of_length_le (by omega)] at ha⟩
  ·rintro i τ ⟨rfl, h1, h2⟩
   exact idxR_t1xra ⟨⟨i, rfl, by simp [h1, h2]⟩, rfl⟩
  ·rintro τ ⟨rfl, h⟩
   exact idxR_t1x0a ⟨⟨-1, rfl, by simp [h]⟩, rfl⟩
 obtain ⟨v, s, h1, ⟨r, rfl, h2⟩, rfl⟩ := key
 exact ⟨r, pure_c h1 (Nat.le_refl _) rfl, h2⟩
theorem conR_c {p : Option Addr} {len cap : Nat} {g : FuncId} {gc : List Value} {rs : List (List Rec)} {f : List Rec → Bool} (hs : RowsP σ 24 40 p len rs) (hlen : len ≤ 1073741824)
  (hc : ∀ r ∈ rs, ∀ q c τ, Le σ τ → RecsP τ 40 q r.length r → CallsA Pg g (.slice q r.length c :: gc) τ (.bool (f r)) τ) : CallsA Pg 68 [.slice p len cap, .func (.func g) ⟨[]⟩ ⟨gc⟩] σ (.bool (rs.any f)) σ := by
 obtain ⟨r, h1, h2⟩ := idxR_c (σ := σ.re) (cap := cap) (hs.le (le0 σ)) hlen (fun x hx q c τ hτ => hc x hx q c τ ((le0 σ).trans hτ))
 cases ha : rs.any f with
 | true => exact (conR_ra h1 ⟨rfl, Nat.le_refl _⟩ (h2.2 ha)).pure
 | false => exact (conR_rb h1 ⟨rfl, Nat.le_refl _⟩ (fun h => by rw [h2.1 h] at ha; cases ha)).pure
theorem allR1_c {q : Option Addr} {l c : Nat} {a : Addr} {g : FuncId} {gc : List Value} {b : Bool} (hr : Row σ a [.func (.func g) ⟨[]⟩ ⟨gc⟩]) (hc : ∀ τ, Le σ τ → CallsA Pg g (.slice q l c :: gc) τ (.bool b) τ) :
  CallsA Pg 69 [.slice q l c, .pointer (some a)] σ (.bool (!b)) σ := by
 cases b with
 | true => exact (allR1_ra (hr.re.ld1 agg105) (hc _ (le0 σ)) ⟨rfl, Nat.le_refl _⟩).pure
 | false => exact (allR1_rb (hr.re.ld1 agg105) (hc _ (le0 σ)) ⟨rfl, Nat.le_refl _⟩).pure
theorem allR_c {p : Option Addr} {len cap : Nat} {g : FuncId} {gc : List Value} {rs : List (List Rec)} {f : List Rec → Bool} (hs : RowsP σ 24 40 p len rs) (hlen : len ≤ 1073741824)
  (hc : ∀ r ∈ rs, ∀ q c τ, Le σ τ → RecsP τ 40 q r.length r → CallsA Pg g (.slice q r.length c :: gc) τ (.bool (f r)) τ) : CallsA Pg 50 [.slice p len cap, .func (.func g) ⟨[]⟩ ⟨gc⟩] σ (.bool (rs.all f)) σ := by
 have c := conR_c (σ := σ.re.row [.func (.func g) ⟨[]⟩ ⟨gc⟩] 1) (g := 69) (gc := [.pointer (some ⟨σ.re.q, 0, none⟩)]) (f := fun x => !f x) (cap := cap) (hs.le ((le0 σ).trans (Le.row _ _ _))) hlen
  (fun x hx q c τ hτ hq => allR1_c ((row_new _ _ _).le hτ) (fun τ' hτ' => hc x hx q c τ' ((((le0 σ).trans (Le.row _ _ _)).trans hτ).trans hτ') (SlV.le hq hτ')))
 have e : (rs.any fun x => !f x) = !rs.all f := by rw [List.not_all_eq_any_not]
 rw [e] at c
 cases ha : rs.all f with
 | true => rw [ha] at c; exact (allR_rb c ⟨rfl, Nat.le_refl _⟩).pure
 | false => rw [ha] at c; exact (allR_ra c ⟨rfl, Nat.le_refl _⟩).pure
end
def Byte (x : Rec) : Prop := 0 ≤ x.k ∧ x.k ≤ 255
abbrev kindL : List Value := [.func (.func 61) ⟨[]⟩ ⟨[]⟩, .func (.func 62) ⟨[]⟩ ⟨[]⟩, .func (.func 63) ⟨[]⟩ ⟨[]⟩]
section
variable {σ : St}
theorem conv8 {n : Int} {τ : St} (h : 0 ≤ n ∧ n ≤ 255) : (belowL τ.q [.int .u8 n] ∧ goodB RD (iV n) = true) ∧ seeOp Pg (evL [.int .u8 n]) τ (.convert 5 3 (.tmp 0)) = some (iV n) := by
 refine ⟨⟨rfl, rfl⟩, ?_⟩
 have e : seeOp Pg (evL [.int .u8 n]) τ (.convert 5 3 (.tmp 0)) = some (iV (wrapK .i64 n)) := by kernel_rfl
 rw [e, wrap64 (by omega) (by omega)]
theorem kinds_c : ∃ b σ', CallsA Pg 44 [] σ (.slice (some ⟨b, 0, none⟩) 3 3) σ' ∧ New σ σ' ∧ Own σ' b kindL 1 := by
 obtain ⟨v, σ', h1, h2, b, rfl, h3⟩ := RunsQ.new (P := Pg) (f := 44) (args := []) (σ := σ) (Q := fun v s => ∃ b, v = .slice (some ⟨b, 0, none⟩) 3 3 ∧ Own s b kindL 1) (kinds_ra ⟨New.row _ _ _, _, rfl, own_new _ _ _⟩)
  (by rintro v s s' ⟨b, rfl, h⟩ hl; exact ⟨b, rfl, h.le hl⟩) (by rintro v s hr ⟨b, rfl, _⟩; exact Bool.noConfusion (show false = true from hr))
 exact ⟨b, σ', h1, h2, h3⟩
theorem valid_c {x : Rec} (hx : Byte x) : CallsA Pg 45 [recV x] σ (.bool (rightB x)) σ := by
 obtain ⟨m, s, t, k, a, b⟩ := x
 obtain ⟨hk0, hk1⟩ := hx
 simp only at hk0 hk1
 cases h1 : inB m 0 999 with
 | false => exact (valid_re (by rw [← h1]; exact within_c) ⟨by simp [rightB, h1], (New.row _ _ _).lw⟩).pure
 | true =>
 cases h2 : inB s 1 9999 with
 | false => exact (valid_rd (by rw [← h1]; exact within_c) (by rw [← h2]; exact within_c) ⟨by simp [rightB, h2], (New.row _ _ _).lw⟩).pure
 | true =>
 cases h3 : inB t 0 1000000 with
 | false => exact (valid_rc (by rw [← h1]; exact within_c) (by rw [← h2]; exact within_c) (by rw [← h3]; exact within_c) ⟨by simp [rightB, h3], (New.row _ _ _).lw⟩).pure
 | true =>
 obtain ⟨b1, σ5, k1, n1, o1⟩ := kinds_c (σ := σ.re.row (rcd m s t k a b) 6)
 have oR : Own (σ.re.row (rcd m s t k a b) 6) σ.q (rcd m s t k a b) 6 := own_new _ _ _
 have N1 : New σ.re (σ.re.row (rcd m s t k a b) 6) := New.row _ _ _
 by_cases hk : k < 3
 rotate_left
 ·exact (valid_rb (by rw [← h1]; exact within_c) (by rw [← h2]; exact within_c) (by rw [← h3]; exact within_c) k1 (belowL_cons (belowB_sl1 o1.lt) belowL_nil) ⟨⟨(oR.le n1.le).lt, rfl⟩, (oR.le n1.le).ld rfl agg5 rfl⟩ (conv8 ⟨hk0, hk1⟩) (conv8 ⟨hk0, hk1⟩)
   ⟨by simp [rightB, show ¬ k = 0 by omega, show ¬ k = 1 by omega, show ¬ k = 2 by omega], (N1.trans n1).lw⟩).pure
 obtain ⟨b2, σ7, k2, n2, o2⟩ := kinds_c (σ := σ5)
 have o5 := oR.le n1.le
 have o7 := o5.le n2.le
 have NN := (N1.trans n1).trans n2
 have key : ∀ (g : FuncId) (B : Bool), loadA Pg σ7 107 (aadd ⟨b2, 0, none⟩ (Int.toNat k * 1 + 0)) = some (.func (.func g) ⟨[]⟩ ⟨[]⟩) → CallsA Pg g [.agg ⟨rcd m s t k a b⟩] σ7 (.bool B) σ7 → B = rightB ⟨m, s, t, k, a, b⟩ → CallsA Pg 45 [recV ⟨m, s, t, k, a, b⟩] σ (.bool (rightB ⟨m, s, t, k, a, b⟩)) σ := by
  intro g B hl hc hB
  exact (valid_ra (by rw [← h1]; exact within_c) (by rw [← h2]; exact within_c) (by rw [← h3]; exact within_c) k1 k2 (o7.ld rfl agg5 rfl) hl (o7.ldN agg40 size40 (k := 0) rfl rfl (by simp)) hc (belowL_cons (belowB_sl1 o1.lt) belowL_nil) (belowL_cons (belowB_ptr o7.lt) belowL_nil) (belowL_cons (belowB_ptr o2.lt) belowL_nil) (belowL_cons (belowB_ptr o7.lt) belowL_nil) rfl
   ⟨⟨o5.lt, rfl⟩, o5.ld rfl agg5 rfl⟩ (conv8 ⟨hk0, hk1⟩) (conv8 ⟨hk0, hk1⟩) ⟨⟨o5.lt, rfl⟩, o5.ld rfl agg5 rfl⟩ ⟨⟨o7.lt, rfl⟩, o7.ld rfl agg5 rfl⟩ ⟨⟨o5.lt, rfl⟩, o5.ldN agg40 size40 (k := 0) rfl rfl (by simp)⟩ ⟨⟨o7.lt, rfl⟩, o7.ldN agg40 size40 (k := 0) rfl rfl (by simp)⟩ ⟨by rw [hB], NN.lw⟩).pure
 have hkk : k = 0 ∨ k = 1 ∨ k = 2 := by omega
 rcases hkk with rfl | rfl | rfl
 ·exact key 61 _ (o2.ld rfl agg107 (k := 0) rfl) (sale_c (x := ⟨m, s, t, 0, a, b⟩)) (by simp [rightB, h1, h2, h3])
 ·exact key 62 _ (o2.ld rfl agg107 (k := 1) rfl) (sync_c (x := ⟨m, s, t, 1, a, b⟩)) (by simp [rightB, h1, h2, h3])
 ·exact key 63 _ (o2.ld rfl agg107 (k := 2) rfl) (closes_c (x := ⟨m, s, t, 2, a, b⟩)) (by simp [rightB, h1, h2, h3])
theorem rRight_c {x : Rec} : CallsA Pg 24 [recV x] σ (.bool (rightB x)) σ := by
 obtain ⟨m, s, t, k, a, b⟩ := x
 have N1 := (New.row σ.re (rcd m s t k a b) 6).lw
 cases h1 : inB m 0 999 with
 | false => exact (rRight_rk (by rw [← h1]; exact rIn_c) ⟨by simp [rightB, h1], N1⟩).pure
 | true =>
 cases h2 : inB s 1 9999 with
 | false => exact (rRight_rj (by rw [← h1]; exact rIn_c) (by rw [← h2]; exact rIn_c) ⟨by simp [rightB, h2], N1⟩).pure
 | true =>
 cases h3 : inB t 0 1000000 with
 | false => exact (rRight_ri (by rw [← h1]; exact rIn_c) (by rw [← h2]; exact rIn_c) (by rw [← h3]; exact rIn_c) ⟨by simp [rightB, h3], N1⟩).pure
 | true =>
 by_cases k0 : k = 0
 ·subst k0
  cases h4 : inB a 0 99 with
  | true => exact (rRight_ra (by rw [← h1]; exact rIn_c) (by rw [← h2]; exact rIn_c) (by rw [← h3]; exact rIn_c) (by rw [← h4]; exact rIn_c) rIn_c ⟨by simp [rightB, h1, h2, h3, h4], N1⟩ rfl).pure
  | false => exact (rRight_rb (by rw [← h1]; exact rIn_c) (by rw [← h2]; exact rIn_c) (by rw [← h3]; exact rIn_c) (by rw [← h4]; exact rIn_c) ⟨by simp [rightB, h4], N1⟩ rfl).pure
 by_cases k1 : k = 1
 ·subst k1
  cases h4 : inB a 0 1000000 with
  | true =>
   by_cases hb : b = 0
   ·exact (rRight_rc (by rw [← h1]; exact rIn_c) (by rw [← h2]; exact rIn_c) (by rw [← h3]; exact rIn_c) (by rw [← h4]; exact rIn_c) ⟨by simp [rightB, h1, h2, h3, h4, hb], N1⟩ k0 rfl hb).pure
   ·exact (rRight_rd (by rw [← h1]; exact rIn_c) (by rw [← h2]; exact rIn_c) (by rw [← h3]; exact rIn_c) (by rw [← h4]; exact rIn_c) ⟨by simp [rightB, h1, h2, h3, h4, hb], N1⟩ k0 rfl hb).pure
  | false => exact (rRight_re (by rw [← h1]; exact rIn_c) (by rw [← h2]; exact rIn_c) (by rw [← h3]; exact rIn_c) (by rw [← h4]; exact rIn_c) ⟨by simp [rightB, h4], N1⟩ k0 rfl).pure
 by_cases k2 : k = 2
 ·subst k2
  cases h4 : inB a 0 9999 with
  | true => exact (rRight_rf (by rw [← h1]; exact rIn_c) (by rw [← h2]; exact rIn_c) (by rw [← h3]; exact rIn_c) (by rw [← h4]; exact rIn_c) rIn_c ⟨by simp [rightB, h1, h2, h3, h4], N1⟩ k0 k1 rfl).pure
  | false => exact (rRight_rg (by rw [← h1]; exact rIn_c) (by rw [← h2]; exact rIn_c) (by rw [← h3]; exact rIn_c) (by rw [← h4]; exact rIn_c) ⟨by simp [rightB, h4], N1⟩ k0 k1 rfl).pure
 exact (rRight_rh (by rw [← h1]; exact rIn_c) (by rw [← h2]; exact rIn_c) (by rw [← h3]; exact rIn_c) ⟨by simp [rightB, k0, k1, k2], N1⟩ k0 k1 k2).pure
theorem record_c {x : Rec} : CallsA Pg 26 [recV x] σ (recV x) σ := (record_ra ⟨rfl, by simp⟩).pure
def faultZ (rs : List (List Rec)) : Int := if 6 < rs.length then 3 else if !(rs.all fun r => decide (r.length ≤ 60)) then 3 else if !(rs.all fun r => r.all rightB) then 1 else 0
theorem checked_c {p : Option Addr} {l c : Nat} {rs : List (List Rec)} (h : RowsP σ 24 40 p l rs) (hl : l ≤ 1073741824) (hb : ∀ r ∈ rs, r.length ≤ 1073741824 ∧ ∀ x ∈ r, Byte x) : CallsA Pg 27 [.slice p l c] σ (iV (faultZ rs)) σ := by
 have hlen := h.len
 have h0 := h.le (le0 σ)
 by_cases h6 : 6 < l
 ·exact (checked_ra ⟨by simp [faultZ, hlen, h6], Nat.le_refl _⟩).pure
 have c1 := allR_c (cap := c) (g := 51) (gc := []) (f := fun r => decide (r.length ≤ 60)) h0 hl (fun r hr q c τ hτ hq => by
  by_cases e : r.length ≤ 60
  ·exact (checked1_ra ⟨by simp [e], Nat.le_refl _⟩ (by omega)).pure
  ·exact (checked1_rb ⟨by simp [e], Nat.le_refl _⟩ (by omega)).pure)
 cases e1 : rs.all fun r => decide (r.length ≤ 60) with
 | false => rw [e1] at c1; exact (checked_rd c1 ⟨by simp [faultZ, hlen, h6, e1], Nat.le_refl _⟩).pure
 | true =>
 rw [e1] at c1
 have c2 := allR_c (cap := c) (g := 52) (gc := []) (f := fun r => r.all rightB) h0 hl (fun r hr q c τ hτ hq =>
  (checked2_ra (allT_c (g := 45) (gc := []) (f := rightB) (SlV.le hq (le0 τ)) (hb r hr).1 fun x hx τ' _ => valid_c ((hb r hr).2 x hx)) ⟨rfl, Nat.le_refl _⟩).pure)
 cases e2 : rs.all fun r => r.all rightB with
 | false => rw [e2] at c2; exact (checked_rc c1 c2 ⟨by simp [faultZ, hlen, h6, e1, e2], Nat.le_refl _⟩).pure
 | true => rw [e2] at c2; exact (checked_rb c1 c2 ⟨by simp [faultZ, hlen, h6, e1, e2], Nat.le_refl _⟩).pure
end
theorem appT_rec : AppT Pg 24 24 40 6 := appT_of (by kernel_rfl)
theorem appT_ref : AppT Pg 28 28 63 6 := appT_of (by kernel_rfl)
theorem elOk_rec (x : Rec) : elOk Pg 40 6 (recV x) := .inr ⟨agg40, size40, _, rfl, rfl⟩
theorem elOk_ref (x : Rec) : elOk Pg 63 6 (recV x) := .inr ⟨agg63, size63, _, rfl, rfl⟩
def recQ (j : Nat) : IntKind := if j = 3 then .u8 else .i64
theorem rec_at (x : Rec) (j : Nat) (n : Int) (h : [x.m, x.s, x.t, x.k, x.a, x.b][j]? = some n) : (⟨recL x⟩ : Array Value)[j]? = some (.int (recQ j) n) := by
 rcases j with _ | _ | _ | _ | _ | _ | j <;> simp_all [recQ]
theorem rec_list {x y : Rec} : [x.m, x.s, x.t, x.k, x.a, x.b] = [y.m, y.s, y.t, y.k, y.a, y.b] ↔ x = y := by
 constructor
 ·intro h; simp at h; cases x; cases y; simp_all
 ·rintro rfl; rfl
theorem pv_eq79 (x y : Rec) : pureVal Pg (Op.equal 40 (recV x) (recV y)) = some (decide (x = y)) := by
 have h := pv_recK (P := Pg) (t := 40) (n := 6) (d := 9998) recQ (by kernel_rfl) («as» := [x.m, x.s, x.t, x.k, x.a, x.b]) (bs := [y.m, y.s, y.t, y.k, y.a, y.b]) (xs := ⟨recL x⟩) (ys := ⟨recL y⟩) rfl rfl (rec_at x) (rec_at y)
 rw [show decide (x = y) = decide ([x.m, x.s, x.t, x.k, x.a, x.b] = [y.m, y.s, y.t, y.k, y.a, y.b]) from decide_eq_decide.2 rec_list.symm]
 exact h
theorem eql79 {x y : Rec} {o1 o2 : Operand} : binA Pg .eql 40 o1 o2 (recV x) (recV y) = some (.bool (decide (x = y))) := by
 have e : ∀ (x1 x2 x3 x4 x5 x6 y1 y2 y3 y4 y5 y6 : Int), binA Pg .eql 40 o1 o2 (.agg ⟨rcd x1 x2 x3 x4 x5 x6⟩) (.agg ⟨rcd y1 y2 y3 y4 y5 y6⟩) = (pureVal Pg (do eqGuard .eql 40 o1 o2 (.agg ⟨rcd x1 x2 x3 x4 x5 x6⟩) (.agg ⟨rcd y1 y2 y3 y4 y5 y6⟩); binOp .eql 40 (.agg ⟨rcd x1 x2 x3 x4 x5 x6⟩) (.agg ⟨rcd y1 y2 y3 y4 y5 y6⟩))).filter (rigidB RD) := fun _ _ _ _ _ _ _ _ _ _ _ _ => by kernel_rfl
 have e1 : ∀ (x1 x2 x3 x4 x5 x6 y1 y2 y3 y4 y5 y6 : Int), pureVal Pg (eqGuard .eql 40 o1 o2 (.agg ⟨rcd x1 x2 x3 x4 x5 x6⟩) (.agg ⟨rcd y1 y2 y3 y4 y5 y6⟩)) = some () := fun _ _ _ _ _ _ _ _ _ _ _ _ => by kernel_rfl
 have e2 : ∀ x y : List Value, binOp .eql 40 (.agg ⟨x⟩) (.agg ⟨y⟩) = (do let r ← Op.equal 40 (.agg ⟨x⟩) (.agg ⟨y⟩); pure (.bool r)) := fun _ _ => rfl
 rw [e, pv_bind, e1]
 simp only [Option.bind_some]
 rw [e2, pv_bind, pv_eq79]
 rfl
theorem neq79 {x y : Rec} {o1 o2 : Operand} : binA Pg .neq 40 o1 o2 (recV x) (recV y) = some (.bool (!decide (x = y))) := by
 have e : ∀ (x1 x2 x3 x4 x5 x6 y1 y2 y3 y4 y5 y6 : Int), binA Pg .neq 40 o1 o2 (.agg ⟨rcd x1 x2 x3 x4 x5 x6⟩) (.agg ⟨rcd y1 y2 y3 y4 y5 y6⟩) = (pureVal Pg (do eqGuard .neq 40 o1 o2 (.agg ⟨rcd x1 x2 x3 x4 x5 x6⟩) (.agg ⟨rcd y1 y2 y3 y4 y5 y6⟩); binOp .neq 40 (.agg ⟨rcd x1 x2 x3 x4 x5 x6⟩) (.agg ⟨rcd y1 y2 y3 y4 y5 y6⟩))).filter (rigidB RD) := fun _ _ _ _ _ _ _ _ _ _ _ _ => by kernel_rfl
 have e1 : ∀ (x1 x2 x3 x4 x5 x6 y1 y2 y3 y4 y5 y6 : Int), pureVal Pg (eqGuard .neq 40 o1 o2 (.agg ⟨rcd x1 x2 x3 x4 x5 x6⟩) (.agg ⟨rcd y1 y2 y3 y4 y5 y6⟩)) = some () := fun _ _ _ _ _ _ _ _ _ _ _ _ => by kernel_rfl
 have e2 : ∀ x y : List Value, binOp .neq 40 (.agg ⟨x⟩) (.agg ⟨y⟩) = (do let r ← Op.equal 40 (.agg ⟨x⟩) (.agg ⟨y⟩); pure (.bool (!r))) := fun _ _ => rfl
 rw [e, pv_bind, e1]
 simp only [Option.bind_some]
 rw [e2, pv_bind, pv_eq79]
 rfl
section
variable {σ : St}
theorem all_take {α : Type} {xs : List α} {i : Nat} {f : α → Bool} {x : α} (h : xs[i]? = some x) (ha : (xs.take i).all f = true) (hf : f x = true) : (xs.take (i + 1)).all f = true := by rw [take_snoc h, List.all_append, ha]; simp [hf]
theorem all_no {α : Type} {xs : List α} {f : α → Bool} {x : α} (h : x ∈ xs) (hf : f x = false) : xs.all f = false := by
 cases e : xs.all f with
 | false => rfl
 | true => rw [List.all_eq_true.1 e x h] at hf; cases hf
theorem rFault_c {p : Option Addr} {l c : Nat} {rs : List (List Rec)} (h : RowsP σ 34 63 p l rs) (hl : l ≤ 1073741824) (hr : ∀ r ∈ rs, r.length ≤ 1073741824) : CallsA Pg 11 [.slice p l c] σ (iV (faultZ rs)) σ := by
 have hlen := h.len
 have h0 := h.le (le0 σ)
 by_cases h6 : 6 < l
 ·exact (rFault_ra ⟨by simp [faultZ, hlen, h6], Nat.le_refl _⟩).pure
 have n6 : ¬ 6 < rs.length := by omega
 refine RunsQ.pure (rFault_rb (Pr := fun n τ => τ = σ.re ∧ n = faultZ rs) (P0 := fun τ => τ = σ.re ∧ (rs.all fun r => decide (r.length ≤ 60)) = true)
  (rFault_loop1 (Inv := fun k i τ => ∃ s : Nat, i = s ∧ s + k = l ∧ τ = σ.re ∧ ((rs.take s).all fun r => decide (r.length ≤ 60)) = true) ?_ l 0 σ.re ⟨0, rfl, by omega, rfl, by simp⟩)
  (fun n τ h => rFault_t1xra ⟨by rw [h.2], by rw [h.1]; exact Nat.le_refl _⟩) (fun τ h => ?_) (by omega))
 ·rintro k i τ ⟨s, rfl, hk, rfl, ha⟩
  by_cases hs : s < l
  rotate_left
  ·exact rFault_s1c ⟨rfl, by rwa [List.take_of_length_le (by omega)] at ha⟩ (by omega)
  obtain ⟨a, rfl, r, q, d, hr', ld, _⟩ := h0.row hs
  have ld := ld _ (Le.refl _)
  by_cases e : r.length ≤ 60
  ·exact rFault_s1b ld ⟨k - 1, by omega, s + 1, by omega, by omega, rfl, all_take hr' ha (by simp [e])⟩ (by omega) (by omega) (by omega)
  ·exact rFault_s1a ld ⟨rfl, by simp only [faultZ, n6, if_false, all_no (f := fun r : List Rec => decide (r.length ≤ 60)) (List.mem_of_getElem? hr') (by simp [e])]; rfl⟩ (by omega) (by omega) (by omega)
 obtain ⟨rfl, h60⟩ := h
 refine rFault_t1x0a (P2 := fun τ => τ = σ.re ∧ (rs.all fun r => r.all rightB) = true) (Pr := fun n τ => τ = σ.re ∧ n = faultZ rs)
  (rFault_loop2 (Inv := fun k i τ => ∃ s : Nat, i = s ∧ s + k = l ∧ τ = σ.re ∧ ((rs.take s).all fun r => r.all rightB) = true) ?_ l 0 σ.re ⟨0, rfl, by omega, rfl, by simp⟩)
  (fun τ h => rFault_t2x2a ⟨by simp only [faultZ, n6, if_false, h60, h.2]; rfl, by rw [h.1]; exact Nat.le_refl _⟩) (fun n τ h => rFault_t2xra ⟨by rw [h.2], by rw [h.1]; exact Nat.le_refl _⟩)
 rintro k i τ ⟨s, rfl, hk, rfl, ha⟩
 by_cases hs : s < l
 rotate_left
 ·exact rFault_s2b ⟨rfl, by rwa [List.take_of_length_le (by omega)] at ha⟩ (by omega)
 obtain ⟨a, rfl, r, q, d, hr', ld, hq⟩ := h0.row hs
 have ld := ld _ (Le.refl _)
 have hrl := hr r (List.mem_of_getElem? hr')
 refine rFault_s2a (Pr := fun n τ => τ = σ.re ∧ n = faultZ rs) (P4 := fun τ => τ = σ.re ∧ r.all rightB = true)
  (rFault_loop3 (Inv := fun k i τ => ∃ s' : Nat, i = s' ∧ s' + k = r.length ∧ τ = σ.re ∧ (r.take s').all rightB = true) ?_ r.length 0 σ.re ⟨0, rfl, by omega, rfl, by simp⟩)
  (fun n τ h => rFault_t3xra h) (fun τ h => rFault_t3x4a ⟨k - 1, by omega, s + 1, by omega, by omega, h.1, all_take hr' ha h.2⟩) (by omega)
 rintro k' i' τ ⟨s', rfl, hk', rfl, ha'⟩
 by_cases hs' : s' < r.length
 rotate_left
 ·exact rFault_s3c ld ⟨rfl, by rwa [List.take_of_length_le (by omega)] at ha'⟩ (by omega) (by omega)
 obtain ⟨a', rfl, x, hx, ldx⟩ := slv_at hq hs'
 have c := rRight_c (σ := σ.re) (x := x)
 cases hb : rightB x with
 | true => rw [hb] at c; exact rFault_s3a ld ldx c ⟨k' - 1, by omega, s' + 1, by omega, by omega, rfl, all_take hx ha' hb⟩ (by omega) (by omega) (by omega)
 | false =>
  rw [hb] at c
  have e2 := all_no (f := fun r : List Rec => r.all rightB) (List.mem_of_getElem? hr') (all_no (List.mem_of_getElem? hx) hb)
  exact rFault_s3b ld ldx c ⟨rfl, by simp only [faultZ, n6, if_false, h60, e2]; rfl⟩ (by omega) (by omega) (by omega)
theorem one_c {p : Option Addr} {l c : Nat} {xs : List Rec} (h : RecsP σ 63 p l xs) : ∃ b σ', CallsA Pg 12 [.slice p l c] σ (.slice (some ⟨b, 0, none⟩) 1 1) σ' ∧ New σ σ' ∧ Own σ' b [.slice p l c] 1 ∧ σ.q ≤ b := by
 obtain ⟨v, σ', h1, h2, b, rfl, h3, h4⟩ := RunsQ.new (P := Pg) (f := 12) (args := [.slice p l c]) (σ := σ) (Q := fun v s => ∃ b, v = .slice (some ⟨b, 0, none⟩) 1 1 ∧ Own s b [.slice p l c] 1 ∧ σ.q ≤ b) (one_ra ⟨New.row _ _ _, _, rfl, own_new _ _ _, Nat.le_refl _⟩)
  (by rintro v s s' ⟨b, rfl, h, h'⟩ hl; exact ⟨b, rfl, h.le hl, h'⟩) (by rintro v s hr ⟨b, rfl, _⟩; exact Bool.noConfusion (show false = true from hr))
 exact ⟨b, σ', h1, h2, h3, h4⟩
theorem Records_c {p : Option Addr} {l c : Nat} {xs : List Rec} (h : RecsP σ 63 p l xs) (hl : l ≤ 1073741823) : ∃ p' c' σ', CallsA Pg 14 [.slice p l c] σ (.slice p' l c') σ' ∧ New σ σ' ∧ RecsP σ' 40 p' l xs ∧ ∀ b, AtP p' b → σ.q ≤ b := by
 have hlen := h.len
 refine RunsQ.newSl (Records_ra (P0 := fun p' l' c' τ => l' = l ∧ New σ.re τ ∧ Gr Pg τ σ.q 40 6 p' l c' (xs.map recV)) (Records_loop1 (Inv := fun k p' l' c' i τ => ∃ s : Nat, i = s ∧ l' = s ∧ s + k = l ∧ New σ.re τ ∧ Gr Pg τ σ.q 40 6 p' s c' ((xs.take s).map recV)) ?_ l none 0 0 0 σ.re ⟨0, rfl, rfl, by omega, New.refl _, by simpa using Gr.nil⟩) ?_)
 ·rintro k p' l' c' i τ ⟨s, rfl, rfl, hk, hN, hg⟩
  by_cases hs : l' < l
  rotate_left
  ·have : l' = l := by omega
   subst this
   rw [List.take_of_length_le (by omega)] at hg
   exact Records_s1b ⟨rfl, hN, hg⟩ (by omega)
  obtain ⟨a, rfl, x, hx, ld⟩ := slv_at ((SlV.le h (le0 σ)).le hN.le) hs
  obtain ⟨p4, c4, τ2, g1, g2, g3, g4, g5⟩ := grow (σ0 := σ.re) (recV x) appT_rec hg hN (New.refl τ) (elOk_rec _) (by omega) (e := rfl) (hc := rfl)
  exact Records_s1a ld record_c g1 ⟨k - 1, by omega, l' + 1, by omega, rfl, by omega, g3, by rw [take_snoc hx, List.map_append]; exact g2⟩ (by omega)
 ·rintro p' l' c' τ ⟨rfl, hN, hg⟩
  exact Records_t1x0a ⟨hN, p', c', rfl, hg.slv, fun b hb => (hg.bd hb).1⟩
theorem same_c {p q : Option Addr} {l m c d : Nat} {xs ys : List Rec} (h1 : RecsP σ 40 p l xs) (h2 : RecsP σ 63 q m ys) (hl : l ≤ 1073741824) : CallsA Pg 10 [.slice p l c, .slice q m d] σ (.bool (decide (xs = ys))) σ := by
 have e1 := h1.len
 have e2 := h2.len
 by_cases hm : l = m
 rotate_left
 ·exact (same_ra ⟨by rw [decide_eq_false (fun e => hm (by rw [← e1, ← e2, e]))], Nat.le_refl _⟩ (by omega)).pure
 subst hm
 refine RunsQ.pure (same_rb (Pr := fun b τ => τ = σ.re ∧ b = decide (xs = ys)) (P0 := fun τ => τ = σ.re ∧ xs = ys) (same_loop1 (Inv := fun k i τ => ∃ s : Nat, i = s ∧ s + k = l ∧ τ = σ.re ∧ xs.take s = ys.take s) ?_ l 0 σ.re ⟨0, rfl, by omega, rfl, rfl⟩) (fun b τ h => same_t1xra ⟨by rw [h.2], by rw [h.1]; exact Nat.le_refl _⟩) (fun τ h => same_t1x0a ⟨by rw [h.2, decide_eq_true rfl], by rw [h.1]; exact Nat.le_refl _⟩) (by omega))
 rintro k i τ ⟨s, rfl, hk, rfl, ha⟩
 by_cases hs : s < l
 rotate_left
 ·refine same_s1c ⟨rfl, ?_⟩ (by omega)
  rwa [List.take_of_length_le (by omega), List.take_of_length_le (by omega)] at ha
 have s1 := SlV.le h1 (le0 σ)
 have s2 := SlV.le h2 (le0 σ)
 obtain ⟨a, rfl, x, hx, l1⟩ := slv_at s1 hs
 obtain ⟨b, rfl, y, hy, l2⟩ := slv_at s2 hs
 have ba := slv_lt s1 a rfl
 have bb := slv_lt s2 b rfl
 by_cases e : x = y
 ·exact same_s1b l1 l2 record_c (by rw [neq79, decide_eq_true e]; rfl) ⟨k - 1, by omega, s + 1, by omega, by omega, rfl, by rw [take_snoc hx, take_snoc hy, ha, e]⟩
 ·refine same_s1a l1 l2 record_c (by rw [neq79, decide_eq_false e]; rfl) ⟨rfl, ?_⟩
  rw [decide_eq_false]
  intro k
  rw [k, hy] at hx
  exact e (Option.some.inj hx).symm
end
section
variable {s q3 q5 q6 slices qA p6_2 qEB qZ qJ parts q1 p2_1 qC qFB b p3_1 qK qV qT qGB qAB l p5_1 qHB qBB : Option Addr} {s_l s_c l3 c3 l5 c5 l6 c6 slices_l slices_c lA cA l6_2 c6_2 lEB cEB lZ cZ lK cQ parts_l parts_c l1 c1 l2_1 c2_1 lC cC lFB cFB b_l b_c l3_1 c3_1 lM cI lV cV lT cT lGB cGB lAB cAB l_l l_c l5_1 c5_1 lHB cHB lBB cBB : Nat} {n n1 n2 i3_1 i11_1 i27_2 r_Machine r_Seq r_Minute r_Kind r_A r_B i0_1 zH zD zF i4_1 i9_1 nA zG i10_1 nC i16_1 nG nE nF nD : Int} {σ4 σ σBB σN σ2 σD σJ σQ σY σCB σF σZ σDB : St} {Q : Value → St → Prop} {Inv : Nat → (Option Addr) → Nat → Nat → Int → St → Prop} {Q0 P0 Q2 P2 : (Option Addr) → Nat → Nat → St → Prop} {slices_a b_a q1_a l_a : Addr} {Nx : (Option Addr) → Nat → Nat → Int → St → Prop} {cs1 : List Value}
theorem growB_ra (h1 : seeOp Pg (evL [.slice s s_l s_c]) σ (.call { callee := .builtin .cap, args := ⟨tmpsTo 1⟩, argTypes := ⟨[22]⟩ }) = some (iV n1)) (h2 : seeOp Pg (evL [.slice s s_l s_c]) σ (.call { callee := .builtin .cap, args := ⟨tmpsTo 1⟩, argTypes := ⟨[22]⟩ }) = some (iV n2)) (h3 : sliceA Pg σ 22 (.slice s s_l s_c) none (some (iV n2)) none = some (.slice q3 l3 c3)) (h4 : appendA Pg 22 3 (.slice q3 l3 c3) (iV (n - (n1 - ((s_l : Nat) : Int)))) σ = some (.slice q5 l5 c5, σ4)) (h5 : sliceA Pg σ4 22 (.slice q5 l5 c5) none (some (iV ((s_l : Nat) : Int))) none = some (.slice q6 l6 c6)) (nx : Q (.slice q6 l6 c6) σ4) (u1 : ¬ n < 0 := by omega) (u2 : -9223372036854775808 ≤ n1 - ((s_l : Nat) : Int) ∧ n1 - ((s_l : Nat) : Int) ≤ 9223372036854775807 := by omega) (u3 : -9223372036854775808 ≤ n - (n1 - ((s_l : Nat) : Int)) ∧ n - (n1 - ((s_l : Nat) : Int)) ≤ 9223372036854775807 := by omega) (u4 : 0 < (n - (n1 - ((s_l : Nat) : Int))) := by omega) : RunsQ Pg 72 [.slice s s_l s_c, iV n] σ Q :=
 runsQ_of [.g, .g, .b false, .g, .g, .v (iV n1), .g, .g, .n (n1 - ((s_l : Nat) : Int)), .n (n - (n1 - ((s_l : Nat) : Int))), .g, .g, .b true, .g, .g, .v (iV n2), .v (.slice q3 l3 c3), .g, .e (.slice q5 l5 c5) σ4, .g, .g, .v (.slice q6 l6 c6), .g, .g, .g] (kc (by kernel_rfl) (ai (ltI_ff u1) (ai h1 (ai (wrap64 (n := n1 - ((s_l : Nat) : Int)) u2.1 u2.2) (ai (wrap64 (n := n - (n1 - ((s_l : Nat) : Int))) u3.1 u3.2) (ai (ltI_tt u4) (ai h2 (ai h3 (ai h4 (ai h5 nx))))))))))
theorem growB_rb (h1 : seeOp Pg (evL [.slice s s_l s_c]) σ (.call { callee := .builtin .cap, args := ⟨tmpsTo 1⟩, argTypes := ⟨[22]⟩ }) = some (iV n1)) (nx : Q (.slice s s_l s_c) σ) (u1 : ¬ n < 0 := by omega) (u2 : -9223372036854775808 ≤ n1 - ((s_l : Nat) : Int) ∧ n1 - ((s_l : Nat) : Int) ≤ 9223372036854775807 := by omega) (u3 : -9223372036854775808 ≤ n - (n1 - ((s_l : Nat) : Int)) ∧ n - (n1 - ((s_l : Nat) : Int)) ≤ 9223372036854775807 := by omega) (u4 : ¬ 0 < (n - (n1 - ((s_l : Nat) : Int))) := by omega) : RunsQ Pg 72 [.slice s s_l s_c, iV n] σ Q :=
 runsQ_of [.g, .g, .b false, .g, .g, .v (iV n1), .g, .g, .n (n1 - ((s_l : Nat) : Int)), .n (n - (n1 - ((s_l : Nat) : Int))), .g, .g, .b false, .g, .g] (kc (by kernel_rfl) (ai (ltI_ff u1) (ai h1 (ai (wrap64 (n := n1 - ((s_l : Nat) : Int)) u2.1 u2.2) (ai (wrap64 (n := n - (n1 - ((s_l : Nat) : Int))) u3.1 u3.2) (ai (ltI_ff u4) nx))))))
noncomputable def concB_c1 : Code := (Code.part [1, 1, 0, 1, 0, 0] (bodyOf Pg 54))
def concB_l1 (slices : Option Addr) (slices_l slices_c : Nat) (i3_1 i11_1 : Int) : List (Nat × Value) := [(0, .slice slices slices_l slices_c), (3, iV i3_1), (9, .slice slices slices_l slices_c), (10, iV ((slices_l : Nat) : Int)), (11, iV i11_1)]
def concB_a1n (slices : Option Addr) (slices_l slices_c : Nat) (Q : Int → Int → St → Prop) : Alt := ⟨Int × Int, .normal, fun t => concB_l1 slices slices_l slices_c t.1 t.2, fun t => [], fun t σ => Q t.1 t.2 σ⟩
def concB_l1x0 (slices : Option Addr) (slices_l slices_c : Nat) (i3_1 : Int) : List (Nat × Value) := [(0, .slice slices slices_l slices_c), (3, iV i3_1)]
def concB_a1x0 (slices : Option Addr) (slices_l slices_c : Nat) (Q : Int → St → Prop) : Alt := ⟨Int, (.exit 0), fun t => concB_l1x0 slices slices_l slices_c t, fun t => [], fun t σ => Q t σ⟩
def concB_B1 (slices : Option Addr) (slices_l slices_c : Nat) (i3_1 i11_1 : Int) (σ : St) (Nx : Int → Int → St → Prop) (Q0 : Int → St → Prop) : Prop := BodyG Pg (runA Pg) none concB_c1 36 (concB_l1 slices slices_l slices_c i3_1 i11_1) [] [concB_a1n slices slices_l slices_c Nx, concB_a1x0 slices slices_l slices_c Q0] σ
def concB_L1 (slices : Option Addr) (slices_l slices_c : Nat) (i3_1 i11_1 : Int) (σ : St) (Q0 : Int → St → Prop) : Prop := LoopG Pg (runA Pg) none concB_c1 36 (concB_l1 slices slices_l slices_c i3_1 i11_1) [] [concB_a1x0 slices slices_l slices_c Q0] σ
theorem concB_loop1 {Inv : Nat → Int → Int → St → Prop} {Q0 : Int → St → Prop} (hb : ∀ k i3_1 i11_1 σ, Inv k i3_1 i11_1 σ → concB_B1 slices slices_l slices_c i3_1 i11_1 σ (fun i3_1' i11_1' σ' => ∃ k', k' < k ∧ Inv k' i3_1' i11_1' σ') Q0) : ∀ k i3_1 i11_1 σ, Inv k i3_1 i11_1 σ → concB_L1 slices slices_l slices_c i3_1 i11_1 σ Q0 :=
 fun k i3_1 i11_1 σ h => loopG_inv (alts := [concB_a1x0 slices slices_l slices_c Q0]) (T := Int × Int) (lf := fun t => concB_l1 slices slices_l slices_c t.1 t.2) (mf := fun t => []) (Inv := fun k t σ => Inv k t.1 t.2 σ) (ai (exNe 0) trivial) (fun k t σ h => hb k t.1 t.2 σ h) k (i3_1, i11_1) σ h
theorem concB_s1a {Nx : Int → Int → St → Prop} {Q0 : Int → St → Prop} (h1 : loadA Pg σ 22 (aadd slices_a (Int.toNat i11_1 * 1)) = some (.slice qA lA cA)) (nx : Nx (i3_1 + ((lA : Nat) : Int)) (i11_1 + 1) σ) (u1 : i11_1 < ((slices_l : Nat) : Int) := by omega) (u2 : 0 ≤ i11_1 ∧ i11_1 < ((slices_l : Nat) : Int) := by omega) (u3 : -9223372036854775808 ≤ i3_1 + ((lA : Nat) : Int) ∧ i3_1 + ((lA : Nat) : Int) ≤ 9223372036854775807 := by omega) (u4 : ¬ (i3_1 + ((lA : Nat) : Int)) < 0 := by omega) (u5 : -9223372036854775808 ≤ i11_1 + 1 ∧ i11_1 + 1 ≤ 9223372036854775807 := by omega) : concB_B1 (some slices_a) slices_l slices_c i3_1 i11_1 σ Nx Q0 :=
 body_of [.b true, .i, .l (.slice qA lA cA), .g, .g, .g, .g, .n (i3_1 + ((lA : Nat) : Int)), .g, .g, .b false, .n (i11_1 + 1), .g, .fin (concB_a1n (some slices_a) slices_l slices_c Nx) ((i3_1 + ((lA : Nat) : Int)), i11_1 + 1)] (fun g => kc (by kernel_rfl) (ai (ltI_tt u1) (ai u2 (ai h1 (ai (wrap64 (n := i3_1 + ((lA : Nat) : Int)) u3.1 u3.2) (ai (ltI_ff u4) (ai (wrap64 (n := i11_1 + 1) u5.1 u5.2) (fin (alts := [concB_a1n (some slices_a) slices_l slices_c Nx, concB_a1x0 (some slices_a) slices_l slices_c Q0]) (concB_a1n (some slices_a) slices_l slices_c Nx) ((i3_1 + ((lA : Nat) : Int)), i11_1 + 1) nx in0))))))))
theorem concB_s1b {Nx : Int → Int → St → Prop} {Q0 : Int → St → Prop} (nx : Q0 i3_1 σ) (u1 : ¬ i11_1 < ((slices_l : Nat) : Int) := by omega) : concB_B1 slices slices_l slices_c i3_1 i11_1 σ Nx Q0 :=
 body_of [.b false, .fin (concB_a1x0 slices slices_l slices_c Q0) i3_1] (fun g => kc (by kernel_rfl) (ai (ltI_ff u1) (fin (alts := [concB_a1n slices slices_l slices_c Nx, concB_a1x0 slices slices_l slices_c Q0]) (concB_a1x0 slices slices_l slices_c Q0) i3_1 nx (inS in0))))
def concB_K1_0 (slices : Option Addr) (slices_l slices_c : Nat) (i3_1 : Int) (σ : St) (Q : Value → St → Prop) : Prop := ∀ g : Nat → Value, ∃ an, Hid (kAt Pg (runA Pg) none (bodyOf Pg 54) [1, 1, 0, 1, 0] (kFn Pg 54 Q) (.exit 0) ⟨Fm 36 (ov (concB_l1x0 slices slices_l slices_c i3_1) g), []⟩ σ an)
theorem concB_ra {P0 : Int → St → Prop} (hL : concB_L1 slices slices_l slices_c 0 0 σ P0) (k0 : ∀ i3_1' σ', P0 i3_1' σ' → concB_K1_0 slices slices_l slices_c i3_1' σ' Q) : RunsQ Pg 54 [.slice slices slices_l slices_c] σ Q :=
 runsQ_of [.g, .g, .g, .g, .g, .lf 36 (concB_l1 slices slices_l slices_c 0 0) [concB_a1x0 slices slices_l slices_c P0]] (kc (by kernel_rfl) (ai (ai tt (ai (arf (concB_l1 slices slices_l slices_c 0 0)) hL)) (ai (fun (t : Int) (g' : Nat → Value) (σ' : St) (q : P0 t σ') => k0 t σ' q g') trivial)))
noncomputable def concB_c2 : Code := (Code.part [1, 1, 1, 1, 0, 1, 0, 0] (bodyOf Pg 54))
def concB_l2 (slices : Option Addr) (slices_l slices_c : Nat) (p6_2 : Option Addr) (l6_2 c6_2 : Nat) (i27_2 : Int) : List (Nat × Value) := [(6, .slice p6_2 l6_2 c6_2), (25, .slice slices slices_l slices_c), (26, iV ((slices_l : Nat) : Int)), (27, iV i27_2)]
def concB_a2n (slices : Option Addr) (slices_l slices_c : Nat) (Q : (Option Addr) → Nat → Nat → Int → St → Prop) : Alt := ⟨(Option Addr) × Nat × Nat × Int, .normal, fun t => concB_l2 slices slices_l slices_c t.1 t.2.1 t.2.2.1 t.2.2.2, fun t => [], fun t σ => Q t.1 t.2.1 t.2.2.1 t.2.2.2 σ⟩
def concB_l2x2 (slices : Option Addr) (slices_l slices_c : Nat) (p6_2 : Option Addr) (l6_2 c6_2 : Nat) : List (Nat × Value) := [(6, .slice p6_2 l6_2 c6_2)]
def concB_a2x2 (slices : Option Addr) (slices_l slices_c : Nat) (Q : (Option Addr) → Nat → Nat → St → Prop) : Alt := ⟨(Option Addr) × Nat × Nat, (.exit 2), fun t => concB_l2x2 slices slices_l slices_c t.1 t.2.1 t.2.2, fun t => [], fun t σ => Q t.1 t.2.1 t.2.2 σ⟩
def concB_B2 (slices : Option Addr) (slices_l slices_c : Nat) (p6_2 : Option Addr) (l6_2 c6_2 : Nat) (i27_2 : Int) (σ : St) (Nx : (Option Addr) → Nat → Nat → Int → St → Prop) (Q2 : (Option Addr) → Nat → Nat → St → Prop) : Prop := BodyG Pg (runA Pg) none concB_c2 36 (concB_l2 slices slices_l slices_c p6_2 l6_2 c6_2 i27_2) [] [concB_a2n slices slices_l slices_c Nx, concB_a2x2 slices slices_l slices_c Q2] σ
def concB_L2 (slices : Option Addr) (slices_l slices_c : Nat) (p6_2 : Option Addr) (l6_2 c6_2 : Nat) (i27_2 : Int) (σ : St) (Q2 : (Option Addr) → Nat → Nat → St → Prop) : Prop := LoopG Pg (runA Pg) none concB_c2 36 (concB_l2 slices slices_l slices_c p6_2 l6_2 c6_2 i27_2) [] [concB_a2x2 slices slices_l slices_c Q2] σ
theorem concB_loop2 (hb : ∀ k p6_2 l6_2 c6_2 i27_2 σ, Inv k p6_2 l6_2 c6_2 i27_2 σ → concB_B2 slices slices_l slices_c p6_2 l6_2 c6_2 i27_2 σ (fun p6_2' l6_2' c6_2' i27_2' σ' => ∃ k', k' < k ∧ Inv k' p6_2' l6_2' c6_2' i27_2' σ') Q2) : ∀ k p6_2 l6_2 c6_2 i27_2 σ, Inv k p6_2 l6_2 c6_2 i27_2 σ → concB_L2 slices slices_l slices_c p6_2 l6_2 c6_2 i27_2 σ Q2 :=
 fun k p6_2 l6_2 c6_2 i27_2 σ h => loopG_inv (alts := [concB_a2x2 slices slices_l slices_c Q2]) (T := (Option Addr) × Nat × Nat × Int) (lf := fun t => concB_l2 slices slices_l slices_c t.1 t.2.1 t.2.2.1 t.2.2.2) (mf := fun t => []) (Inv := fun k t σ => Inv k t.1 t.2.1 t.2.2.1 t.2.2.2 σ) (ai (exNe 2) trivial) (fun k t σ h => hb k t.1 t.2.1 t.2.2.1 t.2.2.2 σ h) k (p6_2, l6_2, c6_2, i27_2) σ h
theorem concB_s2a (h1 : loadA Pg σ 22 (aadd slices_a (Int.toNat i27_2 * 1)) = some (.slice qEB lEB cEB)) (h2 : appendA Pg 22 22 (.slice p6_2 l6_2 c6_2) (.slice qEB lEB cEB) σ = some (.slice qZ lZ cZ, σBB)) (nx : Nx qZ lZ cZ (i27_2 + 1) σBB) (u1 : i27_2 < ((slices_l : Nat) : Int) := by omega) (u2 : 0 ≤ i27_2 ∧ i27_2 < ((slices_l : Nat) : Int) := by omega) (u3 : -9223372036854775808 ≤ i27_2 + 1 ∧ i27_2 + 1 ≤ 9223372036854775807 := by omega) : concB_B2 (some slices_a) slices_l slices_c p6_2 l6_2 c6_2 i27_2 σ Nx Q2 :=
 body_of [.b true, .i, .l (.slice qEB lEB cEB), .g, .g, .g, .e (.slice qZ lZ cZ) σBB, .g, .n (i27_2 + 1), .g, .fin (concB_a2n (some slices_a) slices_l slices_c Nx) (qZ, lZ, cZ, i27_2 + 1)] (fun g => kc (by kernel_rfl) (ai (ltI_tt u1) (ai u2 (ai h1 (ai h2 (ai (wrap64 (n := i27_2 + 1) u3.1 u3.2) (fin (alts := [concB_a2n (some slices_a) slices_l slices_c Nx, concB_a2x2 (some slices_a) slices_l slices_c Q2]) (concB_a2n (some slices_a) slices_l slices_c Nx) (qZ, lZ, cZ, i27_2 + 1) nx in0)))))))
theorem concB_s2b (nx : Q2 p6_2 l6_2 c6_2 σ) (u1 : ¬ i27_2 < ((slices_l : Nat) : Int) := by omega) : concB_B2 slices slices_l slices_c p6_2 l6_2 c6_2 i27_2 σ Nx Q2 :=
 body_of [.b false, .fin (concB_a2x2 slices slices_l slices_c Q2) (p6_2, l6_2, c6_2)] (fun g => kc (by kernel_rfl) (ai (ltI_ff u1) (fin (alts := [concB_a2n slices slices_l slices_c Nx, concB_a2x2 slices slices_l slices_c Q2]) (concB_a2x2 slices slices_l slices_c Q2) (p6_2, l6_2, c6_2) nx (inS in0))))
def concB_K2_2 (slices : Option Addr) (slices_l slices_c : Nat) (p6_2 : Option Addr) (l6_2 c6_2 : Nat) (σ : St) (Q : Value → St → Prop) : Prop := ∀ g : Nat → Value, ∃ an, Hid (kAt Pg (runA Pg) none (bodyOf Pg 54) [1, 1, 1, 1, 0, 1, 0] (kFn Pg 54 Q) (.exit 2) ⟨Fm 36 (ov (concB_l2x2 slices slices_l slices_c p6_2 l6_2 c6_2) g), []⟩ σ an)
theorem concB_t1x0a (h1 : CallsA Pg 72 [.slice none 0 0, iV i3_1] σ (.slice qJ lK cQ) σN) (hL : concB_L2 slices slices_l slices_c qJ lK cQ 0 σN P2) (k2 : ∀ p6_2' l6_2' c6_2' σ', P2 p6_2' l6_2' c6_2' σ' → concB_K2_2 slices slices_l slices_c p6_2' l6_2' c6_2' σ' Q) : concB_K1_0 slices slices_l slices_c i3_1 σ Q :=
 fun g => ⟨[.g, .c (.slice qJ lK cQ) σN, .g, .g, .g, .g, .lf 36 (concB_l2 slices slices_l slices_c qJ lK cQ 0) [concB_a2x2 slices slices_l slices_c P2]], kc (by kernel_rfl) (ai h1 (ai (ai tt (ai (arf (concB_l2 slices slices_l slices_c qJ lK cQ 0)) hL)) (ai (fun (t : (Option Addr) × Nat × Nat) (g' : Nat → Value) (σ' : St) (q : P2 t.1 t.2.1 t.2.2 σ') => k2 t.1 t.2.1 t.2.2 σ' q g') trivial)))⟩
theorem concB_t2x2a (nx : Q (.slice p6_2 l6_2 c6_2) σ) : concB_K2_2 slices slices_l slices_c p6_2 l6_2 c6_2 σ Q :=
 fun g => ⟨[.g, .g], kc (by kernel_rfl) nx⟩
theorem join_ra (h1 : CallsA Pg 54 [.slice parts parts_l parts_c] σ (.slice q1 l1 c1) σ2) (nx : Q (.slice q1 l1 c1) σ2) : RunsQ Pg 28 [.slice parts parts_l parts_c] σ Q :=
 runsQ_of [.g, .g, .c (.slice q1 l1 c1) σ2, .g] (kc (by kernel_rfl) (ai h1 nx))
theorem fields_ra (nx : Q (.agg ⟨ints6 r_Machine r_Seq r_Minute r_Kind r_A r_B⟩) (((σ.row (rcd r_Machine r_Seq r_Minute r_Kind r_A r_B) 6).row (ints6 0 0 0 0 0 0) 1).own (σ.q + 1) (ints6 r_Machine r_Seq r_Minute r_Kind r_A r_B) 1)) (u1 : -9223372036854775808 ≤ r_Kind ∧ r_Kind ≤ 9223372036854775807 := by omega) : RunsQ Pg 64 [.agg ⟨rcd r_Machine r_Seq r_Minute r_Kind r_A r_B⟩] σ Q :=
 runsQ_of [.g, .g, .g, .l (iV r_Machine), .g, .l (iV r_Seq), .g, .l (iV r_Minute), .g, .l (.int .u8 r_Kind), .n r_Kind, .g, .l (iV r_A), .g, .l (iV r_B), .g, .e undef (((σ.row (rcd r_Machine r_Seq r_Minute r_Kind r_A r_B) 6).row (ints6 0 0 0 0 0 0) 1).own (σ.q + 1) (ints6 r_Machine r_Seq r_Minute r_Kind r_A r_B) 1), .l (.agg ⟨ints6 r_Machine r_Seq r_Minute r_Kind r_A r_B⟩)] (kc (by kernel_rfl) (ai ((own_new _ _ _).row.rw.ld agg3 (k := 0) rfl : loadA Pg ((σ.row (rcd r_Machine r_Seq r_Minute r_Kind r_A r_B) 6).row (ints6 0 0 0 0 0 0) 1) 3 ⟨σ.q, 0, none⟩ = some (iV r_Machine)) (ai ((own_new _ _ _).row.rw.ld agg3 (k := 1) rfl : loadA Pg ((σ.row (rcd r_Machine r_Seq r_Minute r_Kind r_A r_B) 6).row (ints6 0 0 0 0 0 0) 1) 3 ⟨σ.q, 1, none⟩ = some (iV r_Seq)) (ai ((own_new _ _ _).row.rw.ld agg3 (k := 2) rfl : loadA Pg ((σ.row (rcd r_Machine r_Seq r_Minute r_Kind r_A r_B) 6).row (ints6 0 0 0 0 0 0) 1) 3 ⟨σ.q, 2, none⟩ = some (iV r_Minute)) (ai ((own_new _ _ _).row.rw.ld agg5 (k := 3) rfl : loadA Pg ((σ.row (rcd r_Machine r_Seq r_Minute r_Kind r_A r_B) 6).row (ints6 0 0 0 0 0 0) 1) 5 ⟨σ.q, 3, none⟩ = some (.int .u8 r_Kind)) (ai (wrap64 (n := r_Kind) u1.1 u1.2) (ai ((own_new _ _ _).row.rw.ld agg3 (k := 4) rfl : loadA Pg ((σ.row (rcd r_Machine r_Seq r_Minute r_Kind r_A r_B) 6).row (ints6 0 0 0 0 0 0) 1) 3 ⟨σ.q, 4, none⟩ = some (iV r_A)) (ai ((own_new _ _ _).row.rw.ld agg3 (k := 5) rfl : loadA Pg ((σ.row (rcd r_Machine r_Seq r_Minute r_Kind r_A r_B) 6).row (ints6 0 0 0 0 0 0) 1) 3 ⟨σ.q, 5, none⟩ = some (iV r_B)) (ai ((own_new _ _ _).store (vs := (ints6 r_Machine r_Seq r_Minute r_Kind r_A r_B)) rfl size98 rfl (by first | (simp; done) | (simp; omega)) rfl : effOp Pg (evL [.pointer (some ⟨(σ.q + 1), 0, none⟩), .agg ⟨ints6 r_Machine r_Seq r_Minute r_Kind r_A r_B⟩]) ((σ.row (rcd r_Machine r_Seq r_Minute r_Kind r_A r_B) 6).row (ints6 0 0 0 0 0 0) 1) (.store 98 (.tmp 0) (.tmp 1)) = some (undef, (((σ.row (rcd r_Machine r_Seq r_Minute r_Kind r_A r_B) 6).row (ints6 0 0 0 0 0 0) 1).own (σ.q + 1) (ints6 r_Machine r_Seq r_Minute r_Kind r_A r_B) 1))) (ai ((own_new _ _ _).put.rw.ldN agg98 size98 (k := 0) rfl rfl (by first | (simp; done) | (simp; omega)) : loadA Pg (((σ.row (rcd r_Machine r_Seq r_Minute r_Kind r_A r_B) 6).row (ints6 0 0 0 0 0 0) 1).own (σ.q + 1) (ints6 r_Machine r_Seq r_Minute r_Kind r_A r_B) 1) 98 ⟨(σ.q + 1), 0, none⟩ = some (.agg ⟨ints6 r_Machine r_Seq r_Minute r_Kind r_A r_B⟩)) nx))))))))))
noncomputable def number_c1 : Code := (Code.part [1, 0, 0, 0] (bodyOf Pg 65))
def number_l1 (i0_1 : Int) (p2_1 : Option Addr) (l2_1 c2_1 : Nat) : List (Nat × Value) := [(0, iV i0_1), (2, .slice p2_1 l2_1 c2_1)]
def number_a1n (Q : Int → (Option Addr) → Nat → Nat → St → Prop) : Alt := ⟨Int × (Option Addr) × Nat × Nat, .normal, fun t => number_l1 t.1 t.2.1 t.2.2.1 t.2.2.2, fun t => [], fun t σ => Q t.1 t.2.1 t.2.2.1 t.2.2.2 σ⟩
def number_l1x0 (i0_1 : Int) (p2_1 : Option Addr) (l2_1 c2_1 : Nat) : List (Nat × Value) := [(0, iV i0_1), (2, .slice p2_1 l2_1 c2_1)]
def number_a1x0 (Q : Int → (Option Addr) → Nat → Nat → St → Prop) : Alt := ⟨Int × (Option Addr) × Nat × Nat, (.exit 0), fun t => number_l1x0 t.1 t.2.1 t.2.2.1 t.2.2.2, fun t => [], fun t σ => Q t.1 t.2.1 t.2.2.1 t.2.2.2 σ⟩
def number_B1 (i0_1 : Int) (p2_1 : Option Addr) (l2_1 c2_1 : Nat) (σ : St) (Nx : Int → (Option Addr) → Nat → Nat → St → Prop) (Q0 : Int → (Option Addr) → Nat → Nat → St → Prop) : Prop := BodyG Pg (runA Pg) none number_c1 19 (number_l1 i0_1 p2_1 l2_1 c2_1) [] [number_a1n Nx, number_a1x0 Q0] σ
def number_L1 (i0_1 : Int) (p2_1 : Option Addr) (l2_1 c2_1 : Nat) (σ : St) (Q0 : Int → (Option Addr) → Nat → Nat → St → Prop) : Prop := LoopG Pg (runA Pg) none number_c1 19 (number_l1 i0_1 p2_1 l2_1 c2_1) [] [number_a1x0 Q0] σ
theorem number_loop1 {Inv : Nat → Int → (Option Addr) → Nat → Nat → St → Prop} {Q0 : Int → (Option Addr) → Nat → Nat → St → Prop} (hb : ∀ k i0_1 p2_1 l2_1 c2_1 σ, Inv k i0_1 p2_1 l2_1 c2_1 σ → number_B1 i0_1 p2_1 l2_1 c2_1 σ (fun i0_1' p2_1' l2_1' c2_1' σ' => ∃ k', k' < k ∧ Inv k' i0_1' p2_1' l2_1' c2_1' σ') Q0) : ∀ k i0_1 p2_1 l2_1 c2_1 σ, Inv k i0_1 p2_1 l2_1 c2_1 σ → number_L1 i0_1 p2_1 l2_1 c2_1 σ Q0 :=
 fun k i0_1 p2_1 l2_1 c2_1 σ h => loopG_inv (alts := [number_a1x0 Q0]) (T := Int × (Option Addr) × Nat × Nat) (lf := fun t => number_l1 t.1 t.2.1 t.2.2.1 t.2.2.2) (mf := fun t => []) (Inv := fun k t σ => Inv k t.1 t.2.1 t.2.2.1 t.2.2.2 σ) (ai (exNe 0) trivial) (fun k t σ h => hb k t.1 t.2.1 t.2.2.1 t.2.2.2 σ h) k (i0_1, p2_1, l2_1, c2_1) σ h
theorem number_s1a {Nx : Int → (Option Addr) → Nat → Nat → St → Prop} {Q0 : Int → (Option Addr) → Nat → Nat → St → Prop} (h1 : wrapK .u8 ((Int.tmod i0_1 128)) = zH) (h2 : wrapK .u8 (Int.add zH 128) = zD) (h3 : appendA Pg 22 22 (.slice p2_1 l2_1 c2_1) (.slice (some ⟨σ.q, 0, none⟩) 1 1) (σ.row [.int .u8 zD] 1) = some (.slice qC lC cC, σD)) (h4 : IntKind.wrap .i64 (Int.tdiv i0_1 128) = Int.tdiv i0_1 128) (nx : Nx (Int.tdiv i0_1 128) qC lC cC σD) (u1 : 127 < i0_1 := by omega) : number_B1 i0_1 p2_1 l2_1 c2_1 σ Nx Q0 :=
 body_of [.g, .b true, .g, .g, .g, .n zH, .n zD, .g, .e (.slice qC lC cC) σD, .g, .g, .n (Int.tdiv i0_1 128), .g, .fin (number_a1n Nx) (Int.tdiv i0_1 128, qC, lC, cC)] (fun g => kc (by kernel_rfl) (ai (ltI_tt u1) (ai h1 (ai h2 (ai h3 (ai h4 (fin (alts := [number_a1n Nx, number_a1x0 Q0]) (number_a1n Nx) (Int.tdiv i0_1 128, qC, lC, cC) nx in0)))))))
theorem number_s1b {Nx : Int → (Option Addr) → Nat → Nat → St → Prop} {Q0 : Int → (Option Addr) → Nat → Nat → St → Prop} (nx : Q0 i0_1 p2_1 l2_1 c2_1 σ) (u1 : ¬ 127 < i0_1 := by omega) : number_B1 i0_1 p2_1 l2_1 c2_1 σ Nx Q0 :=
 body_of [.g, .b false, .fin (number_a1x0 Q0) (i0_1, p2_1, l2_1, c2_1)] (fun g => kc (by kernel_rfl) (ai (ltI_ff u1) (fin (alts := [number_a1n Nx, number_a1x0 Q0]) (number_a1x0 Q0) (i0_1, p2_1, l2_1, c2_1) nx (inS in0))))
def number_K1_0 (i0_1 : Int) (p2_1 : Option Addr) (l2_1 c2_1 : Nat) (σ : St) (Q : Value → St → Prop) : Prop := ∀ g : Nat → Value, ∃ an, Hid (kAt Pg (runA Pg) none (bodyOf Pg 65) [1, 0, 0] (kFn Pg 65 Q) (.exit 0) ⟨Fm 19 (ov (number_l1x0 i0_1 p2_1 l2_1 c2_1) g), []⟩ σ an)
theorem number_ra {P0 : Int → (Option Addr) → Nat → Nat → St → Prop} (hL : number_L1 n none 0 0 σ P0) (k0 : ∀ i0_1' p2_1' l2_1' c2_1' σ', P0 i0_1' p2_1' l2_1' c2_1' σ' → number_K1_0 i0_1' p2_1' l2_1' c2_1' σ' Q) : RunsQ Pg 65 [iV n] σ Q :=
 runsQ_of [.g, .lf 19 (number_l1 n none 0 0) [number_a1x0 P0]] (kc (by kernel_rfl) (ai (ai tt (ai (arf (number_l1 n none 0 0)) hL)) (ai (fun (t : Int × (Option Addr) × Nat × Nat) (g' : Nat → Value) (σ' : St) (q : P0 t.1 t.2.1 t.2.2.1 t.2.2.2 σ') => k0 t.1 t.2.1 t.2.2.1 t.2.2.2 σ' q g') trivial)))
theorem number_t1x0a (h1 : wrapK .u8 (i0_1) = zF) (h2 : appendA Pg 22 22 (.slice p2_1 l2_1 c2_1) (.slice (some ⟨σ.q, 0, none⟩) 1 1) (σ.row [.int .u8 zF] 1) = some (.slice qFB lFB cFB, σN)) (nx : Q (.slice qFB lFB cFB) σN) : number_K1_0 i0_1 p2_1 l2_1 c2_1 σ Q :=
 fun g => ⟨[.g, .g, .n zF, .g, .e (.slice qFB lFB cFB) σN, .g], kc (by kernel_rfl) (ai h1 (ai h2 nx))⟩
noncomputable def check_c1 : Code := (Code.part [1, 1, 0, 1, 0, 0] (bodyOf Pg 66))
def check_l1 (b : Option Addr) (b_l b_c : Nat) (i3_1 i4_1 i9_1 : Int) : List (Nat × Value) := [(3, .int .u8 i3_1), (4, .int .u8 i4_1), (7, .slice b b_l b_c), (8, iV ((b_l : Nat) : Int)), (9, iV i9_1)]
def check_a1n (b : Option Addr) (b_l b_c : Nat) (Q : Int → Int → Int → St → Prop) : Alt := ⟨Int × Int × Int, .normal, fun t => check_l1 b b_l b_c t.1 t.2.1 t.2.2, fun t => [], fun t σ => Q t.1 t.2.1 t.2.2 σ⟩
def check_l1x0 (b : Option Addr) (b_l b_c : Nat) (i3_1 i4_1 : Int) : List (Nat × Value) := [(3, .int .u8 i3_1), (4, .int .u8 i4_1)]
def check_a1x0 (b : Option Addr) (b_l b_c : Nat) (Q : Int → Int → St → Prop) : Alt := ⟨Int × Int, (.exit 0), fun t => check_l1x0 b b_l b_c t.1 t.2, fun t => [], fun t σ => Q t.1 t.2 σ⟩
def check_B1 (b : Option Addr) (b_l b_c : Nat) (i3_1 i4_1 i9_1 : Int) (σ : St) (Nx : Int → Int → Int → St → Prop) (Q0 : Int → Int → St → Prop) : Prop := BodyG Pg (runA Pg) none check_c1 23 (check_l1 b b_l b_c i3_1 i4_1 i9_1) [] [check_a1n b b_l b_c Nx, check_a1x0 b b_l b_c Q0] σ
def check_L1 (b : Option Addr) (b_l b_c : Nat) (i3_1 i4_1 i9_1 : Int) (σ : St) (Q0 : Int → Int → St → Prop) : Prop := LoopG Pg (runA Pg) none check_c1 23 (check_l1 b b_l b_c i3_1 i4_1 i9_1) [] [check_a1x0 b b_l b_c Q0] σ
theorem check_loop1 {Inv : Nat → Int → Int → Int → St → Prop} {Q0 : Int → Int → St → Prop} (hb : ∀ k i3_1 i4_1 i9_1 σ, Inv k i3_1 i4_1 i9_1 σ → check_B1 b b_l b_c i3_1 i4_1 i9_1 σ (fun i3_1' i4_1' i9_1' σ' => ∃ k', k' < k ∧ Inv k' i3_1' i4_1' i9_1' σ') Q0) : ∀ k i3_1 i4_1 i9_1 σ, Inv k i3_1 i4_1 i9_1 σ → check_L1 b b_l b_c i3_1 i4_1 i9_1 σ Q0 :=
 fun k i3_1 i4_1 i9_1 σ h => loopG_inv (alts := [check_a1x0 b b_l b_c Q0]) (T := Int × Int × Int) (lf := fun t => check_l1 b b_l b_c t.1 t.2.1 t.2.2) (mf := fun t => []) (Inv := fun k t σ => Inv k t.1 t.2.1 t.2.2 σ) (ai (exNe 0) trivial) (fun k t σ h => hb k t.1 t.2.1 t.2.2 σ h) k (i3_1, i4_1, i9_1) σ h
theorem check_s1a {Nx : Int → Int → Int → St → Prop} {Q0 : Int → Int → St → Prop} (h1 : loadA Pg σ 5 (aadd b_a (Int.toNat i9_1 * 1)) = some (.int .u8 nA)) (h2 : wrapK .u8 (Int.add i3_1 nA) = zD) (h3 : wrapK .u8 (Int.add i4_1 zD) = zG) (nx : Nx zD zG (i9_1 + 1) σ) (u1 : i9_1 < ((b_l : Nat) : Int) := by omega) (u2 : 0 ≤ i9_1 ∧ i9_1 < ((b_l : Nat) : Int) := by omega) (u3 : -9223372036854775808 ≤ i9_1 + 1 ∧ i9_1 + 1 ≤ 9223372036854775807 := by omega) : check_B1 (some b_a) b_l b_c i3_1 i4_1 i9_1 σ Nx Q0 :=
 body_of [.b true, .i, .l (.int .u8 nA), .g, .g, .g, .n zD, .g, .g, .g, .n zG, .g, .n (i9_1 + 1), .g, .fin (check_a1n (some b_a) b_l b_c Nx) (zD, zG, i9_1 + 1)] (fun g => kc (by kernel_rfl) (ai (ltI_tt u1) (ai u2 (ai h1 (ai h2 (ai h3 (ai (wrap64 (n := i9_1 + 1) u3.1 u3.2) (fin (alts := [check_a1n (some b_a) b_l b_c Nx, check_a1x0 (some b_a) b_l b_c Q0]) (check_a1n (some b_a) b_l b_c Nx) (zD, zG, i9_1 + 1) nx in0))))))))
theorem check_s1b {Nx : Int → Int → Int → St → Prop} {Q0 : Int → Int → St → Prop} (nx : Q0 i3_1 i4_1 σ) (u1 : ¬ i9_1 < ((b_l : Nat) : Int) := by omega) : check_B1 b b_l b_c i3_1 i4_1 i9_1 σ Nx Q0 :=
 body_of [.b false, .fin (check_a1x0 b b_l b_c Q0) (i3_1, i4_1)] (fun g => kc (by kernel_rfl) (ai (ltI_ff u1) (fin (alts := [check_a1n b b_l b_c Nx, check_a1x0 b b_l b_c Q0]) (check_a1x0 b b_l b_c Q0) (i3_1, i4_1) nx (inS in0))))
def check_K1_0 (b : Option Addr) (b_l b_c : Nat) (i3_1 i4_1 : Int) (σ : St) (Q : Value → St → Prop) : Prop := ∀ g : Nat → Value, ∃ an, Hid (kAt Pg (runA Pg) none (bodyOf Pg 66) [1, 1, 0, 1, 0] (kFn Pg 66 Q) (.exit 0) ⟨Fm 23 (ov (check_l1x0 b b_l b_c i3_1 i4_1) g), []⟩ σ an)
theorem check_ra {P0 : Int → Int → St → Prop} (hL : check_L1 b b_l b_c 0 0 0 σ P0) (k0 : ∀ i3_1' i4_1' σ', P0 i3_1' i4_1' σ' → check_K1_0 b b_l b_c i3_1' i4_1' σ' Q) : RunsQ Pg 66 [.slice b b_l b_c] σ Q :=
 runsQ_of [.g, .g, .g, .g, .g, .g, .lf 23 (check_l1 b b_l b_c 0 0 0) [check_a1x0 b b_l b_c P0]] (kc (by kernel_rfl) (ai (ai tt (ai (arf (check_l1 b b_l b_c 0 0 0)) hL)) (ai (fun (t : Int × Int) (g' : Nat → Value) (σ' : St) (q : P0 t.1 t.2 σ') => k0 t.1 t.2 σ' q g') trivial)))
theorem check_t1x0a (nx : Q (.slice (some ⟨σ.q, 0, none⟩) 2 2) (σ.row [.int .u8 i3_1, .int .u8 i4_1] 1)) : check_K1_0 b b_l b_c i3_1 i4_1 σ Q :=
 fun g => ⟨[.g, .g, .g, .g], kc (by kernel_rfl) nx⟩
noncomputable def content_c1 : Code := (Code.part [1, 1, 0, 1, 0, 0] (bodyOf Pg 47))
def content_l1 (cs1 : List Value) (p3_1 : Option Addr) (l3_1 c3_1 : Nat) (i9_1 : Int) : List (Nat × Value) := [(3, .slice p3_1 l3_1 c3_1), (8, .agg ⟨cs1⟩), (9, iV i9_1)]
def content_a1n (cs1 : List Value) (Q : (Option Addr) → Nat → Nat → Int → St → Prop) : Alt := ⟨(Option Addr) × Nat × Nat × Int, .normal, fun t => content_l1 cs1 t.1 t.2.1 t.2.2.1 t.2.2.2, fun t => [], fun t σ => Q t.1 t.2.1 t.2.2.1 t.2.2.2 σ⟩
def content_l1x0 (cs1 : List Value) (p3_1 : Option Addr) (l3_1 c3_1 : Nat) : List (Nat × Value) := [(3, .slice p3_1 l3_1 c3_1)]
def content_a1x0 (cs1 : List Value) (Q : (Option Addr) → Nat → Nat → St → Prop) : Alt := ⟨(Option Addr) × Nat × Nat, (.exit 0), fun t => content_l1x0 cs1 t.1 t.2.1 t.2.2, fun t => [], fun t σ => Q t.1 t.2.1 t.2.2 σ⟩
def content_B1 (cs1 : List Value) (p3_1 : Option Addr) (l3_1 c3_1 : Nat) (i9_1 : Int) (σ : St) (Nx : (Option Addr) → Nat → Nat → Int → St → Prop) (Q0 : (Option Addr) → Nat → Nat → St → Prop) : Prop := BodyG Pg (runA Pg) none content_c1 30 (content_l1 cs1 p3_1 l3_1 c3_1 i9_1) [] [content_a1n cs1 Nx, content_a1x0 cs1 Q0] σ
def content_L1 (cs1 : List Value) (p3_1 : Option Addr) (l3_1 c3_1 : Nat) (i9_1 : Int) (σ : St) (Q0 : (Option Addr) → Nat → Nat → St → Prop) : Prop := LoopG Pg (runA Pg) none content_c1 30 (content_l1 cs1 p3_1 l3_1 c3_1 i9_1) [] [content_a1x0 cs1 Q0] σ
theorem content_loop1 (hb : ∀ k p3_1 l3_1 c3_1 i9_1 σ, Inv k p3_1 l3_1 c3_1 i9_1 σ → content_B1 cs1 p3_1 l3_1 c3_1 i9_1 σ (fun p3_1' l3_1' c3_1' i9_1' σ' => ∃ k', k' < k ∧ Inv k' p3_1' l3_1' c3_1' i9_1' σ') Q0) : ∀ k p3_1 l3_1 c3_1 i9_1 σ, Inv k p3_1 l3_1 c3_1 i9_1 σ → content_L1 cs1 p3_1 l3_1 c3_1 i9_1 σ Q0 :=
 fun k p3_1 l3_1 c3_1 i9_1 σ h => loopG_inv (alts := [content_a1x0 cs1 Q0]) (T := (Option Addr) × Nat × Nat × Int) (lf := fun t => content_l1 cs1 t.1 t.2.1 t.2.2.1 t.2.2.2) (mf := fun t => []) (Inv := fun k t σ => Inv k t.1 t.2.1 t.2.2.1 t.2.2.2 σ) (ai (exNe 0) trivial) (fun k t σ h => hb k t.1 t.2.1 t.2.2.1 t.2.2.2 σ h) k (p3_1, l3_1, c3_1, i9_1) σ h
theorem content_s1a (h1 : indexA Pg 98 (.agg ⟨cs1⟩) (iV i9_1) = some (iV nA)) (h2 : CallsA Pg 65 [iV nA] σ (.slice qK lM cI) σD) (h3 : CallsA Pg 28 [.slice (some ⟨σD.q, 0, none⟩) 2 2] (σD.row [.slice p3_1 l3_1 c3_1, .slice qK lM cI] 1) (.slice qC lC cC) σJ) (nx : Nx qC lC cC (i9_1 + 1) σJ) (u1 : i9_1 < 6 := by omega) (u2 : -9223372036854775808 ≤ i9_1 + 1 ∧ i9_1 + 1 ≤ 9223372036854775807 := by omega) : content_B1 cs1 p3_1 l3_1 c3_1 i9_1 σ Nx Q0 :=
 body_of [.b true, .v (iV nA), .g, .g, .g, .c (.slice qK lM cI) σD, .g, .c (.slice qC lC cC) σJ, .g, .n (i9_1 + 1), .g, .fin (content_a1n cs1 Nx) (qC, lC, cC, i9_1 + 1)] (fun g => kc (by kernel_rfl) (ai (ltI_tt u1) (ai h1 (ai h2 (ai h3 (ai (wrap64 (n := i9_1 + 1) u2.1 u2.2) (fin (alts := [content_a1n cs1 Nx, content_a1x0 cs1 Q0]) (content_a1n cs1 Nx) (qC, lC, cC, i9_1 + 1) nx in0)))))))
theorem content_s1b (nx : Q0 p3_1 l3_1 c3_1 σ) (u1 : ¬ i9_1 < 6 := by omega) : content_B1 cs1 p3_1 l3_1 c3_1 i9_1 σ Nx Q0 :=
 body_of [.b false, .fin (content_a1x0 cs1 Q0) (p3_1, l3_1, c3_1)] (fun g => kc (by kernel_rfl) (ai (ltI_ff u1) (fin (alts := [content_a1n cs1 Nx, content_a1x0 cs1 Q0]) (content_a1x0 cs1 Q0) (p3_1, l3_1, c3_1) nx (inS in0))))
def content_K1_0 (cs1 : List Value) (p3_1 : Option Addr) (l3_1 c3_1 : Nat) (σ : St) (Q : Value → St → Prop) : Prop := ∀ g : Nat → Value, ∃ an, Hid (kAt Pg (runA Pg) none (bodyOf Pg 47) [1, 1, 0, 1, 0] (kFn Pg 47 Q) (.exit 0) ⟨Fm 30 (ov (content_l1x0 cs1 p3_1 l3_1 c3_1) g), []⟩ σ an)
theorem content_ra (h1 : CallsA Pg 64 [.agg ⟨rcd r_Machine r_Seq r_Minute r_Kind r_A r_B⟩] (σ.row (rcd r_Machine r_Seq r_Minute r_Kind r_A r_B) 6) (.agg ⟨cs1⟩) (σ.row (rcd r_Machine r_Seq r_Minute r_Kind r_A r_B) 6)) (hL : content_L1 cs1 none 0 0 0 (σ.row (rcd r_Machine r_Seq r_Minute r_Kind r_A r_B) 6) P0) (k0 : ∀ p3_1' l3_1' c3_1' σ', P0 p3_1' l3_1' c3_1' σ' → content_K1_0 cs1 p3_1' l3_1' c3_1' σ' Q) : RunsQ Pg 47 [.agg ⟨rcd r_Machine r_Seq r_Minute r_Kind r_A r_B⟩] σ Q :=
 runsQ_of [.g, .g, .g, .l (.agg ⟨rcd r_Machine r_Seq r_Minute r_Kind r_A r_B⟩), .c (.agg ⟨cs1⟩) (σ.row (rcd r_Machine r_Seq r_Minute r_Kind r_A r_B) 6), .g, .lf 30 (content_l1 cs1 none 0 0 0) [content_a1x0 cs1 P0]] (kc (by kernel_rfl) (ai ((own_new _ _ _).rw.ldN agg40 size40 (k := 0) rfl rfl (by first | (simp; done) | (simp; omega)) : loadA Pg (σ.row (rcd r_Machine r_Seq r_Minute r_Kind r_A r_B) 6) 40 ⟨σ.q, 0, none⟩ = some (.agg ⟨rcd r_Machine r_Seq r_Minute r_Kind r_A r_B⟩)) (ai h1 (ai (ai tt (ai (arf (content_l1 cs1 none 0 0 0)) hL)) (ai (fun (t : (Option Addr) × Nat × Nat) (g' : Nat → Value) (σ' : St) (q : P0 t.1 t.2.1 t.2.2 σ') => k0 t.1 t.2.1 t.2.2 σ' q g') trivial)))))
theorem content_t1x0a (h1 : wrapK .u8 (((l3_1 : Nat) : Int)) = zF) (h2 : CallsA Pg 28 [.slice (some ⟨(σ.q + 1), 0, none⟩) 2 2] ((σ.row [.int .u8 zF] 1).row [.slice (some ⟨σ.q, 0, none⟩) 1 1, .slice p3_1 l3_1 c3_1] 1) (.slice qV lV cV) σQ) (h3 : CallsA Pg 66 [.slice qV lV cV] σQ (.slice qT lT cT) σY) (h4 : CallsA Pg 28 [.slice (some ⟨σY.q, 0, none⟩) 2 2] (σY.row [.slice qV lV cV, .slice qT lT cT] 1) (.slice qGB lGB cGB) σCB) (nx : Q (.slice qGB lGB cGB) σCB) : content_K1_0 cs1 p3_1 l3_1 c3_1 σ Q :=
 fun g => ⟨[.g, .g, .n zF, .g, .g, .g, .c (.slice qV lV cV) σQ, .g, .g, .g, .c (.slice qT lT cT) σY, .g, .c (.slice qGB lGB cGB) σCB, .g], kc (by kernel_rfl) (ai h1 (ai h2 (ai h3 (ai h4 nx))))⟩
noncomputable def frame_c1 : Code := (Code.part [1, 1, 0, 1, 0, 0] (bodyOf Pg 29))
def frame_l1 (q1 : Option Addr) (l1 c1 : Nat) (p3_1 : Option Addr) (l3_1 c3_1 : Nat) (i10_1 : Int) : List (Nat × Value) := [(3, .slice p3_1 l3_1 c3_1), (8, .slice q1 l1 c1), (9, iV ((l1 : Nat) : Int)), (10, iV i10_1)]
def frame_a1n (q1 : Option Addr) (l1 c1 : Nat) (Q : (Option Addr) → Nat → Nat → Int → St → Prop) : Alt := ⟨(Option Addr) × Nat × Nat × Int, .normal, fun t => frame_l1 q1 l1 c1 t.1 t.2.1 t.2.2.1 t.2.2.2, fun t => [], fun t σ => Q t.1 t.2.1 t.2.2.1 t.2.2.2 σ⟩
def frame_l1x0 (q1 : Option Addr) (l1 c1 : Nat) (p3_1 : Option Addr) (l3_1 c3_1 : Nat) : List (Nat × Value) := [(3, .slice p3_1 l3_1 c3_1)]
def frame_a1x0 (q1 : Option Addr) (l1 c1 : Nat) (Q : (Option Addr) → Nat → Nat → St → Prop) : Alt := ⟨(Option Addr) × Nat × Nat, (.exit 0), fun t => frame_l1x0 q1 l1 c1 t.1 t.2.1 t.2.2, fun t => [], fun t σ => Q t.1 t.2.1 t.2.2 σ⟩
def frame_B1 (q1 : Option Addr) (l1 c1 : Nat) (p3_1 : Option Addr) (l3_1 c3_1 : Nat) (i10_1 : Int) (σ : St) (Nx : (Option Addr) → Nat → Nat → Int → St → Prop) (Q0 : (Option Addr) → Nat → Nat → St → Prop) : Prop := BodyG Pg (runA Pg) none frame_c1 31 (frame_l1 q1 l1 c1 p3_1 l3_1 c3_1 i10_1) [] [frame_a1n q1 l1 c1 Nx, frame_a1x0 q1 l1 c1 Q0] σ
def frame_L1 (q1 : Option Addr) (l1 c1 : Nat) (p3_1 : Option Addr) (l3_1 c3_1 : Nat) (i10_1 : Int) (σ : St) (Q0 : (Option Addr) → Nat → Nat → St → Prop) : Prop := LoopG Pg (runA Pg) none frame_c1 31 (frame_l1 q1 l1 c1 p3_1 l3_1 c3_1 i10_1) [] [frame_a1x0 q1 l1 c1 Q0] σ
theorem frame_loop1 (hb : ∀ k p3_1 l3_1 c3_1 i10_1 σ, Inv k p3_1 l3_1 c3_1 i10_1 σ → frame_B1 q1 l1 c1 p3_1 l3_1 c3_1 i10_1 σ (fun p3_1' l3_1' c3_1' i10_1' σ' => ∃ k', k' < k ∧ Inv k' p3_1' l3_1' c3_1' i10_1' σ') Q0) : ∀ k p3_1 l3_1 c3_1 i10_1 σ, Inv k p3_1 l3_1 c3_1 i10_1 σ → frame_L1 q1 l1 c1 p3_1 l3_1 c3_1 i10_1 σ Q0 :=
 fun k p3_1 l3_1 c3_1 i10_1 σ h => loopG_inv (alts := [frame_a1x0 q1 l1 c1 Q0]) (T := (Option Addr) × Nat × Nat × Int) (lf := fun t => frame_l1 q1 l1 c1 t.1 t.2.1 t.2.2.1 t.2.2.2) (mf := fun t => []) (Inv := fun k t σ => Inv k t.1 t.2.1 t.2.2.1 t.2.2.2 σ) (ai (exNe 0) trivial) (fun k t σ h => hb k t.1 t.2.1 t.2.2.1 t.2.2.2 σ h) k (p3_1, l3_1, c3_1, i10_1) σ h
theorem frame_s1a (h1 : loadA Pg σ 5 (aadd q1_a (Int.toNat i10_1 * 1)) = some (.int .u8 nA)) (h2 : binA Pg .xor 5 (.tmp 21) (.const (.int .u8 32)) (.int .u8 nA) (.int .u8 32) = some (.int .u8 nC)) (h3 : appendA Pg 22 22 (.slice p3_1 l3_1 c3_1) (.slice (some ⟨σ.q, 0, none⟩) 2 2) (σ.row [.int .u8 125, .int .u8 nC] 1) = some (.slice qC lC cC, σD)) (nx : Nx qC lC cC (i10_1 + 1) σD) (u1 : i10_1 < ((l1 : Nat) : Int) := by omega) (u2 : 0 ≤ i10_1 ∧ i10_1 < ((l1 : Nat) : Int) := by omega) (u3 : nA = 126 := by omega) (u4 : -9223372036854775808 ≤ i10_1 + 1 ∧ i10_1 + 1 ≤ 9223372036854775807 := by omega) : frame_B1 (some q1_a) l1 c1 p3_1 l3_1 c3_1 i10_1 σ Nx Q0 :=
 body_of [.b true, .i, .l (.int .u8 nA), .g, .g, .b true, .g, .g, .g, .g, .v (.int .u8 nC), .g, .e (.slice qC lC cC) σD, .g, .n (i10_1 + 1), .g, .fin (frame_a1n (some q1_a) l1 c1 Nx) (qC, lC, cC, i10_1 + 1)] (fun g => kc (by kernel_rfl) (ai (ltI_tt u1) (ai u2 (ai h1 (ai (eqI_tt u3) (ai h2 (ai h3 (ai (wrap64 (n := i10_1 + 1) u4.1 u4.2) (fin (alts := [frame_a1n (some q1_a) l1 c1 Nx, frame_a1x0 (some q1_a) l1 c1 Q0]) (frame_a1n (some q1_a) l1 c1 Nx) (qC, lC, cC, i10_1 + 1) nx in0)))))))))
theorem frame_s1b (h1 : loadA Pg σ 5 (aadd q1_a (Int.toNat i10_1 * 1)) = some (.int .u8 nA)) (h2 : binA Pg .xor 5 (.tmp 21) (.const (.int .u8 32)) (.int .u8 nA) (.int .u8 32) = some (.int .u8 nC)) (h3 : appendA Pg 22 22 (.slice p3_1 l3_1 c3_1) (.slice (some ⟨σ.q, 0, none⟩) 2 2) (σ.row [.int .u8 125, .int .u8 nC] 1) = some (.slice qC lC cC, σD)) (nx : Nx qC lC cC (i10_1 + 1) σD) (u1 : i10_1 < ((l1 : Nat) : Int) := by omega) (u2 : 0 ≤ i10_1 ∧ i10_1 < ((l1 : Nat) : Int) := by omega) (u3 : ¬ nA = 126 := by omega) (u4 : nA = 125 := by omega) (u5 : -9223372036854775808 ≤ i10_1 + 1 ∧ i10_1 + 1 ≤ 9223372036854775807 := by omega) : frame_B1 (some q1_a) l1 c1 p3_1 l3_1 c3_1 i10_1 σ Nx Q0 :=
 body_of [.b true, .i, .l (.int .u8 nA), .g, .g, .b false, .g, .g, .b true, .g, .g, .g, .v (.int .u8 nC), .g, .e (.slice qC lC cC) σD, .g, .n (i10_1 + 1), .g, .fin (frame_a1n (some q1_a) l1 c1 Nx) (qC, lC, cC, i10_1 + 1)] (fun g => kc (by kernel_rfl) (ai (ltI_tt u1) (ai u2 (ai h1 (ai (eqI_ff u3) (ai (eqI_tt u4) (ai h2 (ai h3 (ai (wrap64 (n := i10_1 + 1) u5.1 u5.2) (fin (alts := [frame_a1n (some q1_a) l1 c1 Nx, frame_a1x0 (some q1_a) l1 c1 Q0]) (frame_a1n (some q1_a) l1 c1 Nx) (qC, lC, cC, i10_1 + 1) nx in0))))))))))
theorem frame_s1c (h1 : loadA Pg σ 5 (aadd q1_a (Int.toNat i10_1 * 1)) = some (.int .u8 nA)) (h2 : appendA Pg 22 22 (.slice p3_1 l3_1 c3_1) (.slice (some ⟨σ.q, 0, none⟩) 1 1) (σ.row [.int .u8 nA] 1) = some (.slice qAB lAB cAB, σF)) (nx : Nx qAB lAB cAB (i10_1 + 1) σF) (u1 : i10_1 < ((l1 : Nat) : Int) := by omega) (u2 : 0 ≤ i10_1 ∧ i10_1 < ((l1 : Nat) : Int) := by omega) (u3 : ¬ nA = 126 := by omega) (u4 : ¬ nA = 125 := by omega) (u5 : -9223372036854775808 ≤ i10_1 + 1 ∧ i10_1 + 1 ≤ 9223372036854775807 := by omega) : frame_B1 (some q1_a) l1 c1 p3_1 l3_1 c3_1 i10_1 σ Nx Q0 :=
 body_of [.b true, .i, .l (.int .u8 nA), .g, .g, .b false, .g, .g, .b false, .g, .g, .g, .g, .e (.slice qAB lAB cAB) σF, .g, .n (i10_1 + 1), .g, .fin (frame_a1n (some q1_a) l1 c1 Nx) (qAB, lAB, cAB, i10_1 + 1)] (fun g => kc (by kernel_rfl) (ai (ltI_tt u1) (ai u2 (ai h1 (ai (eqI_ff u3) (ai (eqI_ff u4) (ai h2 (ai (wrap64 (n := i10_1 + 1) u5.1 u5.2) (fin (alts := [frame_a1n (some q1_a) l1 c1 Nx, frame_a1x0 (some q1_a) l1 c1 Q0]) (frame_a1n (some q1_a) l1 c1 Nx) (qAB, lAB, cAB, i10_1 + 1) nx in0)))))))))
theorem frame_s1d (nx : Q0 p3_1 l3_1 c3_1 σ) (u1 : ¬ i10_1 < ((l1 : Nat) : Int) := by omega) : frame_B1 q1 l1 c1 p3_1 l3_1 c3_1 i10_1 σ Nx Q0 :=
 body_of [.b false, .fin (frame_a1x0 q1 l1 c1 Q0) (p3_1, l3_1, c3_1)] (fun g => kc (by kernel_rfl) (ai (ltI_ff u1) (fin (alts := [frame_a1n q1 l1 c1 Nx, frame_a1x0 q1 l1 c1 Q0]) (frame_a1x0 q1 l1 c1 Q0) (p3_1, l3_1, c3_1) nx (inS in0))))
def frame_K1_0 (q1 : Option Addr) (l1 c1 : Nat) (p3_1 : Option Addr) (l3_1 c3_1 : Nat) (σ : St) (Q : Value → St → Prop) : Prop := ∀ g : Nat → Value, ∃ an, Hid (kAt Pg (runA Pg) none (bodyOf Pg 29) [1, 1, 0, 1, 0] (kFn Pg 29 Q) (.exit 0) ⟨Fm 31 (ov (frame_l1x0 q1 l1 c1 p3_1 l3_1 c3_1) g), []⟩ σ an)
theorem frame_ra (h1 : CallsA Pg 47 [.agg ⟨rcd r_Machine r_Seq r_Minute r_Kind r_A r_B⟩] ((σ.row (rcd r_Machine r_Seq r_Minute r_Kind r_A r_B) 6).row [.int .u8 126] 1) (.slice q1 l1 c1) σ2) (hL : frame_L1 q1 l1 c1 (some ⟨(σ.q + 1), 0, none⟩) 1 1 0 σ2 P0) (k0 : ∀ p3_1' l3_1' c3_1' σ', P0 p3_1' l3_1' c3_1' σ' → frame_K1_0 q1 l1 c1 p3_1' l3_1' c3_1' σ' Q) : RunsQ Pg 29 [.agg ⟨rcd r_Machine r_Seq r_Minute r_Kind r_A r_B⟩] σ Q :=
 runsQ_of [.g, .g, .g, .g, .l (.agg ⟨rcd r_Machine r_Seq r_Minute r_Kind r_A r_B⟩), .c (.slice q1 l1 c1) σ2, .g, .g, .lf 31 (frame_l1 q1 l1 c1 (some ⟨(σ.q + 1), 0, none⟩) 1 1 0) [frame_a1x0 q1 l1 c1 P0]] (kc (by kernel_rfl) (ai ((own_new _ _ _).row.rw.ldN agg40 size40 (k := 0) rfl rfl (by first | (simp; done) | (simp; omega)) : loadA Pg ((σ.row (rcd r_Machine r_Seq r_Minute r_Kind r_A r_B) 6).row [.int .u8 126] 1) 40 ⟨σ.q, 0, none⟩ = some (.agg ⟨rcd r_Machine r_Seq r_Minute r_Kind r_A r_B⟩)) (ai h1 (ai (ai tt (ai (arf (frame_l1 q1 l1 c1 (some ⟨(σ.q + 1), 0, none⟩) 1 1 0)) hL)) (ai (fun (t : (Option Addr) × Nat × Nat) (g' : Nat → Value) (σ' : St) (q : P0 t.1 t.2.1 t.2.2 σ') => k0 t.1 t.2.1 t.2.2 σ' q g') trivial)))))
theorem frame_t1x0a (nx : Q (.slice p3_1 l3_1 c3_1) σ) : frame_K1_0 q1 l1 c1 p3_1 l3_1 c3_1 σ Q :=
 fun g => ⟨[.g, .g], kc (by kernel_rfl) nx⟩
theorem Encode_ra (h1 : CallsA Pg 27 [.slice (some ⟨σ.q, 0, none⟩) 1 1] (σ.row [.slice l l_l l_c] 1) (iV n1) (σ.row [.slice l l_l l_c] 1)) (nx : Q (.tuple ⟨[.slice none 0 0, iV n1]⟩) (σ.row [.slice l l_l l_c] 1)) (u1 : ¬ n1 = 0 := by omega) : RunsQ Pg 13 [.slice l l_l l_c] σ Q :=
 runsQ_of [.g, .g, .g, .g, .c (iV n1) (σ.row [.slice l l_l l_c] 1), .g, .g, .b true, .g, .g, .g] (kc (by kernel_rfl) (ai h1 (ai (neqI_tt u1) nx)))
noncomputable def Encode_c1 : Code := (Code.part [1, 1, 1, 0, 1, 0, 0] (bodyOf Pg 13))
def Encode_l1 (l : Option Addr) (l_l l_c : Nat) (p5_1 : Option Addr) (l5_1 c5_1 : Nat) (i16_1 : Int) : List (Nat × Value) := [(5, .slice p5_1 l5_1 c5_1), (14, .slice l l_l l_c), (15, iV ((l_l : Nat) : Int)), (16, iV i16_1)]
def Encode_a1n (l : Option Addr) (l_l l_c : Nat) (Q : (Option Addr) → Nat → Nat → Int → St → Prop) : Alt := ⟨(Option Addr) × Nat × Nat × Int, .normal, fun t => Encode_l1 l l_l l_c t.1 t.2.1 t.2.2.1 t.2.2.2, fun t => [], fun t σ => Q t.1 t.2.1 t.2.2.1 t.2.2.2 σ⟩
def Encode_l1x0 (l : Option Addr) (l_l l_c : Nat) (p5_1 : Option Addr) (l5_1 c5_1 : Nat) : List (Nat × Value) := [(5, .slice p5_1 l5_1 c5_1)]
def Encode_a1x0 (l : Option Addr) (l_l l_c : Nat) (Q : (Option Addr) → Nat → Nat → St → Prop) : Alt := ⟨(Option Addr) × Nat × Nat, (.exit 0), fun t => Encode_l1x0 l l_l l_c t.1 t.2.1 t.2.2, fun t => [], fun t σ => Q t.1 t.2.1 t.2.2 σ⟩
def Encode_B1 (l : Option Addr) (l_l l_c : Nat) (p5_1 : Option Addr) (l5_1 c5_1 : Nat) (i16_1 : Int) (σ : St) (Nx : (Option Addr) → Nat → Nat → Int → St → Prop) (Q0 : (Option Addr) → Nat → Nat → St → Prop) : Prop := BodyG Pg (runA Pg) none Encode_c1 27 (Encode_l1 l l_l l_c p5_1 l5_1 c5_1 i16_1) [] [Encode_a1n l l_l l_c Nx, Encode_a1x0 l l_l l_c Q0] σ
def Encode_L1 (l : Option Addr) (l_l l_c : Nat) (p5_1 : Option Addr) (l5_1 c5_1 : Nat) (i16_1 : Int) (σ : St) (Q0 : (Option Addr) → Nat → Nat → St → Prop) : Prop := LoopG Pg (runA Pg) none Encode_c1 27 (Encode_l1 l l_l l_c p5_1 l5_1 c5_1 i16_1) [] [Encode_a1x0 l l_l l_c Q0] σ
theorem Encode_loop1 (hb : ∀ k p5_1 l5_1 c5_1 i16_1 σ, Inv k p5_1 l5_1 c5_1 i16_1 σ → Encode_B1 l l_l l_c p5_1 l5_1 c5_1 i16_1 σ (fun p5_1' l5_1' c5_1' i16_1' σ' => ∃ k', k' < k ∧ Inv k' p5_1' l5_1' c5_1' i16_1' σ') Q0) : ∀ k p5_1 l5_1 c5_1 i16_1 σ, Inv k p5_1 l5_1 c5_1 i16_1 σ → Encode_L1 l l_l l_c p5_1 l5_1 c5_1 i16_1 σ Q0 :=
 fun k p5_1 l5_1 c5_1 i16_1 σ h => loopG_inv (alts := [Encode_a1x0 l l_l l_c Q0]) (T := (Option Addr) × Nat × Nat × Int) (lf := fun t => Encode_l1 l l_l l_c t.1 t.2.1 t.2.2.1 t.2.2.2) (mf := fun t => []) (Inv := fun k t σ => Inv k t.1 t.2.1 t.2.2.1 t.2.2.2 σ) (ai (exNe 0) trivial) (fun k t σ h => hb k t.1 t.2.1 t.2.2.1 t.2.2.2 σ h) k (p5_1, l5_1, c5_1, i16_1) σ h
theorem Encode_s1a (h1 : loadA Pg σ 40 (aadd l_a (Int.toNat i16_1 * 6)) = some (.agg ⟨rcd nA nC nG nE nF nD⟩)) (h2 : CallsA Pg 29 [.agg ⟨rcd nA nC nG nE nF nD⟩] ((σ.row (rcd 0 0 0 0 0 0) 6).own σ.q (rcd nA nC nG nE nF nD) 6) (.slice qHB lHB cHB) σZ) (h3 : CallsA Pg 28 [.slice (some ⟨σZ.q, 0, none⟩) 2 2] (σZ.row [.slice p5_1 l5_1 c5_1, .slice qHB lHB cHB] 1) (.slice qBB lBB cBB) σDB) (nx : Nx qBB lBB cBB (i16_1 + 1) σDB) (u1 : i16_1 < ((l_l : Nat) : Int) := by omega) (u2 : 0 ≤ i16_1 ∧ i16_1 < ((l_l : Nat) : Int) := by omega) (u3 : -9223372036854775808 ≤ i16_1 + 1 ∧ i16_1 + 1 ≤ 9223372036854775807 := by omega) : Encode_B1 (some l_a) l_l l_c p5_1 l5_1 c5_1 i16_1 σ Nx Q0 :=
 body_of [.b true, .i, .l (.agg ⟨rcd nA nC nG nE nF nD⟩), .g, .e undef ((σ.row (rcd 0 0 0 0 0 0) 6).own σ.q (rcd nA nC nG nE nF nD) 6), .g, .l (.agg ⟨rcd nA nC nG nE nF nD⟩), .c (.slice qHB lHB cHB) σZ, .g, .c (.slice qBB lBB cBB) σDB, .g, .n (i16_1 + 1), .g, .fin (Encode_a1n (some l_a) l_l l_c Nx) (qBB, lBB, cBB, i16_1 + 1)] (fun g => kc (by kernel_rfl) (ai (ltI_tt u1) (ai u2 (ai h1 (ai ((own_new _ _ _).store (vs := (rcd nA nC nG nE nF nD)) rfl size40 rfl (by first | (simp; done) | (simp; omega)) rfl : effOp Pg (evL [.pointer (some ⟨σ.q, 0, none⟩), .agg ⟨rcd nA nC nG nE nF nD⟩]) (σ.row (rcd 0 0 0 0 0 0) 6) (.store 40 (.tmp 0) (.tmp 1)) = some (undef, ((σ.row (rcd 0 0 0 0 0 0) 6).own σ.q (rcd nA nC nG nE nF nD) 6))) (ai ((own_new _ _ _).put.rw.ldN agg40 size40 (k := 0) rfl rfl (by first | (simp; done) | (simp; omega)) : loadA Pg ((σ.row (rcd 0 0 0 0 0 0) 6).own σ.q (rcd nA nC nG nE nF nD) 6) 40 ⟨σ.q, 0, none⟩ = some (.agg ⟨rcd nA nC nG nE nF nD⟩)) (ai h2 (ai h3 (ai (wrap64 (n := i16_1 + 1) u3.1 u3.2) (fin (alts := [Encode_a1n (some l_a) l_l l_c Nx, Encode_a1x0 (some l_a) l_l l_c Q0]) (Encode_a1n (some l_a) l_l l_c Nx) (qBB, lBB, cBB, i16_1 + 1) nx in0))))))))))
theorem Encode_s1b (nx : Q0 p5_1 l5_1 c5_1 σ) (u1 : ¬ i16_1 < ((l_l : Nat) : Int) := by omega) : Encode_B1 l l_l l_c p5_1 l5_1 c5_1 i16_1 σ Nx Q0 :=
 body_of [.b false, .fin (Encode_a1x0 l l_l l_c Q0) (p5_1, l5_1, c5_1)] (fun g => kc (by kernel_rfl) (ai (ltI_ff u1) (fin (alts := [Encode_a1n l l_l l_c Nx, Encode_a1x0 l l_l l_c Q0]) (Encode_a1x0 l l_l l_c Q0) (p5_1, l5_1, c5_1) nx (inS in0))))
def Encode_K1_0 (l : Option Addr) (l_l l_c : Nat) (p5_1 : Option Addr) (l5_1 c5_1 : Nat) (σ : St) (Q : Value → St → Prop) : Prop := ∀ g : Nat → Value, ∃ an, Hid (kAt Pg (runA Pg) none (bodyOf Pg 13) [1, 1, 1, 0, 1, 0] (kFn Pg 13 Q) (.exit 0) ⟨Fm 27 (ov (Encode_l1x0 l l_l l_c p5_1 l5_1 c5_1) g), []⟩ σ an)
theorem Encode_rb (h1 : CallsA Pg 27 [.slice (some ⟨σ.q, 0, none⟩) 1 1] (σ.row [.slice l l_l l_c] 1) (iV n1) (σ.row [.slice l l_l l_c] 1)) (hL : Encode_L1 l l_l l_c none 0 0 0 (σ.row [.slice l l_l l_c] 1) P0) (k0 : ∀ p5_1' l5_1' c5_1' σ', P0 p5_1' l5_1' c5_1' σ' → Encode_K1_0 l l_l l_c p5_1' l5_1' c5_1' σ' Q) (u1 : n1 = 0 := by omega) : RunsQ Pg 13 [.slice l l_l l_c] σ Q :=
 runsQ_of [.g, .g, .g, .g, .c (iV n1) (σ.row [.slice l l_l l_c] 1), .g, .g, .b false, .g, .g, .g, .g, .lf 27 (Encode_l1 l l_l l_c none 0 0 0) [Encode_a1x0 l l_l l_c P0]] (kc (by kernel_rfl) (ai h1 (ai (neqI_ff u1) (ai (ai tt (ai (arf (Encode_l1 l l_l l_c none 0 0 0)) hL)) (ai (fun (t : (Option Addr) × Nat × Nat) (g' : Nat → Value) (σ' : St) (q : P0 t.1 t.2.1 t.2.2 σ') => k0 t.1 t.2.1 t.2.2 σ' q g') trivial)))))
theorem Encode_t1x0a (nx : Q (.tuple ⟨[.slice p5_1 l5_1 c5_1, iV 0]⟩) σ) : Encode_K1_0 l l_l l_c p5_1 l5_1 c5_1 σ Q :=
 fun g => ⟨[.g, .g, .g], kc (by kernel_rfl) nx⟩
end
end Go.Proofs.YtffgfojabcbegaaDoor
