
import Derived.Test.YtffgfojabcbegaaSA
namespace Go.Proofs.Ytffgfojabcbegaa
open Go Go.Lay
open Try renaming prog → Pg
set_option linter.unusedVariables false
set_option linter.unusedSimpArgs false
set_option maxRecDepth 20000
abbrev xB (σ : St) (t : Nat) (p : Option Addr) (l : Nat) (xs : List Rec) : Prop := SlV Pg σ t 6 p l (xs.map yP)
def zAT (σ : St) (ts te : Nat) (p : Option Addr) (l : Nat) (rs : List (List Rec)) : Prop := ∃ vs : List Value, SlV Pg σ ts 1 p l vs ∧ rs.length = l ∧ ∀ (i : Nat) (r : List Rec), rs[i]? = some r → ∃ q c, vs[i]? = some (Value.slice q r.length c) ∧ xB σ te q r.length r
section
variable {σ : St} {ts te : Nat}
theorem xB.len {t : Nat} {p : Option Addr} {l : Nat} {xs : List Rec} (h : xB σ t p l xs) : xs.length = l := by have := h.2.1; simpa using this
theorem zAT.le {σ' : St} {p : Option Addr} {l : Nat} {rs : List (List Rec)} (h : zAT σ ts te p l rs) (k : Le σ σ') : zAT σ' ts te p l rs := by
 obtain ⟨vs, h1, h2, h3⟩ := h
 exact ⟨vs, h1.le k, h2, fun i r hi => by obtain ⟨q, c, g1, g2⟩ := h3 i r hi; exact ⟨q, c, g1, g2.le k⟩⟩
theorem zAT.len {p : Option Addr} {l : Nat} {rs : List (List Rec)} (h : zAT σ ts te p l rs) : rs.length = l := h.choose_spec.2.1
theorem zAT.row {p : Option Addr} {l i : Nat} {rs : List (List Rec)} (h : zAT σ ts te p l rs) (hi : i < l) : ∃ a, p = some a ∧ ∃ r q c, rs[i]? = some r ∧ (∀ τ, Le σ τ → zD Pg τ ts (zJ a (Int.toNat (i : Int) * 1)) = some (.slice q r.length c)) ∧ xB σ te q r.length r := by
 obtain ⟨vs, h1, h2, h3⟩ := h
 obtain ⟨a, rfl, _⟩ := h1.some hi
 obtain ⟨q, c, g1, g2⟩ := h3 i rs[i] (by simp)
 exact ⟨a, rfl, rs[i], q, c, by simp, fun τ hτ => (h1.le hτ).at rfl g1, g2⟩
theorem idxT_c {p : Option Addr} {len cap : Nat} {g : FuncId} {gc : List Value} {xs : List Rec} {f : Rec → Bool} (hs : SlV Pg σ 79 6 p len (xs.map yP)) (hlen : len ≤ 1073741824)
  (hc : ∀ x ∈ xs, ∀ τ, Le σ τ → zG Pg g (yP x :: gc) τ (.bool (f x)) τ) : ∃ r : Int, zG Pg 84 [.slice p len cap, .func (.func g) ⟨[]⟩ ⟨gc⟩] σ (iV r) σ ∧ (0 ≤ r ↔ xs.any f = true) := by
 have hl : xs.length = len := by have := hs.2.1; simpa using this
 have key : zO Pg 84 [.slice p len cap, .func (.func g) ⟨[]⟩ ⟨gc⟩] σ.re fun v s => (∃ r : Int, v = iV r ∧ (0 ≤ r ↔ xs.any f = true)) ∧ s = σ.re := by
  refine idxT_ra (yNE (Inv := fun k i τ => τ = σ.re ∧ ∃ j : Nat, i = j ∧ j + k = len ∧ (xs.take j).any f = false) (Qr := fun i τ => τ = σ.re ∧ 0 ≤ i ∧ xs.any f = true) (Q0 := fun τ => τ = σ.re ∧ xs.any f = false) ?_ len 0 σ.re ⟨rfl, 0, rfl, by omega, by simp⟩) ?_ ?_
  ·rintro k i τ ⟨rfl, j, rfl, hk, ha⟩
   by_cases hj : j < len
   ·obtain ⟨a, rfl, x, hx, ld⟩ := zCG hs.re hj
    have c := hc x (List.mem_of_getElem? hx) σ.re (le0 σ)
    cases hf : f x with
    | true =>
     rw [hf] at c
     exact idxT_s1a ld c ⟨rfl, by omega, List.any_eq_true.2 ⟨x, List.mem_of_getElem? hx, hf⟩⟩
    | false =>
     rw [hf] at c
     exact idxT_s1b ld c ⟨k - 1, by omega, rfl, j + 1, by omega, by omega, by rw [wD hx, List.any_append, ha]; simp [hf]⟩
   ·exact idxT_s1c ⟨rfl, by rwa [List.take_of_length_le (by omega)] at ha⟩
  ·rintro i τ ⟨rfl, h1, h2⟩
   exact yNC ⟨⟨i, rfl, by simp [h1, h2]⟩, rfl⟩
  ·rintro τ ⟨rfl, h⟩
   exact yND ⟨⟨-1, rfl, by simp [h]⟩, rfl⟩
 obtain ⟨v, s, h1, ⟨r, rfl, h2⟩, rfl⟩ := key
 exact ⟨r, yCE h1 (Nat.le_refl _) rfl, h2⟩
theorem conT_c {p : Option Addr} {len cap : Nat} {g : FuncId} {gc : List Value} {xs : List Rec} {f : Rec → Bool} (hs : SlV Pg σ 79 6 p len (xs.map yP)) (hlen : len ≤ 1073741824)
  (hc : ∀ x ∈ xs, ∀ τ, Le σ τ → zG Pg g (yP x :: gc) τ (.bool (f x)) τ) : zG Pg 72 [.slice p len cap, .func (.func g) ⟨[]⟩ ⟨gc⟩] σ (.bool (xs.any f)) σ := by
 obtain ⟨r, h1, h2⟩ := idxT_c (σ := σ.re) (cap := cap) hs.re hlen (fun x hx τ hτ => hc x hx τ ((le0 σ).trans hτ))
 cases ha : xs.any f with
 | true => exact (conT_ra h1 ⟨rfl, Nat.le_refl _⟩ (h2.2 ha)).pure
 | false => exact (conT_rb h1 ⟨rfl, Nat.le_refl _⟩ (fun h => by rw [h2.1 h] at ha; cases ha)).pure
theorem allT1_c {x : Rec} {a : Addr} {g : FuncId} {gc : List Value} {b : Bool} (hr : Row σ a [.func (.func g) ⟨[]⟩ ⟨gc⟩]) (hc : ∀ τ, Le σ τ → zG Pg g (yP x :: gc) τ (.bool b) τ) :
  zG Pg 73 [yP x, .pointer (some a)] σ (.bool (!b)) σ := by
 cases b with
 | true => exact (allT1_ra (hr.re.row.ld1 zWV) (hc _ ((le0 σ).trans (Le.row _ _ _))) ⟨rfl, Nat.le_refl _⟩).pure
 | false => exact (allT1_rb (hr.re.row.ld1 zWV) (hc _ ((le0 σ).trans (Le.row _ _ _))) ⟨rfl, Nat.le_refl _⟩).pure
theorem allT_c {p : Option Addr} {len cap : Nat} {g : FuncId} {gc : List Value} {xs : List Rec} {f : Rec → Bool} (hs : SlV Pg σ 79 6 p len (xs.map yP)) (hlen : len ≤ 1073741824)
  (hc : ∀ x ∈ xs, ∀ τ, Le σ τ → zG Pg g (yP x :: gc) τ (.bool (f x)) τ) : zG Pg 56 [.slice p len cap, .func (.func g) ⟨[]⟩ ⟨gc⟩] σ (.bool (xs.all f)) σ := by
 have c := conT_c (σ := σ.re.row [.func (.func g) ⟨[]⟩ ⟨gc⟩] 1) (g := 73) (gc := [.pointer (some ⟨σ.re.next, 0, none⟩)]) (f := fun x => !f x) (cap := cap) hs.re.row hlen
  (fun x hx τ hτ => allT1_c ((yBG _ _ _).le hτ) (fun τ' hτ' => hc x hx τ' ((((le0 σ).trans (Le.row _ _ _)).trans hτ).trans hτ')))
 have e : (xs.any fun x => !f x) = !xs.all f := by rw [List.not_all_eq_any_not]
 rw [e] at c
 cases ha : xs.all f with
 | true => rw [ha] at c; exact (allT_rb c ⟨rfl, Nat.le_refl _⟩).pure
 | false => rw [ha] at c; exact (allT_ra c ⟨rfl, Nat.le_refl _⟩).pure
theorem idxR_c {p : Option Addr} {len cap : Nat} {g : FuncId} {gc : List Value} {rs : List (List Rec)} {f : List Rec → Bool} (hs : zAT σ 28 79 p len rs) (hlen : len ≤ 1073741824)
  (hc : ∀ r ∈ rs, ∀ q c τ, Le σ τ → xB τ 79 q r.length r → zG Pg g (.slice q r.length c :: gc) τ (.bool (f r)) τ) : ∃ r : Int, zG Pg 83 [.slice p len cap, .func (.func g) ⟨[]⟩ ⟨gc⟩] σ (iV r) σ ∧ (0 ≤ r ↔ rs.any f = true) := by
 have hl := hs.len
 have hs' := hs.le (le0 σ)
 have key : zO Pg 83 [.slice p len cap, .func (.func g) ⟨[]⟩ ⟨gc⟩] σ.re fun v s => (∃ r : Int, v = iV r ∧ (0 ≤ r ↔ rs.any f = true)) ∧ s = σ.re := by
  refine idxR_ra (yNH (Inv := fun k i τ => τ = σ.re ∧ ∃ j : Nat, i = j ∧ j + k = len ∧ (rs.take j).any f = false) (Qr := fun i τ => τ = σ.re ∧ 0 ≤ i ∧ rs.any f = true) (Q0 := fun τ => τ = σ.re ∧ rs.any f = false) ?_ len 0 σ.re ⟨rfl, 0, rfl, by omega, by simp⟩) ?_ ?_
  ·rintro k i τ ⟨rfl, j, rfl, hk, ha⟩
   by_cases hj : j < len
   ·obtain ⟨a, rfl, r, q, c, hr, ld, hq⟩ := hs'.row hj
    have ld := ld _ (Le.refl _)
    have c := hc r (List.mem_of_getElem? hr) q c σ.re (le0 σ) hq
    cases hf : f r with
    | true =>
     rw [hf] at c
     exact idxR_s1a ld c ⟨rfl, by omega, List.any_eq_true.2 ⟨r, List.mem_of_getElem? hr, hf⟩⟩
    | false =>
     rw [hf] at c
     exact idxR_s1b ld c ⟨k - 1, by omega, rfl, j + 1, by omega, by omega, by rw [wD hr, List.any_append, ha]; simp [hf]⟩
   ·exact idxR_s1c ⟨rfl, by rwa [List.take_of_length_le (by omega)] at ha⟩
  ·rintro i τ ⟨rfl, h1, h2⟩
   exact yNF ⟨⟨i, rfl, by simp [h1, h2]⟩, rfl⟩
  ·rintro τ ⟨rfl, h⟩
   exact yNG ⟨⟨-1, rfl, by simp [h]⟩, rfl⟩
 obtain ⟨v, s, h1, ⟨r, rfl, h2⟩, rfl⟩ := key
 exact ⟨r, yCE h1 (Nat.le_refl _) rfl, h2⟩
theorem conR_c {p : Option Addr} {len cap : Nat} {g : FuncId} {gc : List Value} {rs : List (List Rec)} {f : List Rec → Bool} (hs : zAT σ 28 79 p len rs) (hlen : len ≤ 1073741824)
  (hc : ∀ r ∈ rs, ∀ q c τ, Le σ τ → xB τ 79 q r.length r → zG Pg g (.slice q r.length c :: gc) τ (.bool (f r)) τ) : zG Pg 70 [.slice p len cap, .func (.func g) ⟨[]⟩ ⟨gc⟩] σ (.bool (rs.any f)) σ := by
 obtain ⟨r, h1, h2⟩ := idxR_c (σ := σ.re) (cap := cap) (hs.le (le0 σ)) hlen (fun x hx q c τ hτ => hc x hx q c τ ((le0 σ).trans hτ))
 cases ha : rs.any f with
 | true => exact (conR_ra h1 ⟨rfl, Nat.le_refl _⟩ (h2.2 ha)).pure
 | false => exact (conR_rb h1 ⟨rfl, Nat.le_refl _⟩ (fun h => by rw [h2.1 h] at ha; cases ha)).pure
theorem allR1_c {q : Option Addr} {l c : Nat} {a : Addr} {g : FuncId} {gc : List Value} {b : Bool} (hr : Row σ a [.func (.func g) ⟨[]⟩ ⟨gc⟩]) (hc : ∀ τ, Le σ τ → zG Pg g (.slice q l c :: gc) τ (.bool b) τ) :
  zG Pg 71 [.slice q l c, .pointer (some a)] σ (.bool (!b)) σ := by
 cases b with
 | true => exact (allR1_ra (hr.re.ld1 agg103) (hc _ (le0 σ)) ⟨rfl, Nat.le_refl _⟩).pure
 | false => exact (allR1_rb (hr.re.ld1 agg103) (hc _ (le0 σ)) ⟨rfl, Nat.le_refl _⟩).pure
theorem allR_c {p : Option Addr} {len cap : Nat} {g : FuncId} {gc : List Value} {rs : List (List Rec)} {f : List Rec → Bool} (hs : zAT σ 28 79 p len rs) (hlen : len ≤ 1073741824)
  (hc : ∀ r ∈ rs, ∀ q c τ, Le σ τ → xB τ 79 q r.length r → zG Pg g (.slice q r.length c :: gc) τ (.bool (f r)) τ) : zG Pg 53 [.slice p len cap, .func (.func g) ⟨[]⟩ ⟨gc⟩] σ (.bool (rs.all f)) σ := by
 have c := conR_c (σ := σ.re.row [.func (.func g) ⟨[]⟩ ⟨gc⟩] 1) (g := 71) (gc := [.pointer (some ⟨σ.re.next, 0, none⟩)]) (f := fun x => !f x) (cap := cap) (hs.le ((le0 σ).trans (Le.row _ _ _))) hlen
  (fun x hx q c τ hτ hq => allR1_c ((yBG _ _ _).le hτ) (fun τ' hτ' => hc x hx q c τ' ((((le0 σ).trans (Le.row _ _ _)).trans hτ).trans hτ') (SlV.le hq hτ')))
 have e : (rs.any fun x => !f x) = !rs.all f := by rw [List.not_all_eq_any_not]
 rw [e] at c
 cases ha : rs.all f with
 | true => rw [ha] at c; exact (allR_rb c ⟨rfl, Nat.le_refl _⟩).pure
 | false => rw [ha] at c; exact (allR_ra c ⟨rfl, Nat.le_refl _⟩).pure
end
end Go.Proofs.Ytffgfojabcbegaa
