
import Derived.Test.YtffgfojabcbegaaSB
namespace Go.Proofs.Ytffgfojabcbegaa
open Go Go.Lay
open Try renaming prog → Pg
set_option linter.unusedVariables false
set_option linter.unusedSimpArgs false
set_option maxRecDepth 20000
def zYW (x : Rec) : Prop := 0 ≤ x.k ∧ x.k ≤ 255
abbrev kindL : List Value := [.func (.func 85) ⟨[]⟩ ⟨[]⟩, .func (.func 86) ⟨[]⟩ ⟨[]⟩, .func (.func 87) ⟨[]⟩ ⟨[]⟩]
section
variable {σ : St}
theorem yUP {n : Int} {τ : St} (h : 0 ≤ n ∧ n ≤ 255) : (zY τ.next [.int .u8 n] ∧ yB RD (iV n) = true) ∧ wC Pg (evL [.int .u8 n]) τ (.convert 5 3 (.tmp 0)) = some (iV n) := by
 refine ⟨⟨rfl, rfl⟩, ?_⟩
 have e : wC Pg (evL [.int .u8 n]) τ (.convert 5 3 (.tmp 0)) = some (iV (zBE .i64 n)) := by kernel_rfl
 rw [e, zD (by omega) (by omega)]
theorem yTY : ∃ b σ', zF Pg 74 [] σ (.slice (some ⟨b, 0, none⟩) 3 3) σ' ∧ New σ σ' ∧ Own σ' b kindL 1 := by
 obtain ⟨v, σ', h1, h2, b, rfl, h3⟩ := zM.new (P := Pg) (f := 74) (args := []) (σ := σ) (Q := fun v s => ∃ b, v = .slice (some ⟨b, 0, none⟩) 3 3 ∧ Own s b kindL 1) (kinds_ra ⟨New.row _ _ _, _, rfl, zE _ _ _⟩)
  (by rintro v s s' ⟨b, rfl, h⟩ hl; exact ⟨b, rfl, h.le hl⟩) (by rintro v s hr ⟨b, rfl, _⟩; exact Bool.noConfusion (show false = true from hr))
 exact ⟨b, σ', h1, h2, h3⟩
theorem valid_c {x : Rec} (hx : zYW x) : zF Pg 57 [yE x] σ (.bool (yG x)) σ := by
 obtain ⟨m, s, t, k, a, b⟩ := x
 obtain ⟨hk0, hk1⟩ := hx
 simp only at hk0 hk1
 cases h1 : inB m 0 999 with
 | false => exact (yZA (by rw [← h1]; exact xN) ⟨by simp [yG, h1], (New.row _ _ _).lw⟩).pure
 | true =>
 cases h2 : inB s 1 9999 with
 | false => exact (yZB (by rw [← h1]; exact xN) (by rw [← h2]; exact xN) ⟨by simp [yG, h2], (New.row _ _ _).lw⟩).pure
 | true =>
 cases h3 : inB t 0 1000000 with
 | false => exact (yZC (by rw [← h1]; exact xN) (by rw [← h2]; exact xN) (by rw [← h3]; exact xN) ⟨by simp [yG, h3], (New.row _ _ _).lw⟩).pure
 | true =>
 obtain ⟨b1, σ5, k1, n1, o1⟩ := yTY (σ := σ.re.row (rcd m s t k a b) 6)
 have oR : Own (σ.re.row (rcd m s t k a b) 6) σ.next (rcd m s t k a b) 6 := zE _ _ _
 have N1 : New σ.re (σ.re.row (rcd m s t k a b) 6) := New.row _ _ _
 by_cases hk : k < 3
 rotate_left
 ·exact (yZD (by rw [← h1]; exact xN) (by rw [← h2]; exact xN) (by rw [← h3]; exact xN) k1 (zO (zEU o1.lt) zU) ⟨⟨(oR.le n1.le).lt, rfl⟩, (oR.le n1.le).ld rfl zCP rfl⟩ (yUP ⟨hk0, hk1⟩) (yUP ⟨hk0, hk1⟩)
   ⟨by simp [yG, show ¬ k = 0 by omega, show ¬ k = 1 by omega, show ¬ k = 2 by omega], (N1.trans n1).lw⟩).pure
 obtain ⟨b2, σ7, k2, n2, o2⟩ := yTY (σ := σ5)
 have o5 := oR.le n1.le
 have o7 := o5.le n2.le
 have NN := (N1.trans n1).trans n2
 have key : ∀ (g : FuncId) (B : Bool), zC Pg σ7 105 (zG ⟨b2, 0, none⟩ (Int.toNat k * 1 + 0)) = some (.func (.func g) ⟨[]⟩ ⟨[]⟩) → zF Pg g [.agg ⟨rcd m s t k a b⟩] σ7 (.bool B) σ7 → B = yG ⟨m, s, t, k, a, b⟩ → zF Pg 57 [yE ⟨m, s, t, k, a, b⟩] σ (.bool (yG ⟨m, s, t, k, a, b⟩)) σ := by
  intro g B hl hc hB
  exact (yZE (by rw [← h1]; exact xN) (by rw [← h2]; exact xN) (by rw [← h3]; exact xN) k1 k2 (o7.ld rfl zCP rfl) hl (o7.ldN zDV yX (k := 0) rfl rfl (by simp)) hc (zO (zEU o1.lt) zU) (zO (zX o7.lt) zU) (zO (zX o2.lt) zU) (zO (zX o7.lt) zU) rfl
   ⟨⟨o5.lt, rfl⟩, o5.ld rfl zCP rfl⟩ (yUP ⟨hk0, hk1⟩) (yUP ⟨hk0, hk1⟩) ⟨⟨o5.lt, rfl⟩, o5.ld rfl zCP rfl⟩ ⟨⟨o7.lt, rfl⟩, o7.ld rfl zCP rfl⟩ ⟨⟨o5.lt, rfl⟩, o5.ldN zDV yX (k := 0) rfl rfl (by simp)⟩ ⟨⟨o7.lt, rfl⟩, o7.ldN zDV yX (k := 0) rfl rfl (by simp)⟩ ⟨by rw [hB], NN.lw⟩).pure
 have hkk : k = 0 ∨ k = 1 ∨ k = 2 := by omega
 rcases hkk with rfl | rfl | rfl
 ·exact key 85 _ (o2.ld rfl zYD (k := 0) rfl) (sale_c (x := ⟨m, s, t, 0, a, b⟩)) (by simp [yG, h1, h2, h3])
 ·exact key 86 _ (o2.ld rfl zYD (k := 1) rfl) (sync_c (x := ⟨m, s, t, 1, a, b⟩)) (by simp [yG, h1, h2, h3])
 ·exact key 87 _ (o2.ld rfl zYD (k := 2) rfl) (closes_c (x := ⟨m, s, t, 2, a, b⟩)) (by simp [yG, h1, h2, h3])
theorem rRight_c {x : Rec} : zF Pg 40 [yE x] σ (.bool (yG x)) σ := by
 obtain ⟨m, s, t, k, a, b⟩ := x
 have N1 := (New.row σ.re (rcd m s t k a b) 6).lw
 cases h1 : inB m 0 999 with
 | false => exact (yVN (by rw [← h1]; exact wD) ⟨by simp [yG, h1], N1⟩).pure
 | true =>
 cases h2 : inB s 1 9999 with
 | false => exact (yVO (by rw [← h1]; exact wD) (by rw [← h2]; exact wD) ⟨by simp [yG, h2], N1⟩).pure
 | true =>
 cases h3 : inB t 0 1000000 with
 | false => exact (yVP (by rw [← h1]; exact wD) (by rw [← h2]; exact wD) (by rw [← h3]; exact wD) ⟨by simp [yG, h3], N1⟩).pure
 | true =>
 by_cases k0 : k = 0
 ·subst k0
  cases h4 : inB a 0 99 with
  | true => exact (yVX (by rw [← h1]; exact wD) (by rw [← h2]; exact wD) (by rw [← h3]; exact wD) (by rw [← h4]; exact wD) wD ⟨by simp [yG, h1, h2, h3, h4], N1⟩ rfl).pure
  | false => exact (yVW (by rw [← h1]; exact wD) (by rw [← h2]; exact wD) (by rw [← h3]; exact wD) (by rw [← h4]; exact wD) ⟨by simp [yG, h4], N1⟩ rfl).pure
 by_cases k1 : k = 1
 ·subst k1
  cases h4 : inB a 0 1000000 with
  | true =>
   by_cases hb : b = 0
   ·exact (yVV (by rw [← h1]; exact wD) (by rw [← h2]; exact wD) (by rw [← h3]; exact wD) (by rw [← h4]; exact wD) ⟨by simp [yG, h1, h2, h3, h4, hb], N1⟩ k0 rfl hb).pure
   ·exact (yVU (by rw [← h1]; exact wD) (by rw [← h2]; exact wD) (by rw [← h3]; exact wD) (by rw [← h4]; exact wD) ⟨by simp [yG, h1, h2, h3, h4, hb], N1⟩ k0 rfl hb).pure
  | false => exact (yVT (by rw [← h1]; exact wD) (by rw [← h2]; exact wD) (by rw [← h3]; exact wD) (by rw [← h4]; exact wD) ⟨by simp [yG, h4], N1⟩ k0 rfl).pure
 by_cases k2 : k = 2
 ·subst k2
  cases h4 : inB a 0 9999 with
  | true => exact (yVS (by rw [← h1]; exact wD) (by rw [← h2]; exact wD) (by rw [← h3]; exact wD) (by rw [← h4]; exact wD) wD ⟨by simp [yG, h1, h2, h3, h4], N1⟩ k0 k1 rfl).pure
  | false => exact (yVR (by rw [← h1]; exact wD) (by rw [← h2]; exact wD) (by rw [← h3]; exact wD) (by rw [← h4]; exact wD) ⟨by simp [yG, h4], N1⟩ k0 k1 rfl).pure
 exact (yVQ (by rw [← h1]; exact wD) (by rw [← h2]; exact wD) (by rw [← h3]; exact wD) ⟨by simp [yG, k0, k1, k2], N1⟩ k0 k1 k2).pure
theorem record_c {x : Rec} : zF Pg 39 [yE x] σ (yE x) σ := (yVL ⟨rfl, by simp⟩).pure
def xR (rs : List (List Rec)) : Int := if 6 < rs.length then 3 else if !(rs.all fun r => decide (r.length ≤ 60)) then 3 else if !(rs.all fun r => r.all yG) then 1 else 0
theorem yYG {p : Option Addr} {l c : Nat} {rs : List (List Rec)} (h : zAY σ 28 79 p l rs) (hl : l ≤ 1073741824) (hb : ∀ r ∈ rs, r.length ≤ 1073741824 ∧ ∀ x ∈ r, zYW x) : zF Pg 36 [.slice p l c] σ (iV (xR rs)) σ := by
 have hlen := h.len
 have h0 := h.le (le0 σ)
 by_cases h6 : 6 < l
 ·exact (yRA ⟨by simp [xR, hlen, h6], Nat.le_refl _⟩).pure
 have c1 := allR_c (cap := c) (g := 54) (gc := []) (f := fun r => decide (r.length ≤ 60)) h0 hl (fun r hr q c τ hτ hq => by
  by_cases e : r.length ≤ 60
  ·exact (yKY ⟨by simp [e], Nat.le_refl _⟩ (by omega)).pure
  ·exact (yKX ⟨by simp [e], Nat.le_refl _⟩ (by omega)).pure)
 cases e1 : rs.all fun r => decide (r.length ≤ 60) with
 | false => rw [e1] at c1; exact (yQX c1 ⟨by simp [xR, hlen, h6, e1], Nat.le_refl _⟩).pure
 | true =>
 rw [e1] at c1
 have c2 := allR_c (cap := c) (g := 55) (gc := []) (f := fun r => r.all yG) h0 hl (fun r hr q c τ hτ hq =>
  (yKW (allT_c (g := 57) (gc := []) (f := yG) (SlV.le hq (le0 τ)) (hb r hr).1 fun x hx τ' _ => valid_c ((hb r hr).2 x hx)) ⟨rfl, Nat.le_refl _⟩).pure)
 cases e2 : rs.all fun r => r.all yG with
 | false => rw [e2] at c2; exact (yQY c1 c2 ⟨by simp [xR, hlen, h6, e1, e2], Nat.le_refl _⟩).pure
 | true => rw [e2] at c2; exact (yQZ c1 c2 ⟨by simp [xR, hlen, h6, e1, e2], Nat.le_refl _⟩).pure
end
end Go.Proofs.Ytffgfojabcbegaa
