
import Derived.Test.YtffgfojabcbegaaSB
namespace Go.Proofs.Ytffgfojabcbegaa
open Go Go.Lay
open Try renaming prog → Pg
set_option linter.unusedVariables false
set_option linter.unusedSimpArgs false
set_option maxRecDepth 20000
def zXO (x : Rec) : Prop := 0 ≤ x.k ∧ x.k ≤ 255
abbrev kindL : List Value := [.func (.func 85) ⟨[]⟩ ⟨[]⟩, .func (.func 86) ⟨[]⟩ ⟨[]⟩, .func (.func 87) ⟨[]⟩ ⟨[]⟩]
section
variable {σ : St}
theorem yRN {n : Int} {τ : St} (h : 0 ≤ n ∧ n ≤ 255) : (yK τ.next [.int .u8 n] ∧ xG RD (iV n) = true) ∧ wG Pg (evL [.int .u8 n]) τ (.convert 5 3 (.tmp 0)) = some (iV n) := by
 refine ⟨⟨rfl, rfl⟩, ?_⟩
 have e : wG Pg (evL [.int .u8 n]) τ (.convert 5 3 (.tmp 0)) = some (iV (uN .i64 n)) := by kernel_rfl
 rw [e, zF (by omega) (by omega)]
theorem yQZ : ∃ b σ', zG Pg 74 [] σ (.slice (some ⟨b, 0, none⟩) 3 3) σ' ∧ New σ σ' ∧ Own σ' b kindL 1 := by
 obtain ⟨v, σ', h1, h2, b, rfl, h3⟩ := zO.new (P := Pg) (f := 74) (args := []) (σ := σ) (Q := fun v s => ∃ b, v = .slice (some ⟨b, 0, none⟩) 3 3 ∧ Own s b kindL 1) (kinds_ra ⟨New.row _ _ _, _, rfl, zE _ _ _⟩)
  (by rintro v s s' ⟨b, rfl, h⟩ hl; exact ⟨b, rfl, h.le hl⟩) (by rintro v s hr ⟨b, rfl, _⟩; exact Bool.noConfusion (show false = true from hr))
 exact ⟨b, σ', h1, h2, h3⟩
theorem valid_c {x : Rec} (hx : zXO x) : zG Pg 57 [yP x] σ (.bool (yL x)) σ := by
 obtain ⟨m, s, t, k, a, b⟩ := x
 obtain ⟨hk0, hk1⟩ := hx
 simp only at hk0 hk1
 cases h1 : inB m 0 999 with
 | false => exact (yWQ (by rw [← h1]; exact xR) ⟨by simp [yL, h1], (New.row _ _ _).lw⟩).pure
 | true =>
 cases h2 : inB s 1 9999 with
 | false => exact (yWR (by rw [← h1]; exact xR) (by rw [← h2]; exact xR) ⟨by simp [yL, h2], (New.row _ _ _).lw⟩).pure
 | true =>
 cases h3 : inB t 0 1000000 with
 | false => exact (yWS (by rw [← h1]; exact xR) (by rw [← h2]; exact xR) (by rw [← h3]; exact xR) ⟨by simp [yL, h3], (New.row _ _ _).lw⟩).pure
 | true =>
 obtain ⟨b1, σ5, k1, n1, o1⟩ := yQZ (σ := σ.re.row (rcd m s t k a b) 6)
 have oR : Own (σ.re.row (rcd m s t k a b) 6) σ.next (rcd m s t k a b) 6 := zE _ _ _
 have N1 : New σ.re (σ.re.row (rcd m s t k a b) 6) := New.row _ _ _
 by_cases hk : k < 3
 rotate_left
 ·exact (yWT (by rw [← h1]; exact xR) (by rw [← h2]; exact xR) (by rw [← h3]; exact xR) k1 (zX (zWQ o1.lt) yB) ⟨⟨(oR.le n1.le).lt, rfl⟩, (oR.le n1.le).ld rfl zAB rfl⟩ (yRN ⟨hk0, hk1⟩) (yRN ⟨hk0, hk1⟩)
   ⟨by simp [yL, show ¬ k = 0 by omega, show ¬ k = 1 by omega, show ¬ k = 2 by omega], (N1.trans n1).lw⟩).pure
 obtain ⟨b2, σ7, k2, n2, o2⟩ := yQZ (σ := σ5)
 have o5 := oR.le n1.le
 have o7 := o5.le n2.le
 have NN := (N1.trans n1).trans n2
 have key : ∀ (g : FuncId) (B : Bool), zD Pg σ7 105 (zJ ⟨b2, 0, none⟩ (Int.toNat k * 1 + 0)) = some (.func (.func g) ⟨[]⟩ ⟨[]⟩) → zG Pg g [.agg ⟨rcd m s t k a b⟩] σ7 (.bool B) σ7 → B = yL ⟨m, s, t, k, a, b⟩ → zG Pg 57 [yP ⟨m, s, t, k, a, b⟩] σ (.bool (yL ⟨m, s, t, k, a, b⟩)) σ := by
  intro g B hl hc hB
  exact (yWU (by rw [← h1]; exact xR) (by rw [← h2]; exact xR) (by rw [← h3]; exact xR) k1 k2 (o7.ld rfl zAB rfl) hl (o7.ldN zDE xC (k := 0) rfl rfl (by simp)) hc (zX (zWQ o1.lt) yB) (zX (yE o7.lt) yB) (zX (yE o2.lt) yB) (zX (yE o7.lt) yB) rfl
   ⟨⟨o5.lt, rfl⟩, o5.ld rfl zAB rfl⟩ (yRN ⟨hk0, hk1⟩) (yRN ⟨hk0, hk1⟩) ⟨⟨o5.lt, rfl⟩, o5.ld rfl zAB rfl⟩ ⟨⟨o7.lt, rfl⟩, o7.ld rfl zAB rfl⟩ ⟨⟨o5.lt, rfl⟩, o5.ldN zDE xC (k := 0) rfl rfl (by simp)⟩ ⟨⟨o7.lt, rfl⟩, o7.ldN zDE xC (k := 0) rfl rfl (by simp)⟩ ⟨by rw [hB], NN.lw⟩).pure
 have hkk : k = 0 ∨ k = 1 ∨ k = 2 := by omega
 rcases hkk with rfl | rfl | rfl
 ·exact key 85 _ (o2.ld rfl zWV (k := 0) rfl) (sale_c (x := ⟨m, s, t, 0, a, b⟩)) (by simp [yL, h1, h2, h3])
 ·exact key 86 _ (o2.ld rfl zWV (k := 1) rfl) (sync_c (x := ⟨m, s, t, 1, a, b⟩)) (by simp [yL, h1, h2, h3])
 ·exact key 87 _ (o2.ld rfl zWV (k := 2) rfl) (closes_c (x := ⟨m, s, t, 2, a, b⟩)) (by simp [yL, h1, h2, h3])
theorem yXT {x : Rec} : zG Pg 40 [yP x] σ (.bool (yL x)) σ := by
 obtain ⟨m, s, t, k, a, b⟩ := x
 have N1 := (New.row σ.re (rcd m s t k a b) 6).lw
 cases h1 : inB m 0 999 with
 | false => exact (ySK (by rw [← h1]; exact wH) ⟨by simp [yL, h1], N1⟩).pure
 | true =>
 cases h2 : inB s 1 9999 with
 | false => exact (ySL (by rw [← h1]; exact wH) (by rw [← h2]; exact wH) ⟨by simp [yL, h2], N1⟩).pure
 | true =>
 cases h3 : inB t 0 1000000 with
 | false => exact (ySM (by rw [← h1]; exact wH) (by rw [← h2]; exact wH) (by rw [← h3]; exact wH) ⟨by simp [yL, h3], N1⟩).pure
 | true =>
 by_cases k0 : k = 0
 ·subst k0
  cases h4 : inB a 0 99 with
  | true => exact (ySU (by rw [← h1]; exact wH) (by rw [← h2]; exact wH) (by rw [← h3]; exact wH) (by rw [← h4]; exact wH) wH ⟨by simp [yL, h1, h2, h3, h4], N1⟩ rfl).pure
  | false => exact (yST (by rw [← h1]; exact wH) (by rw [← h2]; exact wH) (by rw [← h3]; exact wH) (by rw [← h4]; exact wH) ⟨by simp [yL, h4], N1⟩ rfl).pure
 by_cases k1 : k = 1
 ·subst k1
  cases h4 : inB a 0 1000000 with
  | true =>
   by_cases hb : b = 0
   ·exact (ySS (by rw [← h1]; exact wH) (by rw [← h2]; exact wH) (by rw [← h3]; exact wH) (by rw [← h4]; exact wH) ⟨by simp [yL, h1, h2, h3, h4, hb], N1⟩ k0 rfl hb).pure
   ·exact (ySR (by rw [← h1]; exact wH) (by rw [← h2]; exact wH) (by rw [← h3]; exact wH) (by rw [← h4]; exact wH) ⟨by simp [yL, h1, h2, h3, h4, hb], N1⟩ k0 rfl hb).pure
  | false => exact (ySQ (by rw [← h1]; exact wH) (by rw [← h2]; exact wH) (by rw [← h3]; exact wH) (by rw [← h4]; exact wH) ⟨by simp [yL, h4], N1⟩ k0 rfl).pure
 by_cases k2 : k = 2
 ·subst k2
  cases h4 : inB a 0 9999 with
  | true => exact (ySP (by rw [← h1]; exact wH) (by rw [← h2]; exact wH) (by rw [← h3]; exact wH) (by rw [← h4]; exact wH) wH ⟨by simp [yL, h1, h2, h3, h4], N1⟩ k0 k1 rfl).pure
  | false => exact (ySO (by rw [← h1]; exact wH) (by rw [← h2]; exact wH) (by rw [← h3]; exact wH) (by rw [← h4]; exact wH) ⟨by simp [yL, h4], N1⟩ k0 k1 rfl).pure
 exact (ySN (by rw [← h1]; exact wH) (by rw [← h2]; exact wH) (by rw [← h3]; exact wH) ⟨by simp [yL, k0, k1, k2], N1⟩ k0 k1 k2).pure
theorem yXO {x : Rec} : zG Pg 39 [yP x] σ (yP x) σ := (ySI ⟨rfl, by simp⟩).pure
def xV (rs : List (List Rec)) : Int := if 6 < rs.length then 3 else if !(rs.all fun r => decide (r.length ≤ 60)) then 3 else if !(rs.all fun r => r.all yL) then 1 else 0
theorem yVV {p : Option Addr} {l c : Nat} {rs : List (List Rec)} (h : zAT σ 28 79 p l rs) (hl : l ≤ 1073741824) (hb : ∀ r ∈ rs, r.length ≤ 1073741824 ∧ ∀ x ∈ r, zXO x) : zG Pg 36 [.slice p l c] σ (iV (xV rs)) σ := by
 have hlen := h.len
 have h0 := h.le (le0 σ)
 by_cases h6 : 6 < l
 ·exact (yOC ⟨by simp [xV, hlen, h6], Nat.le_refl _⟩).pure
 have c1 := allR_c (cap := c) (g := 54) (gc := []) (f := fun r => decide (r.length ≤ 60)) h0 hl (fun r hr q c τ hτ hq => by
  by_cases e : r.length ≤ 60
  ·exact (yIV ⟨by simp [e], Nat.le_refl _⟩ (by omega)).pure
  ·exact (yIU ⟨by simp [e], Nat.le_refl _⟩ (by omega)).pure)
 cases e1 : rs.all fun r => decide (r.length ≤ 60) with
 | false => rw [e1] at c1; exact (yNZ c1 ⟨by simp [xV, hlen, h6, e1], Nat.le_refl _⟩).pure
 | true =>
 rw [e1] at c1
 have c2 := allR_c (cap := c) (g := 55) (gc := []) (f := fun r => r.all yL) h0 hl (fun r hr q c τ hτ hq =>
  (yIT (allT_c (g := 57) (gc := []) (f := yL) (SlV.le hq (le0 τ)) (hb r hr).1 fun x hx τ' _ => valid_c ((hb r hr).2 x hx)) ⟨rfl, Nat.le_refl _⟩).pure)
 cases e2 : rs.all fun r => r.all yL with
 | false => rw [e2] at c2; exact (yOA c1 c2 ⟨by simp [xV, hlen, h6, e1, e2], Nat.le_refl _⟩).pure
 | true => rw [e2] at c2; exact (yOB c1 c2 ⟨by simp [xV, hlen, h6, e1, e2], Nat.le_refl _⟩).pure
end
end Go.Proofs.Ytffgfojabcbegaa
