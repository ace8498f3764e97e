
import Derived.Test.YtffgfojabcbegaaSB
namespace Go.Proofs.Ytffgfojabcbegaa
open Go Go.Lay
open Try renaming prog → Pg
set_option linter.unusedVariables false
set_option linter.unusedSimpArgs false
set_option maxRecDepth 20000
def zSM (x : Rec) : Prop := 0 ≤ x.k ∧ x.k ≤ 255
abbrev kindL : List Value := [.func (.func 85) ⟨[]⟩ ⟨[]⟩, .func (.func 86) ⟨[]⟩ ⟨[]⟩, .func (.func 87) ⟨[]⟩ ⟨[]⟩]
section
variable {σ : St}
theorem yQW {n : Int} {τ : St} (h : 0 ≤ n ∧ n ≤ 255) : (zS τ.next [.int .u8 n] ∧ yU RD (iV n) = true) ∧ yX Pg (evL [.int .u8 n]) τ (.convert 5 3 (.tmp 0)) = some (iV n) := by
 refine ⟨⟨rfl, rfl⟩, ?_⟩
 have e : yX Pg (evL [.int .u8 n]) τ (.convert 5 3 (.tmp 0)) = some (iV (zBY .i64 n)) := by kernel_rfl
 rw [e, zE (by omega) (by omega)]
theorem yQH : ∃ b σ', zD Pg 74 [] σ (.slice (some ⟨b, 0, none⟩) 3 3) σ' ∧ New σ σ' ∧ Own σ' b kindL 1 := by
 obtain ⟨v, σ', h1, h2, b, rfl, h3⟩ := zJ.new (P := Pg) (f := 74) (args := []) (σ := σ) (Q := fun v s => ∃ b, v = .slice (some ⟨b, 0, none⟩) 3 3 ∧ Own s b kindL 1) (yYM ⟨New.row _ _ _, _, rfl, zC _ _ _⟩)
  (by rintro v s s' ⟨b, rfl, h⟩ hl; exact ⟨b, rfl, h.le hl⟩) (by rintro v s hr ⟨b, rfl, _⟩; exact Bool.noConfusion (show false = true from hr))
 exact ⟨b, σ', h1, h2, h3⟩
theorem valid_c {x : Rec} (hx : zSM x) : zD Pg 57 [yO x] σ (.bool (yD x)) σ := by
 obtain ⟨m, s, t, k, a, b⟩ := x
 obtain ⟨hk0, hk1⟩ := hx
 simp only at hk0 hk1
 cases h1 : inB m 0 999 with
 | false => exact (yVN (by rw [← h1]; exact xE) ⟨by simp [yD, h1], (New.row _ _ _).lw⟩).pure
 | true =>
 cases h2 : inB s 1 9999 with
 | false => exact (yVO (by rw [← h1]; exact xE) (by rw [← h2]; exact xE) ⟨by simp [yD, h2], (New.row _ _ _).lw⟩).pure
 | true =>
 cases h3 : inB t 0 1000000 with
 | false => exact (yVP (by rw [← h1]; exact xE) (by rw [← h2]; exact xE) (by rw [← h3]; exact xE) ⟨by simp [yD, h3], (New.row _ _ _).lw⟩).pure
 | true =>
 obtain ⟨b1, σ5, k1, n1, o1⟩ := yQH (σ := σ.re.row (rcd m s t k a b) 6)
 have oR : Own (σ.re.row (rcd m s t k a b) 6) σ.next (rcd m s t k a b) 6 := zC _ _ _
 have N1 : New σ.re (σ.re.row (rcd m s t k a b) 6) := New.row _ _ _
 by_cases hk : k < 3
 rotate_left
 ·exact (yVQ (by rw [← h1]; exact xE) (by rw [← h2]; exact xE) (by rw [← h3]; exact xE) k1 (zL (zAP o1.lt) zT) ⟨⟨(oR.le n1.le).lt, rfl⟩, (oR.le n1.le).ld rfl zDV rfl⟩ (yQW ⟨hk0, hk1⟩) (yQW ⟨hk0, hk1⟩)
   ⟨by simp [yD, show ¬ k = 0 by omega, show ¬ k = 1 by omega, show ¬ k = 2 by omega], (N1.trans n1).lw⟩).pure
 obtain ⟨b2, σ7, k2, n2, o2⟩ := yQH (σ := σ5)
 have o5 := oR.le n1.le
 have o7 := o5.le n2.le
 have NN := (N1.trans n1).trans n2
 have key : ∀ (g : FuncId) (B : Bool), zB Pg σ7 105 (zG ⟨b2, 0, none⟩ (Int.toNat k * 1 + 0)) = some (.func (.func g) ⟨[]⟩ ⟨[]⟩) → zD Pg g [.agg ⟨rcd m s t k a b⟩] σ7 (.bool B) σ7 → B = yD ⟨m, s, t, k, a, b⟩ → zD Pg 57 [yO ⟨m, s, t, k, a, b⟩] σ (.bool (yD ⟨m, s, t, k, a, b⟩)) σ := by
  intro g B hl hc hB
  exact (yVR (by rw [← h1]; exact xE) (by rw [← h2]; exact xE) (by rw [← h3]; exact xE) k1 k2 (o7.ld rfl zDV rfl) hl (o7.ldN zAT yH (k := 0) rfl rfl (by simp)) hc (zL (zAP o1.lt) zT) (zL (yG o7.lt) zT) (zL (yG o2.lt) zT) (zL (yG o7.lt) zT) rfl
   ⟨⟨o5.lt, rfl⟩, o5.ld rfl zDV rfl⟩ (yQW ⟨hk0, hk1⟩) (yQW ⟨hk0, hk1⟩) ⟨⟨o5.lt, rfl⟩, o5.ld rfl zDV rfl⟩ ⟨⟨o7.lt, rfl⟩, o7.ld rfl zDV rfl⟩ ⟨⟨o5.lt, rfl⟩, o5.ldN zAT yH (k := 0) rfl rfl (by simp)⟩ ⟨⟨o7.lt, rfl⟩, o7.ldN zAT yH (k := 0) rfl rfl (by simp)⟩ ⟨by rw [hB], NN.lw⟩).pure
 have hkk : k = 0 ∨ k = 1 ∨ k = 2 := by omega
 rcases hkk with rfl | rfl | rfl
 ·exact key 85 _ (o2.ld rfl zWJ (k := 0) rfl) (sale_c (x := ⟨m, s, t, 0, a, b⟩)) (by simp [yD, h1, h2, h3])
 ·exact key 86 _ (o2.ld rfl zWJ (k := 1) rfl) (sync_c (x := ⟨m, s, t, 1, a, b⟩)) (by simp [yD, h1, h2, h3])
 ·exact key 87 _ (o2.ld rfl zWJ (k := 2) rfl) (closes_c (x := ⟨m, s, t, 2, a, b⟩)) (by simp [yD, h1, h2, h3])
theorem yWQ {x : Rec} : zD Pg 40 [yO x] σ (.bool (yD x)) σ := by
 obtain ⟨m, s, t, k, a, b⟩ := x
 have N1 := (New.row σ.re (rcd m s t k a b) 6).lw
 cases h1 : inB m 0 999 with
 | false => exact (yRU (by rw [← h1]; exact xW) ⟨by simp [yD, h1], N1⟩).pure
 | true =>
 cases h2 : inB s 1 9999 with
 | false => exact (yRV (by rw [← h1]; exact xW) (by rw [← h2]; exact xW) ⟨by simp [yD, h2], N1⟩).pure
 | true =>
 cases h3 : inB t 0 1000000 with
 | false => exact (yRW (by rw [← h1]; exact xW) (by rw [← h2]; exact xW) (by rw [← h3]; exact xW) ⟨by simp [yD, h3], N1⟩).pure
 | true =>
 by_cases k0 : k = 0
 ·subst k0
  cases h4 : inB a 0 99 with
  | true => exact (ySE (by rw [← h1]; exact xW) (by rw [← h2]; exact xW) (by rw [← h3]; exact xW) (by rw [← h4]; exact xW) xW ⟨by simp [yD, h1, h2, h3, h4], N1⟩ rfl).pure
  | false => exact (ySD (by rw [← h1]; exact xW) (by rw [← h2]; exact xW) (by rw [← h3]; exact xW) (by rw [← h4]; exact xW) ⟨by simp [yD, h4], N1⟩ rfl).pure
 by_cases k1 : k = 1
 ·subst k1
  cases h4 : inB a 0 1000000 with
  | true =>
   by_cases hb : b = 0
   ·exact (ySC (by rw [← h1]; exact xW) (by rw [← h2]; exact xW) (by rw [← h3]; exact xW) (by rw [← h4]; exact xW) ⟨by simp [yD, h1, h2, h3, h4, hb], N1⟩ k0 rfl hb).pure
   ·exact (ySB (by rw [← h1]; exact xW) (by rw [← h2]; exact xW) (by rw [← h3]; exact xW) (by rw [← h4]; exact xW) ⟨by simp [yD, h1, h2, h3, h4, hb], N1⟩ k0 rfl hb).pure
  | false => exact (ySA (by rw [← h1]; exact xW) (by rw [← h2]; exact xW) (by rw [← h3]; exact xW) (by rw [← h4]; exact xW) ⟨by simp [yD, h4], N1⟩ k0 rfl).pure
 by_cases k2 : k = 2
 ·subst k2
  cases h4 : inB a 0 9999 with
  | true => exact (yRZ (by rw [← h1]; exact xW) (by rw [← h2]; exact xW) (by rw [← h3]; exact xW) (by rw [← h4]; exact xW) xW ⟨by simp [yD, h1, h2, h3, h4], N1⟩ k0 k1 rfl).pure
  | false => exact (yRY (by rw [← h1]; exact xW) (by rw [← h2]; exact xW) (by rw [← h3]; exact xW) (by rw [← h4]; exact xW) ⟨by simp [yD, h4], N1⟩ k0 k1 rfl).pure
 exact (yRX (by rw [← h1]; exact xW) (by rw [← h2]; exact xW) (by rw [← h3]; exact xW) ⟨by simp [yD, k0, k1, k2], N1⟩ k0 k1 k2).pure
theorem yWK {x : Rec} : zD Pg 39 [yO x] σ (yO x) σ := (yRS ⟨rfl, by simp⟩).pure
def yS (rs : List (List Rec)) : Int := if 6 < rs.length then 3 else if !(rs.all fun r => decide (r.length ≤ 60)) then 3 else if !(rs.all fun r => r.all yD) then 1 else 0
theorem yUP {p : Option Addr} {l c : Nat} {rs : List (List Rec)} (h : vT σ 28 79 p l rs) (hl : l ≤ 1073741824) (hb : ∀ r ∈ rs, r.length ≤ 1073741824 ∧ ∀ x ∈ r, zSM x) : zD Pg 36 [.slice p l c] σ (iV (yS rs)) σ := by
 have hlen := h.len
 have h0 := h.le (le0 σ)
 by_cases h6 : 6 < l
 ·exact (yOA ⟨by simp [yS, hlen, h6], Nat.le_refl _⟩).pure
 have c1 := allR_c (cap := c) (g := 54) (gc := []) (f := fun r => decide (r.length ≤ 60)) h0 hl (fun r hr q c τ hτ hq => by
  by_cases e : r.length ≤ 60
  ·exact (yIH ⟨by simp [e], Nat.le_refl _⟩ (by omega)).pure
  ·exact (yIG ⟨by simp [e], Nat.le_refl _⟩ (by omega)).pure)
 cases e1 : rs.all fun r => decide (r.length ≤ 60) with
 | false => rw [e1] at c1; exact (yNX c1 ⟨by simp [yS, hlen, h6, e1], Nat.le_refl _⟩).pure
 | true =>
 rw [e1] at c1
 have c2 := allR_c (cap := c) (g := 55) (gc := []) (f := fun r => r.all yD) h0 hl (fun r hr q c τ hτ hq =>
  (yIF (allT_c (g := 57) (gc := []) (f := yD) (SlV.le hq (le0 τ)) (hb r hr).1 fun x hx τ' _ => valid_c ((hb r hr).2 x hx)) ⟨rfl, Nat.le_refl _⟩).pure)
 cases e2 : rs.all fun r => r.all yD with
 | false => rw [e2] at c2; exact (yNY c1 c2 ⟨by simp [yS, hlen, h6, e1, e2], Nat.le_refl _⟩).pure
 | true => rw [e2] at c2; exact (yNZ c1 c2 ⟨by simp [yS, hlen, h6, e1, e2], Nat.le_refl _⟩).pure
end
end Go.Proofs.Ytffgfojabcbegaa
