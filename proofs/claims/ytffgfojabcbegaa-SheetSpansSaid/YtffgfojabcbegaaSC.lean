
import Derived.Test.YtffgfojabcbegaaSB
namespace Go.Proofs.Ytffgfojabcbegaa
open Go Go.Lay
open Try renaming prog → Pg
set_option linter.unusedVariables false
set_option linter.unusedSimpArgs false
set_option maxRecDepth 20000
def Byte (x : Rec) : Prop := 0 ≤ x.k ∧ x.k ≤ 255
abbrev kindL : List Value := [.func (.func 85) ⟨[]⟩ ⟨[]⟩, .func (.func 86) ⟨[]⟩ ⟨[]⟩, .func (.func 87) ⟨[]⟩ ⟨[]⟩]
section
variable {σ : St}
theorem conv8 {n : Int} {τ : St} (h : 0 ≤ n ∧ n ≤ 255) : (belowL τ.next [.int .u8 n] ∧ goodB RD (iV n) = true) ∧ seeOp Pg (evL [.int .u8 n]) τ (.convert 5 3 (.tmp 0)) = some (iV n) := by
 refine ⟨⟨rfl, rfl⟩, ?_⟩
 have e : seeOp Pg (evL [.int .u8 n]) τ (.convert 5 3 (.tmp 0)) = some (iV (wrapK .i64 n)) := by kernel_rfl
 rw [e, wrap64 (by omega) (by omega)]
theorem kinds_c : ∃ b σ', CallsA Pg 74 [] σ (.slice (some ⟨b, 0, none⟩) 3 3) σ' ∧ New σ σ' ∧ Own σ' b kindL 1 := by
 obtain ⟨v, σ', h1, h2, b, rfl, h3⟩ := RunsQ.new (P := Pg) (f := 74) (args := []) (σ := σ) (Q := fun v s => ∃ b, v = .slice (some ⟨b, 0, none⟩) 3 3 ∧ Own s b kindL 1) (kinds_ra ⟨New.row _ _ _, _, rfl, own_new _ _ _⟩)
  (by rintro v s s' ⟨b, rfl, h⟩ hl; exact ⟨b, rfl, h.le hl⟩) (by rintro v s hr ⟨b, rfl, _⟩; exact Bool.noConfusion (show false = true from hr))
 exact ⟨b, σ', h1, h2, h3⟩
theorem valid_c {x : Rec} (hx : Byte x) : CallsA Pg 57 [recV x] σ (.bool (rightB x)) σ := by
 obtain ⟨m, s, t, k, a, b⟩ := x
 obtain ⟨hk0, hk1⟩ := hx
 simp only at hk0 hk1
 cases h1 : inB m 0 999 with
 | false => exact (valid_re (by rw [← h1]; exact within_c) ⟨by simp [rightB, h1], (New.row _ _ _).lw⟩).pure
 | true =>
 cases h2 : inB s 1 9999 with
 | false => exact (valid_rd (by rw [← h1]; exact within_c) (by rw [← h2]; exact within_c) ⟨by simp [rightB, h2], (New.row _ _ _).lw⟩).pure
 | true =>
 cases h3 : inB t 0 1000000 with
 | false => exact (valid_rc (by rw [← h1]; exact within_c) (by rw [← h2]; exact within_c) (by rw [← h3]; exact within_c) ⟨by simp [rightB, h3], (New.row _ _ _).lw⟩).pure
 | true =>
 obtain ⟨b1, σ5, k1, n1, o1⟩ := kinds_c (σ := σ.re.row (rcd m s t k a b) 6)
 have oR : Own (σ.re.row (rcd m s t k a b) 6) σ.next (rcd m s t k a b) 6 := own_new _ _ _
 have N1 : New σ.re (σ.re.row (rcd m s t k a b) 6) := New.row _ _ _
 by_cases hk : k < 3
 rotate_left
 ·exact (valid_rb (by rw [← h1]; exact within_c) (by rw [← h2]; exact within_c) (by rw [← h3]; exact within_c) k1 (belowL_cons (belowB_sl1 o1.lt) belowL_nil) ⟨⟨(oR.le n1.le).lt, rfl⟩, (oR.le n1.le).ld rfl agg5 rfl⟩ (conv8 ⟨hk0, hk1⟩) (conv8 ⟨hk0, hk1⟩)
   ⟨by simp [rightB, show ¬ k = 0 by omega, show ¬ k = 1 by omega, show ¬ k = 2 by omega], (N1.trans n1).lw⟩).pure
 obtain ⟨b2, σ7, k2, n2, o2⟩ := kinds_c (σ := σ5)
 have o5 := oR.le n1.le
 have o7 := o5.le n2.le
 have NN := (N1.trans n1).trans n2
 have key : ∀ (g : FuncId) (B : Bool), loadA Pg σ7 105 (aadd ⟨b2, 0, none⟩ (Int.toNat k * 1 + 0)) = some (.func (.func g) ⟨[]⟩ ⟨[]⟩) → CallsA Pg g [.agg ⟨rcd m s t k a b⟩] σ7 (.bool B) σ7 → B = rightB ⟨m, s, t, k, a, b⟩ → CallsA Pg 57 [recV ⟨m, s, t, k, a, b⟩] σ (.bool (rightB ⟨m, s, t, k, a, b⟩)) σ := by
  intro g B hl hc hB
  exact (valid_ra (by rw [← h1]; exact within_c) (by rw [← h2]; exact within_c) (by rw [← h3]; exact within_c) k1 k2 (o7.ld rfl agg5 rfl) hl (o7.ldN agg79 size79 (k := 0) rfl rfl (by simp)) hc (belowL_cons (belowB_sl1 o1.lt) belowL_nil) (belowL_cons (belowB_ptr o7.lt) belowL_nil) (belowL_cons (belowB_ptr o2.lt) belowL_nil) (belowL_cons (belowB_ptr o7.lt) belowL_nil) rfl
   ⟨⟨o5.lt, rfl⟩, o5.ld rfl agg5 rfl⟩ (conv8 ⟨hk0, hk1⟩) (conv8 ⟨hk0, hk1⟩) ⟨⟨o5.lt, rfl⟩, o5.ld rfl agg5 rfl⟩ ⟨⟨o7.lt, rfl⟩, o7.ld rfl agg5 rfl⟩ ⟨⟨o5.lt, rfl⟩, o5.ldN agg79 size79 (k := 0) rfl rfl (by simp)⟩ ⟨⟨o7.lt, rfl⟩, o7.ldN agg79 size79 (k := 0) rfl rfl (by simp)⟩ ⟨by rw [hB], NN.lw⟩).pure
 have hkk : k = 0 ∨ k = 1 ∨ k = 2 := by omega
 rcases hkk with rfl | rfl | rfl
 ·exact key 85 _ (o2.ld rfl agg105 (k := 0) rfl) (sale_c (x := ⟨m, s, t, 0, a, b⟩)) (by simp [rightB, h1, h2, h3])
 ·exact key 86 _ (o2.ld rfl agg105 (k := 1) rfl) (sync_c (x := ⟨m, s, t, 1, a, b⟩)) (by simp [rightB, h1, h2, h3])
 ·exact key 87 _ (o2.ld rfl agg105 (k := 2) rfl) (closes_c (x := ⟨m, s, t, 2, a, b⟩)) (by simp [rightB, h1, h2, h3])
theorem rRight_c {x : Rec} : CallsA Pg 40 [recV x] σ (.bool (rightB x)) σ := by
 obtain ⟨m, s, t, k, a, b⟩ := x
 have N1 := (New.row σ.re (rcd m s t k a b) 6).lw
 cases h1 : inB m 0 999 with
 | false => exact (rRight_rk (by rw [← h1]; exact rIn_c) ⟨by simp [rightB, h1], N1⟩).pure
 | true =>
 cases h2 : inB s 1 9999 with
 | false => exact (rRight_rj (by rw [← h1]; exact rIn_c) (by rw [← h2]; exact rIn_c) ⟨by simp [rightB, h2], N1⟩).pure
 | true =>
 cases h3 : inB t 0 1000000 with
 | false => exact (rRight_ri (by rw [← h1]; exact rIn_c) (by rw [← h2]; exact rIn_c) (by rw [← h3]; exact rIn_c) ⟨by simp [rightB, h3], N1⟩).pure
 | true =>
 by_cases k0 : k = 0
 ·subst k0
  cases h4 : inB a 0 99 with
  | true => exact (rRight_ra (by rw [← h1]; exact rIn_c) (by rw [← h2]; exact rIn_c) (by rw [← h3]; exact rIn_c) (by rw [← h4]; exact rIn_c) rIn_c ⟨by simp [rightB, h1, h2, h3, h4], N1⟩ rfl).pure
  | false => exact (rRight_rb (by rw [← h1]; exact rIn_c) (by rw [← h2]; exact rIn_c) (by rw [← h3]; exact rIn_c) (by rw [← h4]; exact rIn_c) ⟨by simp [rightB, h4], N1⟩ rfl).pure
 by_cases k1 : k = 1
 ·subst k1
  cases h4 : inB a 0 1000000 with
  | true =>
   by_cases hb : b = 0
   ·exact (rRight_rc (by rw [← h1]; exact rIn_c) (by rw [← h2]; exact rIn_c) (by rw [← h3]; exact rIn_c) (by rw [← h4]; exact rIn_c) ⟨by simp [rightB, h1, h2, h3, h4, hb], N1⟩ k0 rfl hb).pure
   ·exact (rRight_rd (by rw [← h1]; exact rIn_c) (by rw [← h2]; exact rIn_c) (by rw [← h3]; exact rIn_c) (by rw [← h4]; exact rIn_c) ⟨by simp [rightB, h1, h2, h3, h4, hb], N1⟩ k0 rfl hb).pure
  | false => exact (rRight_re (by rw [← h1]; exact rIn_c) (by rw [← h2]; exact rIn_c) (by rw [← h3]; exact rIn_c) (by rw [← h4]; exact rIn_c) ⟨by simp [rightB, h4], N1⟩ k0 rfl).pure
 by_cases k2 : k = 2
 ·subst k2
  cases h4 : inB a 0 9999 with
  | true => exact (rRight_rf (by rw [← h1]; exact rIn_c) (by rw [← h2]; exact rIn_c) (by rw [← h3]; exact rIn_c) (by rw [← h4]; exact rIn_c) rIn_c ⟨by simp [rightB, h1, h2, h3, h4], N1⟩ k0 k1 rfl).pure
  | false => exact (rRight_rg (by rw [← h1]; exact rIn_c) (by rw [← h2]; exact rIn_c) (by rw [← h3]; exact rIn_c) (by rw [← h4]; exact rIn_c) ⟨by simp [rightB, h4], N1⟩ k0 k1 rfl).pure
 exact (rRight_rh (by rw [← h1]; exact rIn_c) (by rw [← h2]; exact rIn_c) (by rw [← h3]; exact rIn_c) ⟨by simp [rightB, k0, k1, k2], N1⟩ k0 k1 k2).pure
theorem record_c {x : Rec} : CallsA Pg 39 [recV x] σ (recV x) σ := (record_ra ⟨rfl, by simp⟩).pure
def faultZ (rs : List (List Rec)) : Int := if 6 < rs.length then 3 else if !(rs.all fun r => decide (r.length ≤ 60)) then 3 else if !(rs.all fun r => r.all rightB) then 1 else 0
theorem checked_c {p : Option Addr} {l c : Nat} {rs : List (List Rec)} (h : RowsP σ 28 79 p l rs) (hl : l ≤ 1073741824) (hb : ∀ r ∈ rs, r.length ≤ 1073741824 ∧ ∀ x ∈ r, Byte x) : CallsA Pg 36 [.slice p l c] σ (iV (faultZ rs)) σ := by
 have hlen := h.len
 have h0 := h.le (le0 σ)
 by_cases h6 : 6 < l
 ·exact (checked_ra ⟨by simp [faultZ, hlen, h6], Nat.le_refl _⟩).pure
 have c1 := allR_c (cap := c) (g := 54) (gc := []) (f := fun r => decide (r.length ≤ 60)) h0 hl (fun r hr q c τ hτ hq => by
  by_cases e : r.length ≤ 60
  ·exact (checked1_ra ⟨by simp [e], Nat.le_refl _⟩ (by omega)).pure
  ·exact (checked1_rb ⟨by simp [e], Nat.le_refl _⟩ (by omega)).pure)
 cases e1 : rs.all fun r => decide (r.length ≤ 60) with
 | false => rw [e1] at c1; exact (checked_rd c1 ⟨by simp [faultZ, hlen, h6, e1], Nat.le_refl _⟩).pure
 | true =>
 rw [e1] at c1
 have c2 := allR_c (cap := c) (g := 55) (gc := []) (f := fun r => r.all rightB) h0 hl (fun r hr q c τ hτ hq =>
  (checked2_ra (allT_c (g := 57) (gc := []) (f := rightB) (SlV.le hq (le0 τ)) (hb r hr).1 fun x hx τ' _ => valid_c ((hb r hr).2 x hx)) ⟨rfl, Nat.le_refl _⟩).pure)
 cases e2 : rs.all fun r => r.all rightB with
 | false => rw [e2] at c2; exact (checked_rc c1 c2 ⟨by simp [faultZ, hlen, h6, e1, e2], Nat.le_refl _⟩).pure
 | true => rw [e2] at c2; exact (checked_rb c1 c2 ⟨by simp [faultZ, hlen, h6, e1, e2], Nat.le_refl _⟩).pure
end
end Go.Proofs.Ytffgfojabcbegaa
