
import Derived.Test.YtmdopblmkkameaaRK
import Derived.Test.YtmdopblmkkameaaXO
namespace Go.Proofs.Ytmdopblmkkameaa
open Go Go.Lay
set_option linter.unusedVariables false
set_option linter.unusedSimpArgs false
set_option maxRecDepth 20000
def risF (n : Nat) : Int → List Int → Bool
 | _, [] => true
 | last, x :: xs => inB x (last + 1) ((n : Int) - 1) && risF n x xs
theorem drop_at' {α : Type} {l : List α} {i : Nat} {x : α} (h : l[i]? = some x) : l.drop i = x :: l.drop (i + 1) := by
 obtain ⟨hi, e⟩ := List.getElem?_eq_some_iff.1 h
 rw [List.drop_eq_getElem_cons hi, e]
section
variable {σ : St} {t : Tab} {pe pt : Option Addr} {le ce lt ct : Nat}
theorem rRising_c {p : Option Addr} {l c : Nat} {xs : List Int} (hR : RefP σ pe le pt lt t) (h : yZ σ p l xs) (hl : l ≤ 100000) (hlt : lt ≤ 100000) : zD Try.prog 34 [.agg ⟨yE t pe le ce pt lt ct⟩, .slice p l c] σ (.bool (risF lt (-1) xs)) σ := by
 have hxl := h.len
 suffices hmain : zN Try.prog 34 [.agg ⟨yE t pe le ce pt lt ct⟩, .slice p l c] σ.re fun v s => v = .bool (risF lt (-1) xs) ∧ σ.next ≤ s.low from zN.pure hmain
 obtain ⟨σ1, hσ1⟩ : ∃ σ1, σ1 = σ.re.row (yE t pe le ce pt lt ct) 4 := ⟨_, rfl⟩
 have n1 : New σ.re σ1 := by rw [hσ1]; exact New.row _ _ _
 have ot : Own σ1 σ.next (yE t pe le ce pt lt ct) 4 := by rw [hσ1]; exact zC _ _ _
 have h1 : yZ σ1 p l xs := SlV.le (SlV.le h (le0 σ)) n1.le
 have ld23 : zB Try.prog σ1 23 ⟨σ.next, 3, none⟩ = some (.slice pt lt ct) := ot.ldI (i := 3) zCM rfl
 have hL : rRising_L1 p l c σ.next 0 σ1 (fun b τ => τ = σ1 ∧ b = risF lt (-1) xs) (fun τ => τ = σ1 ∧ risF lt (-1) xs = true) := by
  refine rRising_loop1 (Inv := fun k i τ => ∃ s : Nat, i = s ∧ s + k = l ∧ τ = σ1 ∧ ∃ last : Int, (s = 0 → last = -1) ∧ (0 < s → xs[s - 1]? = some last) ∧ -1 ≤ last ∧ last < 1000000 ∧ risF lt (-1) xs = risF lt last (xs.drop s)) ?_ l 0 σ1 ⟨0, rfl, by omega, rfl, -1, fun _ => rfl, fun h => by omega, by omega, by omega, rfl⟩
  rintro k i τ ⟨s, rfl, hk, hτ, last, hl0, hl1, hlb, hlb2, hr⟩
  subst hτ
  by_cases hs : s < l
  rotate_left
  ·refine rRising_s1e ⟨rfl, ?_⟩ (by omega)
   rw [hr, List.drop_of_length_le (by omega)]; rfl
  obtain ⟨a, rfl, x, hx, ld⟩ := uX h1 hs
  rw [drop_at' hx] at hr
  have eR : risF lt last (x :: xs.drop (s + 1)) = (inB x (last + 1) ((lt : Int) - 1) && risF lt x (xs.drop (s + 1))) := rfl
  rw [eR] at hr
  have hin := rIn_c (σ := τ) (n := x) (lo := 0) (hi := ((lt : Nat) : Int) - 1)
  cases hb : inB x 0 ((lt : Int) - 1) with
  | false =>
   rw [hb] at hin
   refine rRising_s1d ld ld23 hin ⟨rfl, ?_⟩
   have : inB x (last + 1) ((lt : Int) - 1) = false := by
    cases h2 : inB x (last + 1) ((lt : Int) - 1) with
    | false => rfl
    | true =>
     have := vO.1 h2
     rw [vO.2 ⟨by omega, this.2⟩] at hb; cases hb
   rw [hr, this]; rfl
  | true =>
  rw [hb] at hin
  obtain ⟨b0, b1⟩ := vO.1 hb
  by_cases hs0 : s = 0
  ·subst hs0
   have e := hl0 rfl
   subst e
   refine rRising_s1c ld ld23 hin ⟨k - 1, by omega, 0 + 1, by omega, by omega, rfl, x, fun h => by omega, fun _ => hx, by omega, by omega, ?_⟩
   rw [hr, show (-1 : Int) + 1 = 0 from rfl, hb]; rfl
  ·have hp := hl1 (by omega)
   have ldp : zB Try.prog τ 3 (zK a (Int.toNat ((s : Int) - 1) * 1)) = some (iV last) := by
    have := SlV.at h1 rfl (i := s - 1) (v := xK last) (by rw [List.getElem?_map, hp]; rfl)
    rw [show ((s : Int) - 1) = ((s - 1 : Nat) : Int) by omega]; exact this
   by_cases hle : x ≤ last
   ·refine rRising_s1a ld ld23 hin ldp ⟨rfl, ?_⟩
    have : inB x (last + 1) ((lt : Int) - 1) = false := by
     cases h2 : inB x (last + 1) ((lt : Int) - 1) with
     | false => rfl
     | true => have := vO.1 h2; omega
    rw [hr, this]; rfl
   ·refine rRising_s1b ld ld23 hin ldp ⟨k - 1, by omega, s + 1, by omega, by omega, rfl, x, fun h => by omega, fun _ => by rw [Nat.add_sub_cancel]; exact hx, by omega, by omega, ?_⟩
    rw [hr, vO.2 ⟨by omega, b1⟩]; rfl
 subst hσ1
 exact rRising_ra hL (fun b τ h => rRising_t1xra ⟨by rw [h.2], by rw [h.1]; exact n1.lw⟩) (fun τ h => rRising_t1x0a ⟨by rw [h.2], by rw [h.1]; exact n1.lw⟩)
end
end Go.Proofs.Ytmdopblmkkameaa
