
import Derived.Test.YtmdopblmkkameaaRK
import Derived.Test.YtmdopblmkkameaaXO
namespace Go.Proofs.Ytmdopblmkkameaa
open Go Go.Lay
open Try renaming prog → Pg
set_option linter.unusedVariables false
set_option linter.unusedSimpArgs false
set_option maxRecDepth 20000
def zAD (n : Nat) : Int → List Int → Bool
 | _, [] => true
 | last, x :: xs => inB x (last + 1) ((n : Int) - 1) && zAD n x xs
def zFP (t : Tab) (a b : List Int) (i k : Nat) : Bool := !xL t i k || decide ((i : Int) ∈ a) || decide ((k : Int) ∈ b)
def covP (t : Tab) (a b : List Int) : Bool := (List.range t.nt).all fun i => (List.range t.nt).all fun k => zFP t a b i k
def covB (t : Tab) (a b : List Int) : Bool := zAD t.nt (-1) a && zAD t.nt (-1) b && covP t a b
theorem drop_at' {α : Type} {l : List α} {i : Nat} {x : α} (h : l[i]? = some x) : l.drop i = x :: l.drop (i + 1) := by
 obtain ⟨hi, e⟩ := List.getElem?_eq_some_iff.1 h
 rw [List.drop_eq_getElem_cons hi, e]
section
variable {σ : St} {t : Tab} {pe pt : Option Addr} {le ce lt ct : Nat}
theorem rHas_c {p : Option Addr} {l c : Nat} {xs : List Int} {n : Int} (h : yU σ p l xs) (hl : l ≤ 100000) : zD Pg 73 [.slice p l c, iV n] σ (.bool (decide (n ∈ xs))) σ := by
 have hxl := h.len
 suffices hmain : zN Pg 73 [.slice p l c, iV n] σ.re fun v s => v = .bool (decide (n ∈ xs)) ∧ σ.next ≤ s.low from zN.pure hmain
 have h0 : yU σ.re p l xs := SlV.le h (le0 σ)
 refine rHas_ra (Pr := fun b τ => τ = σ.re ∧ b = decide (n ∈ xs)) (P0 := fun τ => τ = σ.re ∧ ¬ n ∈ xs) (rHas_loop1 (Inv := fun k i τ => ∃ s : Nat, i = s ∧ s + k = l ∧ τ = σ.re ∧ ¬ n ∈ xs.take s) ?_ l 0 σ.re ⟨0, rfl, by omega, rfl, by simp⟩) ?_ ?_
 ·rintro k i τ ⟨s, rfl, hk, hτ, hn⟩
  subst hτ
  by_cases hs : s < l
  rotate_left
  ·refine rHas_s1c ⟨rfl, ?_⟩ (by omega)
   rw [List.take_of_length_le (by omega)] at hn; exact hn
  obtain ⟨a, rfl, x, hx, ld⟩ := vP h0 hs
  by_cases e : x = n
  ·subst e
   exact rHas_s1a ld ⟨rfl, (decide_eq_true (List.mem_of_getElem? hx)).symm⟩
  ·refine rHas_s1b ld ⟨k - 1, by omega, s + 1, by omega, by omega, rfl, ?_⟩ (by omega) (by omega) e (by omega)
   rw [uS hx]; simp [hn]; exact fun h => e h.symm
 ·rintro b τ ⟨rfl, rfl⟩; exact rHas_t1xra ⟨rfl, Nat.le_refl _⟩
 ·rintro τ ⟨rfl, hn⟩; exact rHas_t1x0a ⟨by rw [decide_eq_false hn], Nat.le_refl _⟩
theorem rRising_c {p : Option Addr} {l c : Nat} {xs : List Int} (hR : RefP σ pe le pt lt t) (h : yU σ p l xs) (hl : l ≤ 100000) (hlt : lt ≤ 100000) : zD Pg 34 [.agg ⟨yB t pe le ce pt lt ct⟩, .slice p l c] σ (.bool (zAD lt (-1) xs)) σ := by
 have hxl := h.len
 suffices hmain : zN Pg 34 [.agg ⟨yB t pe le ce pt lt ct⟩, .slice p l c] σ.re fun v s => v = .bool (zAD lt (-1) xs) ∧ σ.next ≤ s.low from zN.pure hmain
 obtain ⟨σ1, hσ1⟩ : ∃ σ1, σ1 = σ.re.row (yB t pe le ce pt lt ct) 4 := ⟨_, rfl⟩
 have n1 : New σ.re σ1 := by rw [hσ1]; exact New.row _ _ _
 have ot : Own σ1 σ.next (yB t pe le ce pt lt ct) 4 := by rw [hσ1]; exact zC _ _ _
 have h1 : yU σ1 p l xs := SlV.le (SlV.le h (le0 σ)) n1.le
 have ld23 : zB Pg σ1 23 ⟨σ.next, 3, none⟩ = some (.slice pt lt ct) := ot.ldI (i := 3) wE rfl
 have hL : rRising_L1 p l c σ.next 0 σ1 (fun b τ => τ = σ1 ∧ b = zAD lt (-1) xs) (fun τ => τ = σ1 ∧ zAD lt (-1) xs = true) := by
  refine rRising_loop1 (Inv := fun k i τ => ∃ s : Nat, i = s ∧ s + k = l ∧ τ = σ1 ∧ ∃ last : Int, (s = 0 → last = -1) ∧ (0 < s → xs[s - 1]? = some last) ∧ -1 ≤ last ∧ last < 1000000 ∧ zAD lt (-1) xs = zAD lt last (xs.drop s)) ?_ l 0 σ1 ⟨0, rfl, by omega, rfl, -1, fun _ => rfl, fun h => by omega, by omega, by omega, rfl⟩
  rintro k i τ ⟨s, rfl, hk, hτ, last, hl0, hl1, hlb, hlb2, hr⟩
  subst hτ
  by_cases hs : s < l
  rotate_left
  ·refine rRising_s1e ⟨rfl, ?_⟩ (by omega)
   rw [hr, List.drop_of_length_le (by omega)]; rfl
  obtain ⟨a, rfl, x, hx, ld⟩ := vP h1 hs
  rw [drop_at' hx] at hr
  have eR : zAD lt last (x :: xs.drop (s + 1)) = (inB x (last + 1) ((lt : Int) - 1) && zAD lt x (xs.drop (s + 1))) := rfl
  rw [eR] at hr
  have hin := rIn_c (σ := τ) (n := x) (lo := 0) (hi := ((lt : Nat) : Int) - 1)
  cases hb : inB x 0 ((lt : Int) - 1) with
  | false =>
   rw [hb] at hin
   refine rRising_s1d ld ld23 hin ⟨rfl, ?_⟩
   have : inB x (last + 1) ((lt : Int) - 1) = false := by
    cases h2 : inB x (last + 1) ((lt : Int) - 1) with
    | false => rfl
    | true =>
     have := zAM.1 h2
     rw [zAM.2 ⟨by omega, this.2⟩] at hb; cases hb
   rw [hr, this]; rfl
  | true =>
  rw [hb] at hin
  obtain ⟨b0, b1⟩ := zAM.1 hb
  by_cases hs0 : s = 0
  ·subst hs0
   have e := hl0 rfl
   subst e
   refine rRising_s1c ld ld23 hin ⟨k - 1, by omega, 0 + 1, by omega, by omega, rfl, x, fun h => by omega, fun _ => hx, by omega, by omega, ?_⟩
   rw [hr, show (-1 : Int) + 1 = 0 from rfl, hb]; rfl
  ·have hp := hl1 (by omega)
   have ldp : zB Pg τ 3 (zH a (Int.toNat ((s : Int) - 1) * 1)) = some (iV last) := by
    have := SlV.at h1 rfl (i := s - 1) (v := wM last) (by rw [List.getElem?_map, hp]; rfl)
    rw [show ((s : Int) - 1) = ((s - 1 : Nat) : Int) by omega]; exact this
   by_cases hle : x ≤ last
   ·refine rRising_s1a ld ld23 hin ldp ⟨rfl, ?_⟩
    have : inB x (last + 1) ((lt : Int) - 1) = false := by
     cases h2 : inB x (last + 1) ((lt : Int) - 1) with
     | false => rfl
     | true => have := zAM.1 h2; omega
    rw [hr, this]; rfl
   ·refine rRising_s1b ld ld23 hin ldp ⟨k - 1, by omega, s + 1, by omega, by omega, rfl, x, fun h => by omega, fun _ => by rw [Nat.add_sub_cancel]; exact hx, by omega, by omega, ?_⟩
    rw [hr, zAM.2 ⟨by omega, b1⟩]; rfl
 subst hσ1
 exact rRising_ra hL (fun b τ h => rRising_t1xra ⟨by rw [h.2], by rw [h.1]; exact n1.lw⟩) (fun τ h => rRising_t1x0a ⟨by rw [h.2], by rw [h.1]; exact n1.lw⟩)
theorem rIsCover_c {pa pb : Option Addr} {la ca lb cb : Nat} {a b : List Int} (hR : RefP σ pe le pt lt t) (hv : Valid t) (ha : yU σ pa la a) (hb : yU σ pb lb b) (hla : la ≤ 100000) (hlb : lb ≤ 100000) (hlt : lt ≤ 100000) :
    zD Pg 45 [.agg ⟨yB t pe le ce pt lt ct⟩, .slice pa la ca, .slice pb lb cb] σ (.bool (covB t a b)) σ := by
  have hnt : t.nt = lt := hR.len
  suffices hmain : zN Pg 45 [.agg ⟨yB t pe le ce pt lt ct⟩, .slice pa la ca, .slice pb lb cb] σ.re fun v s => v = .bool (covB t a b) ∧ σ.next ≤ s.low from zN.pure hmain
  obtain ⟨σ1, hσ1⟩ : ∃ σ1, σ1 = σ.re.row (yB t pe le ce pt lt ct) 4 := ⟨_, rfl⟩
  have n1 : New σ.re σ1 := by rw [hσ1]; exact New.row _ _ _
  have ot : Own σ1 σ.next (yB t pe le ce pt lt ct) 4 := by rw [hσ1]; exact zC _ _ _
  have R1 := (hR.le' (le0 σ)).le' n1.le
  have a1 : yU σ1 pa la a := SlV.le (SlV.le ha (le0 σ)) n1.le
  have b1 : yU σ1 pb lb b := SlV.le (SlV.le hb (le0 σ)) n1.le
  have r1 := rRising_c (ce := ce) (ct := ct) (c := ca) R1 a1 hla hlt
  have r2 := rRising_c (ce := ce) (ct := ct) (c := cb) R1 b1 hlb hlt
  unfold covB
  rw [hnt]
  cases h1 : zAD lt (-1) a with
  | false =>
    rw [h1] at r1
    subst hσ1
    exact rIsCover_rc r1 ⟨rfl, n1.lw⟩
  | true =>
  rw [h1] at r1
  cases h2 : zAD lt (-1) b with
  | false =>
    rw [h2] at r2
    subst hσ1
    exact rIsCover_rb r1 r2 ⟨rfl, n1.lw⟩
  | true =>
  rw [h2] at r2
  have ld23 : zB Pg σ1 23 ⟨σ.next, 3, none⟩ = some (.slice pt lt ct) := ot.ldI (i := 3) wE rfl
  have ld25 : zB Pg σ1 25 ⟨σ.next, 0, none⟩ = some (.agg ⟨yB t pe le ce pt lt ct⟩) := ot.ldN wT xJ (k := 0) rfl rfl (by simp)
  have hno : ∀ i k, i < lt → k < lt → zFP t a b i k = false → covP t a b = false := fun i k hi hk hp => by
    cases hc : covP t a b with
    | false => rfl
    | true =>
      have h3 := List.all_eq_true.1 hc i (by rw [hnt]; simpa using hi)
      have h4 := List.all_eq_true.1 h3 k (by rw [hnt]; simpa using hk)
      rw [hp] at h4; cases h4
  have hL : zJB pa la ca pb lb cb σ.next 0 σ1 (fun τ => τ = σ1 ∧ covP t a b = true) (fun c τ => τ = σ1 ∧ c = covP t a b) := by
    refine rIsCover_loop1 (Inv := fun k i τ => ∃ s : Nat, i = s ∧ s + k = lt ∧ τ = σ1 ∧ ∀ i' < s, ∀ k' < lt, zFP t a b i' k' = true) ?_ lt 0 σ1 ⟨0, rfl, by omega, rfl, fun i' h => by omega⟩
    rintro k i τ ⟨s, rfl, hk, hτ, hall⟩
    subst hτ
    by_cases hs : s < lt
    rotate_left
    · refine rIsCover_s1b ld23 ⟨rfl, ?_⟩ (by omega)
      refine List.all_eq_true.2 fun i hi => List.all_eq_true.2 fun k hk => ?_
      rw [hnt] at hi hk
      exact hall i (by have : i < lt := by simpa using hi
                       omega) k (by simpa using hk)
    refine rIsCover_s1a ld23 (Pr := fun c τ' => τ' = τ ∧ c = covP t a b) (P2 := fun τ' => τ' = τ ∧ ∀ k' < lt, zFP t a b s k' = true) (rIsCover_loop2 (Inv := fun m j τ' => ∃ u : Nat, j = u ∧ u + m = lt ∧ τ' = τ ∧ ∀ k' < u, zFP t a b s k' = true) ?_ lt 0 τ ⟨0, rfl, by omega, rfl, fun k' h => by omega⟩) (fun c τ' h => rIsCover_t2xra h) ?_ (by omega)
    rotate_left
    · rintro τ' ⟨hτ', h5⟩
      subst hτ'
      exact rIsCover_t2x2a ⟨k - 1, by omega, s + 1, by omega, by omega, rfl, fun i' hi' => by
        by_cases e : i' = s
        · subst e; exact h5
        · exact hall i' (by omega)⟩ (by omega)
    rintro m j τ' ⟨u, rfl, hu, hτ', h5⟩
    subst hτ'
    by_cases hul : u < lt
    rotate_left
    · exact rIsCover_s2e ld23 ⟨rfl, fun k' h => h5 k' (by omega)⟩ (by omega)
    have more : zFP t a b s u = true → ∀ k' < u + 1, zFP t a b s k' = true := fun hp k' hk' => by
      by_cases e : k' = u
      · subst e; exact hp
      · exact h5 k' (by omega)
    have cm := rMay_c (ce := ce) (ct := ct) R1 hv hs hul
    have ch1 := rHas_c (n := (s : Int)) (c := ca) a1 hla
    have ch2 := rHas_c (n := (u : Int)) (c := cb) b1 hlb
    have eP : zFP t a b s u = (!xL t s u || decide ((s : Int) ∈ a) || decide ((u : Int) ∈ b)) := rfl
    cases hM : xL t s u with
    | false =>
      rw [hM] at cm
      exact rIsCover_s2d ld23 ld25 cm ⟨m - 1, by omega, u + 1, by omega, by omega, rfl, more (by rw [eP, hM]; rfl)⟩ (by omega) (by omega)
    | true =>
    rw [hM] at cm
    cases hA : decide ((s : Int) ∈ a) with
    | true =>
      rw [hA] at ch1
      exact rIsCover_s2a ld23 ld25 cm ch1 ⟨m - 1, by omega, u + 1, by omega, by omega, rfl, more (by rw [eP, hA]; simp)⟩ (by omega) (by omega)
    | false =>
    rw [hA] at ch1
    cases hB : decide ((u : Int) ∈ b) with
    | true =>
      rw [hB] at ch2
      exact rIsCover_s2b ld23 ld25 cm ch1 ch2 ⟨m - 1, by omega, u + 1, by omega, by omega, rfl, more (by rw [eP, hB]; simp)⟩ (by omega) (by omega)
    | false =>
      rw [hB] at ch2
      exact rIsCover_s2c ld23 ld25 cm ch1 ch2 ⟨rfl, (hno s u hs hul (by rw [eP, hM, hA, hB]; rfl)).symm⟩ (by omega)
  subst hσ1
  exact rIsCover_ra r1 r2 hL (fun τ h => rIsCover_t1x0a ⟨by rw [h.2]; rfl, by rw [h.1]; exact n1.lw⟩) (fun c τ h => rIsCover_t1xra ⟨by rw [h.2]; rfl, by rw [h.1]; exact n1.lw⟩)
end
end Go.Proofs.Ytmdopblmkkameaa
