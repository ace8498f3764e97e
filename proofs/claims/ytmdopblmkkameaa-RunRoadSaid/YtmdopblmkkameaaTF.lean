
import Derived.Test.YtmdopblmkkameaaTB
import Derived.Test.YtmdopblmkkameaaXU
import Derived.Test.YtmdopblmkkameaaRY
namespace Go.Proofs.Ytmdopblmkkameaa
open Go Go.Lay
open Try renaming prog → Pg
set_option linter.unusedVariables false
set_option linter.unusedSimpArgs false
set_option maxRecDepth 20000
abbrev wordV (x : Int) : Value := .int .u16 x
abbrev WordsP (σ : St) (p : Option Addr) (l : Nat) (xs : List Int) : Prop := SlV Pg σ 50 1 p l (xs.map wordV)
def FitP (t : Tab) (xs : List Int) : Prop := ∀ (i : Nat) (n : Int), xs[i]? = some n → ∃ x, t.trips[i]? = some x ∧ x.least ≤ n ∧ n ≤ x.most
theorem FitP.snoc {t : Tab} {xs : List Int} {x : Trip} {n : Int} (h : FitP t xs) (hx : t.trips[xs.length]? = some x) (h1 : x.least ≤ n) (h2 : n ≤ x.most) : FitP t (xs ++ [n]) := by
 intro i m hm
 by_cases hi : i < xs.length
 ·rw [List.getElem?_append_left hi] at hm; exact h i m hm
 ·by_cases e : i = xs.length
  ·subst e
   simp at hm; subst hm; exact ⟨x, hx, h1, h2⟩
  ·rw [List.getElem?_eq_none (by simp; omega)] at hm; cases hm
theorem FitP.fits {t : Tab} {xs : List Int} (h : FitP t xs) (hl : xs.length = t.nt) : fitsB t xs = true := by
 unfold fitsB
 rw [decide_eq_true hl, Bool.true_and]
 refine List.all_eq_true.2 fun i hi => ?_
 have hi : i < t.nt := by simpa using hi
 obtain ⟨n, hn⟩ : ∃ n, xs[i]? = some n := ⟨xs[i]'(by omega), by simp⟩
 obtain ⟨x, hx, h1, h2⟩ := h i n hn
 unfold fitI
 rw [hx, hn]; exact inB_iff.2 ⟨h1, h2⟩
section
variable {σ : St} {t : Tab} {pe pt : Option Addr} {le ce lt ct : Nat}
theorem picked_c {pw : Option Addr} {lw cw : Nat} {ws : List Int} (hR : RefP σ pe le pt lt t) (hv : Valid t) (hw : WordsP σ pw lw ws) (hb : ∀ x ∈ ws, 0 ≤ x ∧ x ≤ 65535) (hlt : lt ≤ 100000) :
  ∃ p c σ' xs, CallsA Pg 42 [.agg ⟨tabL t pe le ce pt lt ct⟩, .slice pw lw cw] σ (.slice p lt c) σ' ∧ New σ σ' ∧ IntsP σ' p lt xs ∧ fitsB t xs = true := by
 have hnt : t.nt = lt := hR.len
 suffices hmain : RunsQ Pg 42 [.agg ⟨tabL t pe le ce pt lt ct⟩, .slice pw lw cw] σ.re fun v s => New σ.re s ∧ ∃ p c xs, v = .slice p lt c ∧ IntsP s p lt xs ∧ fitsB t xs = true by
  obtain ⟨v, σ', h1, h2, p, c, xs, rfl, h3, h4⟩ := RunsQ.new hmain
   (by rintro v s s' ⟨p, c, xs, rfl, q1, q2⟩ hle; exact ⟨p, c, xs, rfl, SlV.le q1 hle, q2⟩)
   (by
    rintro v s hr ⟨p, c, xs, rfl, q1, q2⟩
    refine ⟨p, c, xs, rfl, ?_, q2⟩
    cases p with
    | none => exact slv_none q1
    | some a => exact Bool.noConfusion (show false = true from hr))
  exact ⟨p, c, σ', xs, h1, h2, h3, h4⟩
 obtain ⟨σ1, hσ1⟩ : ∃ σ1, σ1 = σ.re.row (tabL t pe le ce pt lt ct) 4 := ⟨_, rfl⟩
 have n1 : New σ.re σ1 := by rw [hσ1]; exact New.row _ _ _
 have ot : Own σ1 σ.next (tabL t pe le ce pt lt ct) 4 := by rw [hσ1]; exact own_new _ _ _
 have w1 : WordsP σ1 pw lw ws := SlV.le (SlV.le hw (le0 σ)) n1.le
 have R1 := (hR.le' (le0 σ)).le' n1.le
 have hL : picked_L1 pw lw cw σ.next none 0 0 0 σ1 (fun p l c τ => New σ.re τ ∧ l = lt ∧ ∃ xs, IntsP τ p lt xs ∧ fitsB t xs = true) := by
  refine picked_loop1 (Inv := fun k p l c i τ => ∃ s : Nat, i = (s : Int) ∧ s + k = lt ∧ New σ1 τ ∧ l = s ∧ ∃ xs, xs.length = s ∧ FitP t xs ∧ Gr Pg τ σ1.next 3 1 p l c (xs.map intV)) ?_ lt none 0 0 0 σ1 ⟨0, rfl, by omega, New.refl _, rfl, [], rfl, fun i n h => by simp at h, Gr.nil⟩
  rintro k p l c i τ ⟨s, rfl, hk, hM, rfl, xs, hxl, hfit, g⟩
  have Rτ := R1.le' hM.le
  have lT : ∀ z, Le τ z → loadA Pg z 23 ⟨σ.next, 3, none⟩ = some (.slice pt lt ct) := fun z hz => ((ot.le hM.le).le hz).ldI (i := 3) agg23 rfl
  by_cases hs : l < lt
  rotate_left
  ·have : l = lt := by omega
   subst this
   exact picked_s1g (lT _ (Le.refl _)) ⟨n1.trans hM, rfl, xs, g.slv, hfit.fits (by omega)⟩ (by omega)
  obtain ⟨at_, rfl, y, hy, ldy⟩ := slv_at Rτ.tr (i := l) (by omega)
  have hyv := hv.trip hy
  obtain ⟨z1, hz1⟩ : ∃ z1, z1 = (τ.row (ints6 0 0 0 0 0 0) 6).own τ.next (ints6 y.fr y.to y.st y.least y.most y.kind) 6 := ⟨_, rfl⟩
  have N1 : New τ z1 := by rw [hz1]; exact (New.row _ _ _).own (Nat.le_refl _)
  have key : ∀ n : Int, y.least ≤ n → n ≤ y.most → ∃ p' c' τ', appendA Pg 41 41 (.slice p l c) (.slice (some ⟨z1.next, 0, none⟩) 1 1) (z1.row [iV n] 1) = some (.slice p' (l + 1) c', τ') ∧ ∃ s : Nat, ((l : Int) + 1) = (s : Int) ∧ s + (k - 1) = lt ∧ New σ1 τ' ∧ l + 1 = s ∧ ∃ xs, xs.length = s ∧ FitP t xs ∧ Gr Pg τ' σ1.next 3 1 p' (l + 1) c' (xs.map intV) := fun n h1 h2 => by
   obtain ⟨p4, c4, τ2, g1, g2, g3, g4, g5⟩ := grow (intV n) appT_ints g hM N1 (elOk_int _) (by omega)
   exact ⟨p4, c4, τ2, g1, l + 1, by omega, by omega, g3, rfl, xs ++ [n], by simp [hxl], hfit.snoc (by rw [hxl]; exact hy) h1 h2, by rw [List.map_append]; exact g2⟩
  have wr : ∀ w : Int, 0 ≤ w → w ≤ 65535 → IntKind.wrap .i64 (Int.tdiv w 3) = Int.tdiv w 3 ∧ 0 ≤ Int.tdiv w 3 ∧ Int.tdiv w 3 ≤ 65535 := fun w h1 h2 => by
   have e : Int.tdiv w 3 = w / 3 := Int.tdiv_eq_ediv_of_nonneg h1
   rw [e]
   exact ⟨by rw [← wrapK_eq]; exact wrap64 (by omega) (by omega), by omega, by omega⟩
  have rr : ∀ a : Int, 0 ≤ a → binA Pg .rem 3 (.tmp 36) (.tmp 42) (iV a) (iV ((y.most - y.least) + 1)) = some (iV (a.tmod ((y.most - y.least) + 1))) ∧ 0 ≤ a.tmod ((y.most - y.least) + 1) ∧ a.tmod ((y.most - y.least) + 1) ≤ y.most - y.least := fun a h1 => by
   have e : a.tmod ((y.most - y.least) + 1) = a % ((y.most - y.least) + 1) := Int.tmod_eq_emod_of_nonneg h1
   have hb1 := Int.emod_nonneg a (b := (y.most - y.least) + 1) (by omega)
   have hb2 := Int.emod_lt_of_pos a (b := (y.most - y.least) + 1) (by omega)
   exact ⟨rem_eq (by omega), by omega, by omega⟩
  have ei : ((l : Nat) : Int) + 1 = ((l : Int) + 1) := rfl
  by_cases hw0 : lw = 0
  ·subst hw0
   obtain ⟨q1, q2, q3⟩ := wr 1 (by omega) (by omega)
   obtain ⟨r1, r2, r3⟩ := rr (Int.tdiv 1 3) q2
   obtain ⟨p', c', τ', a1, a2⟩ := key y.most (by omega) (by omega)
   rw [hz1] at a1
   exact picked_s1e (lT _ (Le.refl _)) ldy q1 r1 a1 ⟨k - 1, by omega, a2⟩ (by first | omega | decide) (by first | omega | decide) (by first | omega | decide) (by first | omega | decide) (by first | omega | decide) (by first | omega | decide) (by first | omega | decide) (by first | omega | decide)
  ·have hwl : ws.length = lw := by have := hw.2.1; simpa using this
   have hm : l % lw < lw := Nat.mod_lt _ (by omega)
   obtain ⟨aw, rfl, w, hwx, ldw⟩ := slv_at (SlV.le w1 (hM.le.trans N1.le)) hm
   have hwb := hb w (List.mem_of_getElem? hwx)
   have eT : (l : Int).tmod (lw : Int) = ((l % lw : Nat) : Int) := by rw [Int.tmod_eq_emod_of_nonneg (by omega)]; omega
   have b1 : binA Pg .rem 3 (.tmp 26) (.tmp 28) (iV (l : Int)) (iV (lw : Int)) = some (iV ((l % lw : Nat) : Int)) := by rw [rem_eq (by omega), eT]
   obtain ⟨q1, q2, q3⟩ := wr w hwb.1 hwb.2
   obtain ⟨r1, r2, r3⟩ := rr (Int.tdiv w 3) q2
   rw [hz1] at ldw
   by_cases h4 : Int.tmod w 3 = 0
   ·obtain ⟨p', c', τ', a1, a2⟩ := key y.least (by omega) (by omega)
    rw [hz1] at a1
    exact picked_s1a (lT _ (Le.refl _)) ldy b1 ldw q1 r1 a1 ⟨k - 1, by omega, a2⟩
   by_cases h5 : Int.tmod w 3 = 1
   ·obtain ⟨p', c', τ', a1, a2⟩ := key y.most (by omega) (by omega)
    rw [hz1] at a1
    exact picked_s1b (lT _ (Le.refl _)) ldy b1 ldw q1 r1 a1 ⟨k - 1, by omega, a2⟩
   ·obtain ⟨p', c', τ', a1, a2⟩ := key (y.least + (Int.tdiv w 3).tmod ((y.most - y.least) + 1)) (by omega) (by omega)
    rw [hz1] at a1
    exact picked_s1c (lT _ (Le.refl _)) ldy b1 ldw q1 r1 a1 ⟨k - 1, by omega, a2⟩
 subst hσ1
 exact picked_ra hL (fun p l c τ ⟨h1, h2, xs, h3, h4⟩ => picked_t1x0a ⟨h1, p, c, xs, by rw [h2], h3, h4⟩)
end
end Go.Proofs.Ytmdopblmkkameaa
