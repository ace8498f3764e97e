
import Derived.Test.YtmdopblmkkameaaRK
import Derived.Test.YtmdopblmkkameaaPM
namespace Go.Proofs.Ytmdopblmkkameaa
open Go Go.Lay
set_option linter.unusedVariables false
set_option linter.unusedSimpArgs false
set_option maxRecDepth 20000
def mayP (t : Tab) : Option Int → Int → Bool
 | none, _ => true
 | some p, x => mayI t p.toNat x.toNat
def blkS (t : Tab) : List Int → Option Int → List Int → Option (List Int)
 | D, _, [] => some D
 | D, p, x :: xs => if inB x 0 ((t.nt : Int) - 1) = true ∧ ¬ x ∈ D ∧ mayP t p x = true then blkS t (D ++ [x]) (some x) xs else none
def cutS (t : Tab) : List Int → List (List Int) → Option (List Int)
 | D, [] => some D
 | D, b :: bs => if b = [] then none else match blkS t D none b with | none => none | some D' => cutS t D' bs
def cutB (t : Tab) (bs : List (List Int)) : Bool := match cutS t [] bs with | none => false | some D => decide (D.length = t.nt)
structure SeenD (N : Nat) (D : List Int) (seen : Nat → Bool) : Prop where
 at_ : ∀ k, k < N → seen k = decide ((k : Int) ∈ D)
 len : D.length = cntN N seen
theorem SeenD.nil {N : Nat} : SeenD N [] fun _ => false := ⟨fun k _ => by simp, by rw [cntN_zero (fun _ _ => rfl)]; rfl⟩
theorem SeenD.more {N : Nat} {D : List Int} {seen : Nat → Bool} (h : SeenD N D seen) {x : Nat} (hx : x < N) (hn : ¬ (x : Int) ∈ D) : SeenD N (D ++ [(x : Int)]) (fun j => if j = x then true else seen j) := by
 refine ⟨fun k hk => ?_, ?_⟩
 ·by_cases e : k = x
  ·subst e; simp
  ·rw [if_neg e, h.at_ k hk]
   refine decide_eq_decide.2 ?_
   simp; intro h'; omega
 ·have h0 : seen x = false := by rw [h.at_ x hx]; simpa using hn
  have h1 := cntN_erase (m := N) (Q := fun j => if j = x then true else seen j) hx (by simp)
  have h2 : cntN N (fun i => (if i = x then true else seen i) && !Nat.beq i x) = cntN N seen := cntN_congr fun i hi => by
   by_cases e : i = x
   ·subst e; simp [h0]
   ·have : Nat.beq i x = false := by rw [Bool.eq_false_iff]; intro h'; exact e (Nat.eq_of_beq_eq_true h')
    rw [if_neg e, this]; simp
  rw [h2] at h1
  rw [List.length_append, h.len, h1]; rfl
theorem SeenD.le {N : Nat} {D : List Int} {seen : Nat → Bool} (h : SeenD N D seen) : D.length ≤ N := by
 rw [h.len]
 have := cntN_not (n := N) (P := seen); omega
theorem drop_at {α : Type} {l : List α} {i : Nat} {x : α} (h : l[i]? = some x) : l.drop i = x :: l.drop (i + 1) := by
 obtain ⟨hi, e⟩ := List.getElem?_eq_some_iff.1 h
 rw [List.drop_eq_getElem_cons hi, e]
section
variable {σ : St} {t : Tab} {pe pt : Option Addr} {le ce lt ct : Nat}
def prevO (b : List Int) (q : Nat) : Option Int := if q = 0 then none else b[q - 1]?
theorem cutting_c {pb : Option Addr} {lb cb : Nat} {bs : List (List Int)} (h : TabP σ pe le pt lt t) (hv : Valid t) (hlt : lt ≤ 12) (hb : RowsP σ pb lb bs) (hlb : lb ≤ 100000) (hr : ∀ r ∈ bs, r.length ≤ 100000) :
  CallsA Try.prog 50 [.agg ⟨tabL t pe le ce pt lt ct⟩, .slice pb lb cb] σ (.bool (cutB t bs)) σ := by
 have hnt : t.nt = lt := h.len
 have hbl := hb.len
 suffices hmain : RunsQ Try.prog 50 [.agg ⟨tabL t pe le ce pt lt ct⟩, .slice pb lb cb] σ.re fun v s => v = .bool (cutB t bs) ∧ σ.next ≤ s.low from RunsQ.pure hmain
 obtain ⟨σ1, hσ1⟩ : ∃ σ1, σ1 = (σ.re.row (tabL t pe le ce pt lt ct) 4).row (boolL 12 fun _ => false) 1 := ⟨_, rfl⟩
 have N1 : New σ.re σ1 := by rw [hσ1]; exact (New.row _ _ _).row'
 have nx1 : σ1.next = σ.next + 2 := by rw [hσ1]; rfl
 have o1 : Own σ1 σ.next (tabL t pe le ce pt lt ct) 4 := by rw [hσ1]; exact (own_new σ.re (tabL t pe le ce pt lt ct) 4).row
 have o2 : Own σ1 (σ.next + 1) (boolL 12 fun _ => false) 1 := by rw [hσ1]; exact own_new _ _ _
 have h0 : TabP σ.re pe le pt lt t := h.le' (le0 σ)
 have b0 : RowsP σ.re pb lb bs := hb.le (le0 σ)
 have hmid : cutting_L1 σ.next (σ.next + 1) pb lb cb 0 0 σ1 (fun b τ => New σ.re τ ∧ b = cutB t bs) (fun i6 τ => New σ.re τ ∧ Own τ σ.next (tabL t pe le ce pt lt ct) 4 ∧ ∃ D : List Int, i6 = (D.length : Int) ∧ cutS t [] bs = some D) := by
  refine cutting_loop1 (Inv := fun k i6 i τ => ∃ s : Nat, i = s ∧ s + k = lb ∧ New σ.re τ ∧ Own τ σ.next (tabL t pe le ce pt lt ct) 4 ∧ ∃ D seen, Own τ (σ.next + 1) (boolL 12 seen) 1 ∧ SeenD 12 D seen ∧ i6 = (D.length : Int) ∧ cutS t [] bs = cutS t D (bs.drop s)) ?_ lb 0 0 σ1
   ⟨0, rfl, by omega, N1, o1, [], _, o2, SeenD.nil, rfl, rfl⟩
  rintro k i6 i τ ⟨s, rfl, hk, hN, w1, D, seen, w2, hS, rfl, hc⟩
  by_cases hs : s < lb
  rotate_left
  ·refine cutting_s1c ⟨hN, w1, D, rfl, ?_⟩ (by omega)
   rw [hc, List.drop_of_length_le (by omega)]; rfl
  obtain ⟨a, rfl, r, q, c, hri, hld, hI⟩ := b0.row hs
  have hrl := hr r (List.mem_of_getElem? hri)
  rw [drop_at hri] at hc
  have eB : cutS t D (r :: bs.drop (s + 1)) = if r = [] then none else match blkS t D none r with | none => none | some D' => cutS t D' (bs.drop (s + 1)) := rfl
  rw [eB] at hc
  by_cases hr0 : r.length = 0
  ·have er : r = [] := List.length_eq_zero_iff.1 hr0
   refine cutting_s1a (hld τ hN.le) ⟨hN, ?_⟩ (by omega) (by omega) (by omega)
   unfold cutB
   rw [hc, if_pos er]
  have er : ¬ r = [] := fun e => hr0 (by rw [e]; rfl)
  rw [if_neg er] at hc
  refine cutting_s1b (hld τ hN.le) (Pr := fun b τ => New σ.re τ ∧ b = cutB t bs) (P2 := fun i6 τ => New σ.re τ ∧ Own τ σ.next (tabL t pe le ce pt lt ct) 4 ∧ ∃ D seen, Own τ (σ.next + 1) (boolL 12 seen) 1 ∧ SeenD 12 D seen ∧ i6 = (D.length : Int) ∧ cutS t [] bs = cutS t D (bs.drop (s + 1))) ?_ (fun b τ' h => cutting_t2xra h) ?_ (by omega) (by omega) (by omega)
  rotate_left
  ·rintro i6 τ' ⟨k1, k2, D', seen', k3, k4, k5, k6⟩
   exact cutting_t2x2a ⟨k - 1, by omega, s + 1, by omega, by omega, k1, k2, D', seen', k3, k4, k5, k6⟩ (by omega)
  refine cutting_loop2 (Inv := fun m i6 j τ' => ∃ x : Nat, j = x ∧ x + m = r.length ∧ New σ.re τ' ∧ Own τ' σ.next (tabL t pe le ce pt lt ct) 4 ∧ ∃ D seen, Own τ' (σ.next + 1) (boolL 12 seen) 1 ∧ SeenD 12 D seen ∧ i6 = (D.length : Int) ∧ (∀ p, prevO r x = some p → 0 ≤ p ∧ p < lt) ∧ cutS t [] bs = match blkS t D (prevO r x) (r.drop x) with | none => none | some D' => cutS t D' (bs.drop (s + 1))) ?_ r.length (D.length : Int) 0 τ
   ⟨0, rfl, by omega, hN, w1, D, seen, w2, hS, rfl, fun p hp => by simp [prevO] at hp, by rw [hc]; rfl⟩
  rintro m i6 j τ' ⟨x, rfl, hm, hN', w1', D', seen', w2', hS', rfl, hp, hc'⟩
  have hDl := hS'.le
  by_cases hx : x < r.length
  rotate_left
  ·refine cutting_s2f ⟨hN', w1', D', seen', w2', hS', rfl, ?_⟩ (by omega)
   rw [hc', List.drop_of_length_le (by omega)]; rfl
  have hI' : IntsP τ' q r.length r := SlV.le hI hN'.le
  obtain ⟨qa, rfl, v, hv1, ldv⟩ := slv_at hI' hx
  have hw := within_c (σ := τ') (n := v) (lo := 0) (hi := ((lt : Nat) : Int) - 1)
  have ld32 : loadA Try.prog τ' 32 ⟨σ.next, 3, none⟩ = some (.slice pt lt ct) := w1'.ldI (i := 3) agg32 rfl
  rw [drop_at hv1] at hc'
  have eS : blkS t D' (prevO r x) (v :: r.drop (x + 1)) = if inB v 0 ((t.nt : Int) - 1) = true ∧ ¬ v ∈ D' ∧ mayP t (prevO r x) v = true then blkS t (D' ++ [v]) (some v) (r.drop (x + 1)) else none := rfl
  rw [eS, hnt] at hc'
  have eP : prevO r (x + 1) = some v := by unfold prevO; rw [if_neg (by omega), Nat.add_sub_cancel]; exact hv1
  cases hin : inB v 0 ((lt : Int) - 1) with
  | false =>
   rw [hin] at hw hc'
   refine cutting_s2e ldv ld32 hw ⟨hN', ?_⟩ (by omega) (by omega)
   unfold cutB; rw [hc']; simp
  | true =>
  rw [hin] at hw hc'
  obtain ⟨v0, v1⟩ := inB_iff.1 hin
  obtain ⟨y, rfl⟩ : ∃ y : Nat, v = y := ⟨v.toNat, by omega⟩
  have ldS := own_ldB w2' (P := Try.prog) (t := 4) (i := y) agg4 (by omega)
  cases hsn : seen' y with
  | true =>
   rw [hsn] at ldS
   have hmem : (y : Int) ∈ D' := by have := hS'.at_ y (by omega); rw [hsn] at this; simpa using this.symm
   refine cutting_s2a ldv ld32 hw (by simpa [aadd] using ldS) ⟨hN', ?_⟩ (by omega) (by omega) (by omega)
   unfold cutB; rw [hc']; simp [hmem]
  | false =>
  rw [hsn] at ldS
  have hmem : ¬ (y : Int) ∈ D' := by have := hS'.at_ y (by omega); rw [hsn] at this; simpa using this.symm
  have st := own_stB w2' (P := Try.prog) (t := 4) (v := true) (i := y) size4 (by omega)
  have kk : Only (· = σ.next + 1) τ' (τ'.own (σ.next + 1) (boolL 12 fun j => if j = y then true else seen' j) 1) := Only.own (.inr rfl)
  have hNs : New σ.re (τ'.own (σ.next + 1) (boolL 12 fun j => if j = y then true else seen' j) 1) := hN'.own (by show σ.next ≤ _; omega)
  by_cases hx0 : x = 0
  ·subst hx0
   refine cutting_s2d ldv ld32 hw (by simpa [aadd] using ldS) st ⟨m - 1, by omega, 0 + 1, by omega, by omega, hNs, kk.own' w1' (by omega), D' ++ [(y : Int)], _, w2'.put, hS'.more (by omega) hmem, by simp, fun p hp => by rw [eP] at hp; cases hp; omega, ?_⟩ (by omega) (by omega) (by omega) (by omega)
   rw [hc', eP, if_pos ⟨rfl, hmem, rfl⟩]
  ·obtain ⟨pv, hpv⟩ : ∃ pv, r[x - 1]? = some pv := ⟨r[x - 1], by rw [List.getElem?_eq_getElem]⟩
   have ePx : prevO r x = some pv := by unfold prevO; rw [if_neg hx0]; exact hpv
   obtain ⟨p0, p1⟩ := hp pv ePx
   obtain ⟨z, rfl⟩ : ∃ z : Nat, pv = z := ⟨pv.toNat, by omega⟩
   obtain ⟨ta, rfl, X, hX, ldX⟩ := slv_trip ((h0.le' hN'.le)) (show z < lt by omega)
   obtain ⟨ta', et, Y, hY, ldY⟩ := slv_trip ((h0.le' hN'.le)) (show y < lt by omega)
   cases et
   have hm2 := may_c (σ := τ') (ce := ce) (ct := ct) (h0.le' hN'.le) hv hX hY
   have eI : mayI t z y = mayB t X Y := mayI_eq hX hY
   have l34 : loadA Try.prog τ' 34 ⟨σ.next, 0, none⟩ = some (.agg ⟨tabL t pe le ce (some ta) lt ct⟩) := w1'.ldN agg34 size34 (k := 0) rfl rfl (by simp)
   have ldp : loadA Try.prog τ' 3 (aadd qa (Int.toNat ((x : Int) - 1) * 1)) = some (iV (z : Int)) := by
    have := SlV.at hI' rfl (i := x - 1) (v := intV (z : Int)) (by rw [List.getElem?_map, hpv]; rfl)
    rw [show ((x : Int) - 1) = ((x - 1 : Nat) : Int) by omega]; exact this
   have eM : mayP t (prevO r x) (y : Int) = mayB t X Y := by rw [ePx]; show mayI t (z : Int).toNat (y : Int).toNat = _; rw [Int.toNat_natCast, Int.toNat_natCast, eI]
   cases hmb : mayB t X Y with
   | false =>
    rw [hmb] at hm2 eM
    refine cutting_s2c ldv ld32 hw (by simpa [aadd] using ldS) l34 ldp ldX ldY hm2 ⟨hN', ?_⟩ (by omega) (by omega) (by omega) (by omega) (by omega) (by omega) (by omega) (by omega) (by omega)
    unfold cutB; rw [hc']; simp [eM]
   | true =>
    rw [hmb] at hm2 eM
    refine cutting_s2b ldv ld32 hw (by simpa [aadd] using ldS) l34 ldp ldX ldY hm2 st ⟨m - 1, by omega, x + 1, by omega, by omega, hNs, kk.own' w1' (by omega), D' ++ [(y : Int)], _, w2'.put, hS'.more (by omega) hmem, by simp, fun p hp => by rw [eP] at hp; cases hp; omega, ?_⟩ (by omega) (by omega) (by omega) (by omega) (by omega) (by omega) (by omega) (by omega) (by omega) (by omega) (by omega)
    rw [hc', eP, if_pos ⟨rfl, hmem, eM⟩]
 subst hσ1
 refine cutting_ra hmid (fun b τ h => cutting_t1xra ⟨by rw [h.2], h.1.lw⟩) ?_
 rintro i6 τ ⟨hN, w1, D, rfl, hc⟩
 have e : cutB t bs = decide (D.length = lt) := by unfold cutB; rw [hc, hnt]
 have ld32 : loadA Try.prog τ 32 ⟨σ.next, 3, none⟩ = some (.slice pt lt ct) := w1.ldI (i := 3) agg32 rfl
 by_cases hd : D.length = lt
 ·exact cutting_t1x0a ld32 ⟨by rw [e, decide_eq_true hd], hN.lw⟩ (by omega)
 ·exact cutting_t1x0b ld32 ⟨by rw [e, decide_eq_false hd], hN.lw⟩ (by omega)
end
end Go.Proofs.Ytmdopblmkkameaa
