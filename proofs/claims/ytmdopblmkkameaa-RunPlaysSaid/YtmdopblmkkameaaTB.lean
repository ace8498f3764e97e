
import Derived.Test.YtmdopblmkkameaaTA
namespace Go.Proofs.Ytmdopblmkkameaa
open Go Go.Lay
open Try renaming prog → Pg
set_option linter.unusedVariables false
set_option linter.unusedSimpArgs false
set_option maxRecDepth 20000
def fitI (t : Tab) (ts : List Int) (i : Nat) : Bool := match t.trips[i]?, ts[i]? with | some x, some n => inB n x.least x.most | _, _ => true
def fitsB (t : Tab) (ts : List Int) : Bool := decide (ts.length = t.nt) && (List.range t.nt).all (fitI t ts)
def wt (t : Tab) (ts : List Int) (a b : Int) : Int := match t.trips[a.toNat]?, t.trips[b.toNat]? with | some x, some y => y.st - (x.st + ts.getD a.toNat 0 + t.layover + emp t x.to.toNat y.fr.toNat) | _, _ => 0
def wI (t : Tab) (ts r : List Int) (k : Nat) : List Int := (List.range k).map fun j => wt t ts (r.getD j 0) (r.getD (j + 1) 0)
theorem wI_len {t : Tab} {ts r : List Int} {k : Nat} : (wI t ts r k).length = k := by simp [wI]
theorem wI_step {t : Tab} {ts r : List Int} {k : Nat} : wI t ts r (k + 1) = wI t ts r k ++ [wt t ts (r.getD k 0) (r.getD (k + 1) 0)] := by unfold wI; rw [List.range_succ, List.map_append]; rfl
theorem getD_of {α : Type} {l : List α} {i : Nat} {x d : α} (h : l[i]? = some x) : l.getD i d = x := by rw [List.getD_eq_getElem?_getD, h]; rfl
theorem blkS_in {t : Tab} : ∀ (b D : List Int) (p : Option Int) (D' : List Int), blkS t D p b = some D' → ∀ x ∈ b, inB x 0 ((t.nt : Int) - 1) = true
 | [], _, _, _, _, x, hx => by cases hx
 | y :: ys, D, p, D', h, x, hx => by
  unfold blkS at h
  by_cases hy : inB y 0 ((t.nt : Int) - 1) = true ∧ ¬ y ∈ D ∧ mayP t p y = true
  ·rw [if_pos hy] at h
   rcases List.mem_cons.1 hx with rfl | hx
   ·exact hy.1
   ·exact blkS_in ys _ _ _ h x hx
  ·rw [if_neg hy] at h; cases h
theorem cutS_in {t : Tab} : ∀ (bs : List (List Int)) (D D' : List Int), cutS t D bs = some D' → ∀ b ∈ bs, b ≠ [] ∧ ∀ x ∈ b, inB x 0 ((t.nt : Int) - 1) = true
 | [], _, _, _, b, hb => by cases hb
 | c :: cs, D, D', h, b, hb => by
  unfold cutS at h
  by_cases hc : c = []
  ·rw [if_pos hc] at h; cases h
  rw [if_neg hc] at h
  cases h1 : blkS t D none c with
  | none => rw [h1] at h; cases h
  | some D1 =>
   rw [h1] at h
   rcases List.mem_cons.1 hb with rfl | hb
   ·exact ⟨hc, blkS_in _ _ _ _ h1⟩
   ·exact cutS_in cs _ _ h b hb
theorem cutB_in {t : Tab} {bs : List (List Int)} (h : cutB t bs = true) : ∀ b ∈ bs, b ≠ [] ∧ ∀ x ∈ b, 0 ≤ x ∧ x < (t.nt : Int) := by
 unfold cutB at h
 cases hc : cutS t [] bs with
 | none => rw [hc] at h; cases h
 | some D => exact fun b hb => ⟨(cutS_in bs _ _ hc b hb).1, fun x hx => by have := inB_iff.1 ((cutS_in bs _ _ hc b hb).2 x hx); omega⟩
theorem fits_at {t : Tab} {ts : List Int} (hv : Valid t) (h : fitsB t ts = true) : ts.length = t.nt ∧ ∀ (i : Nat) (n : Int), ts[i]? = some n → 0 ≤ n ∧ n ≤ 100000 := by
 unfold fitsB at h
 simp only [Bool.and_eq_true, decide_eq_true_eq] at h
 refine ⟨h.1, fun i n hn => ?_⟩
 have hi : i < t.nt := by have := (List.getElem?_eq_some_iff.1 hn).1; omega
 have h2 := List.all_eq_true.1 h.2 i (by simpa using hi)
 obtain ⟨x, hx⟩ : ∃ x, t.trips[i]? = some x := ⟨t.trips[i]'hi, by simp⟩
 unfold fitI at h2
 rw [hx, hn] at h2
 have := inB_iff.1 h2
 have := hv.trip hx
 omega
theorem wt_eq {t : Tab} {ts : List Int} {a b : Nat} {x y : Trip} {n : Int} (hx : t.trips[a]? = some x) (hy : t.trips[b]? = some y) (hn : ts[a]? = some n) : wt t ts (a : Int) (b : Int) = y.st - (x.st + n + t.layover + emp t x.to.toNat y.fr.toNat) := by
 unfold wt
 rw [Int.toNat_natCast, Int.toNat_natCast, hx, hy, getD_of hn]
section
variable {σ : St} {t : Tab} {pe pt : Option Addr} {le ce lt ct : Nat}
theorem rFits_c {p : Option Addr} {l c : Nat} {ts : List Int} (hR : RefP σ pe le pt lt t) (h : IntsP σ p l ts) (hl : l ≤ 100000) (hlt : lt ≤ 100000) : CallsA Pg 40 [.agg ⟨tabL t pe le ce pt lt ct⟩, .slice p l c] σ (.bool (fitsB t ts)) σ := by
 have htl := h.len
 have hnt : t.nt = lt := hR.len
 suffices hmain : RunsQ Pg 40 [.agg ⟨tabL t pe le ce pt lt ct⟩, .slice p l c] σ.re fun v s => v = .bool (fitsB t ts) ∧ σ.next ≤ s.low from RunsQ.pure hmain
 obtain ⟨σ1, hσ1⟩ : ∃ σ1, σ1 = σ.re.row (tabL t pe le ce pt lt ct) 4 := ⟨_, rfl⟩
 have n1 : New σ.re σ1 := by rw [hσ1]; exact New.row _ _ _
 have ot : Own σ1 σ.next (tabL t pe le ce pt lt ct) 4 := by rw [hσ1]; exact own_new _ _ _
 have h1 : IntsP σ1 p l ts := SlV.le (SlV.le h (le0 σ)) n1.le
 have R1 := (hR.le' (le0 σ)).le' n1.le
 have ld23 : loadA Pg σ1 23 ⟨σ.next, 3, none⟩ = some (.slice pt lt ct) := ot.ldI (i := 3) agg23 rfl
 unfold fitsB
 rw [hnt, htl]
 by_cases e : l = lt
 rotate_left
 ·subst hσ1
  exact rFits_ra ⟨by rw [decide_eq_false e]; rfl, n1.lw⟩ (by omega)
 rw [decide_eq_true e, Bool.true_and]
 have hL : rFits_L1 p l c σ.next 0 σ1 (fun b τ => τ = σ1 ∧ b = (List.range lt).all (fitI t ts)) (fun τ => τ = σ1 ∧ (List.range lt).all (fitI t ts) = true) := by
  refine rFits_loop1 (Inv := fun k i τ => ∃ s : Nat, i = s ∧ s + k = l ∧ τ = σ1 ∧ ∀ i' < s, fitI t ts i' = true) ?_ l 0 σ1 ⟨0, rfl, by omega, rfl, fun i' h => by omega⟩
  rintro k i τ ⟨s, rfl, hk, hτ, hall⟩
  subst hτ
  by_cases hs : s < l
  rotate_left
  ·refine rFits_s1c ⟨rfl, List.all_eq_true.2 fun i hi => hall i ?_⟩ (by omega)
   have : i < lt := by simpa using hi
   omega
  obtain ⟨a, rfl, n, hn, ld⟩ := slv_at h1 hs
  obtain ⟨b, rfl, x, hx, _⟩ := slv_at R1.tr (i := s) (by omega)
  have hx' : (t.trips.map tripV)[s]? = some (tripV x) := by rw [List.getElem?_map, hx]; rfl
  have l3 : loadA Pg τ 3 (aadd b ((Int.toNat (s : Int) * 6) + 3)) = some (iV x.least) := by
   have := slv_fld (t' := 3) R1.tr (vs := t.trips.map tripV) (i := s) (k := 3) (cs := ints6 x.fr x.to x.st x.least x.most x.kind) hx' rfl agg3
   simpa using this
  have l4 : loadA Pg τ 3 (aadd b ((Int.toNat (s : Int) * 6) + 4)) = some (iV x.most) := by
   have := slv_fld (t' := 3) R1.tr (vs := t.trips.map tripV) (i := s) (k := 4) (cs := ints6 x.fr x.to x.st x.least x.most x.kind) hx' rfl agg3
   simpa using this
  have hin := rIn_c (σ := τ) (n := n) (lo := x.least) (hi := x.most)
  have ef : fitI t ts s = inB n x.least x.most := by unfold fitI; rw [hx, hn]
  cases hb : inB n x.least x.most with
  | true =>
   rw [hb] at hin
   exact rFits_s1a ld ld23 l3 l4 hin ⟨k - 1, by omega, s + 1, by omega, by omega, rfl, fun i' hi' => by
    by_cases e' : i' = s
    ·subst e'; rw [ef, hb]
    ·exact hall i' (by omega)⟩ (by omega) (by omega) (by omega) (by omega)
  | false =>
   rw [hb] at hin
   refine rFits_s1b ld ld23 l3 l4 hin ⟨rfl, ?_⟩ (by omega) (by omega) (by omega)
   cases ha : (List.range lt).all (fitI t ts) with
   | false => rfl
   | true =>
    have := List.all_eq_true.1 ha s (by simp; omega)
    rw [ef, hb] at this; cases this
 subst hσ1
 exact rFits_rb hL (fun b τ h => rFits_t1xra ⟨by rw [h.2], by rw [h.1]; exact n1.lw⟩) (fun τ h => rFits_t1x0a ⟨by rw [h.2], by rw [h.1]; exact n1.lw⟩) (by omega)
theorem rWaits_c {pb pw : Option Addr} {lb cb cw : Nat} {r ts : List Int} (hR : RefP σ pe le pt lt t) (hv : Valid t) (hb : IntsP σ pb lb r) (hw : IntsP σ pw lt ts) (hlb : lb ≤ 100000) (hlt : lt ≤ 100000) (hr : ∀ x ∈ r, 0 ≤ x ∧ x < (lt : Int)) (hts : ∀ (i : Nat) (n : Int), ts[i]? = some n → 0 ≤ n ∧ n ≤ 100000) :
  ∃ p c σ', CallsA Pg 41 [.agg ⟨tabL t pe le ce pt lt ct⟩, .slice pb lb cb, .slice pw lt cw] σ (.slice p (lb - 1) c) σ' ∧ New σ σ' ∧ IntsP σ' p (lb - 1) (wI t ts r (lb - 1)) := by
 have hrl := hb.len
 suffices hmain : RunsQ Pg 41 [.agg ⟨tabL t pe le ce pt lt ct⟩, .slice pb lb cb, .slice pw lt cw] σ.re fun v s => New σ.re s ∧ ∃ p c, v = .slice p (lb - 1) c ∧ IntsP s p (lb - 1) (wI t ts r (lb - 1)) by
  obtain ⟨v, σ', h1, h2, p, c, rfl, h3⟩ := RunsQ.new hmain
   (by rintro v s s' ⟨p, c, rfl, q1⟩ hle; exact ⟨p, c, rfl, SlV.le q1 hle⟩)
   (by
    rintro v s hr ⟨p, c, rfl, q1⟩
    refine ⟨p, c, rfl, ?_⟩
    cases p with
    | none => exact slv_none q1
    | some a => exact Bool.noConfusion (show false = true from hr))
  exact ⟨p, c, σ', h1, h2, h3⟩
 obtain ⟨σ1, hσ1⟩ : ∃ σ1, σ1 = σ.re.row (tabL t pe le ce pt lt ct) 4 := ⟨_, rfl⟩
 have n1 : New σ.re σ1 := by rw [hσ1]; exact New.row _ _ _
 have ot : Own σ1 σ.next (tabL t pe le ce pt lt ct) 4 := by rw [hσ1]; exact own_new _ _ _
 have b1 : IntsP σ1 pb lb r := SlV.le (SlV.le hb (le0 σ)) n1.le
 have w1 : IntsP σ1 pw lt ts := SlV.le (SlV.le hw (le0 σ)) n1.le
 have R1 := (hR.le' (le0 σ)).le' n1.le
 have hL : rWaits_L1 pb lb cb pw lt cw σ.next none 0 0 1 σ1 (fun p l c τ => New σ.re τ ∧ l = lb - 1 ∧ IntsP τ p (lb - 1) (wI t ts r (lb - 1))) := by
  refine rWaits_loop1 (Inv := fun k p l c i τ => ∃ s : Nat, i = ((s + 1 : Nat) : Int) ∧ s + k = lb ∧ (s + 1 ≤ lb ∨ s = 0) ∧ New σ.re τ ∧ New σ1 τ ∧ l = s ∧ Gr Pg τ σ1.next 3 1 p l c ((wI t ts r s).map intV)) ?_ lb none 0 0 1 σ1 ⟨0, rfl, by omega, .inr rfl, n1, New.refl _, rfl, Gr.nil⟩
  rintro k p l c i τ ⟨s, rfl, hk, hs0, hN, hM, rfl, g⟩
  by_cases hs : l + 1 < lb
  rotate_left
  ·refine rWaits_s1b ⟨hN, by omega, ?_⟩ (by omega)
   have e : lb - 1 = l := by omega
   rw [e]; exact g.slv
  obtain ⟨ab, rfl, v1, hv1, ld1⟩ := slv_at (SlV.le b1 hM.le) (i := l + 1) hs
  obtain ⟨_, e0, v0, hv0, ld0⟩ := slv_at (SlV.le b1 hM.le) (i := l) (by omega)
  cases e0
  obtain ⟨h10, h11⟩ := hr v1 (List.mem_of_getElem? hv1)
  obtain ⟨h00, h01⟩ := hr v0 (List.mem_of_getElem? hv0)
  obtain ⟨x1, rfl⟩ : ∃ x1 : Nat, v1 = x1 := ⟨v1.toNat, by omega⟩
  obtain ⟨x0, rfl⟩ : ∃ x0 : Nat, v0 = x0 := ⟨v0.toNat, by omega⟩
  have Rτ := R1.le' hM.le
  obtain ⟨at_, rfl, y, hy, ldy⟩ := slv_at Rτ.tr (i := x1) (by omega)
  obtain ⟨_, e0, x, hx, _⟩ := slv_at Rτ.tr (i := x0) (by omega)
  cases e0
  obtain ⟨aw, rfl, n, hn, ldn⟩ := slv_at (SlV.le w1 hM.le) (i := x0) (by omega)
  have hn2 := hts x0 n hn
  have hyv := hv.trip hy
  have hxv := hv.trip hx
  obtain ⟨pl, hpl⟩ : ∃ pl : Nat, y.fr = pl := ⟨y.fr.toNat, by omega⟩
  obtain ⟨z1, hz1⟩ : ∃ z1, z1 = (τ.row (ints6 0 0 0 0 0 0) 6).own τ.next (ints6 y.fr y.to y.st y.least y.most y.kind) 6 := ⟨_, rfl⟩
  have N0 : New τ (τ.row (ints6 0 0 0 0 0 0) 6) := New.row _ _ _
  have N1 : New τ z1 := by rw [hz1]; exact N0.own (Nat.le_refl _)
  have rd := rReady_c (ce := ce) (ct := ct) (Rτ.le' N1.le) hv hx hn2 (pl := pl) (by omega)
  have hwt := wt_eq hx hy hn
  have ew : wt t ts (r.getD l 0) (r.getD (l + 1) 0) = y.st - (x.st + n + t.layover + emp t x.to.toNat pl) := by
   rw [getD_of hv0, getD_of hv1, hwt, hpl, Int.toNat_natCast]
  obtain ⟨p4, c4, τ2, g1, g2, g3, g4, g5⟩ := grow (intV (y.st - (x.st + n + t.layover + emp t x.to.toNat pl))) appT_ints g hM N1 (elOk_int _) (by omega)
  have hev := hv.emp x.to.toNat pl
  have hly := hv.parts.2.1
  have lT : ∀ z, Le τ z → loadA Pg z 23 ⟨σ.next, 3, none⟩ = some (.slice (some at_) lt ct) := fun z hz => ((ot.le hM.le).le hz).ldI (i := 3) agg23 rfl
  have lT2 : ∀ z, Le τ z → loadA Pg z 25 ⟨σ.next, 0, none⟩ = some (.agg ⟨tabL t pe le ce (some at_) lt ct⟩) := fun z hz => ((ot.le hM.le).le hz).ldN agg25 size25 (k := 0) rfl rfl (by simp)
  have d1 : ∀ z, Le τ z → loadA Pg z 3 (aadd ab (Int.toNat ((l + 1 : Nat) : Int) * 1)) = some (iV (x1 : Int)) := fun z hz => (SlV.le (SlV.le b1 hM.le) hz).at rfl (by rw [List.getElem?_map, hv1]; rfl)
  have d0 : ∀ z, Le τ z → loadA Pg z 3 (aadd ab (Int.toNat ((l : Nat) : Int) * 1)) = some (iV (x0 : Int)) := fun z hz => (SlV.le (SlV.le b1 hM.le) hz).at rfl (by rw [List.getElem?_map, hv0]; rfl)
  have dn : ∀ z, Le τ z → loadA Pg z 3 (aadd aw (Int.toNat ((x0 : Nat) : Int) * 1)) = some (iV n) := fun z hz => (SlV.le (SlV.le w1 hM.le) hz).at rfl (by rw [List.getElem?_map, hn]; rfl)
  have dy : ∀ z, Le τ z → loadA Pg z 53 (aadd at_ (Int.toNat ((x1 : Nat) : Int) * 6)) = some (tripV y) := fun z hz => (Rτ.le' hz).tr.at rfl (by rw [List.getElem?_map, hy]; rfl)
  have q1 : ab.block < τ.next := slv_lt (SlV.le b1 hM.le) _ rfl
  have q2 : aw.block < τ.next := slv_lt (SlV.le w1 hM.le) _ rfl
  have q3 : at_.block < τ.next := slv_lt Rτ.tr _ rfl
  have q4 : σ.next < τ.next := (ot.le hM.le).lt
  have ei : ((l + 1 : Nat) : Int) - 1 = ((l : Nat) : Int) := by omega
  have bl : belowL z1.next [.agg ⟨tabL t pe le ce (some at_) lt ct⟩, iV (x0 : Int), iV n, iV y.fr] := belowL_cons (belowB_tab (fun a e => (Rτ.le' N1.le).em.ltb a e) (fun a e => slv_lt (Rτ.le' N1.le).tr a e)) (belowL_cons rfl (belowL_cons rfl (belowL_cons rfl belowL_nil)))
  have d0' := d0 z1 N1.le
  rw [← ei] at d0'
  rw [← hpl] at rd
  rw [hz1] at rd d0' g1 bl
  have dn' := dn z1 N1.le
  have l25 := lT2 z1 N1.le
  rw [hz1] at dn' l25
  refine rWaits_s1a (lT _ (Le.refl _)) (d1 _ (Le.refl _)) (dy _ (Le.refl _)) (lT _ N0.le) (d1 _ N0.le) (dy _ N0.le) l25 d0' dn' rd g1 bl (fun a e => slv_lt g.slv a e) ⟨k - 1, by omega, l + 1, by omega, by omega, .inl (by omega), n1.trans g3, g3, rfl, by rw [wI_step, List.map_append, ew]; exact g2⟩ (by omega) (by omega) (by omega) (by omega) (by omega) (by omega)
 subst hσ1
 exact rWaits_ra hL (fun p l c τ ⟨h1, h2, h3⟩ => rWaits_t1x0a ⟨h1, p, c, by rw [h2], h3⟩)
end
end Go.Proofs.Ytmdopblmkkameaa
