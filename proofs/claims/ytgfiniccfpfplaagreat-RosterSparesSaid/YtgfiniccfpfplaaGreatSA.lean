
import Derived.Test.YtgfiniccfpfplaaGreatRZ
import Derived.Test.YtgfiniccfpfplaaGreatXK
namespace Go.Proofs.YtgfiniccfpfplaaGreat
open Go Go.Lay
open Tryz renaming prog → Pg
set_option linter.unusedVariables false
set_option linter.unusedSimpArgs false
set_option maxRecDepth 20000
theorem app_st {P : Program} {σ : St} {n0 len c i : Nat} {a : Addr} {cs : List Value} {t : TypeId} {v : Value} (h : App σ n0 1 (.slice (some a) len c) len cs) (hv : v.cells.toList = [v]) (hs : yW P t = some 1) (hc : cellB v = true) (hi : i < len) :
  ∃ τ, zQ P (evL [.pointer (some (zK a (Int.toNat (i : Int) * 1))), v]) σ (.store t (.tmp 0) (.tmp 1)) = some (undef, τ) ∧ App τ n0 1 (.slice (some a) len c) len (cs.set i v) ∧ Only (· = a.block) σ τ := by
 cases h with
 | @more b s nx _ _ sp log hb hsp h0 hlt hl hp hsn =>
  have e : zK (⟨b, 0, sp⟩ : Addr) (Int.toNat (i : Int) * 1) = ⟨b, i, sp⟩ := by rw [Int.toNat_natCast, Nat.mul_one]; simp [zK]
  rw [e]
  have hcs : cs.take i ++ ([v] ++ cs.drop (i + 1)) = cs.set i v := by rw [List.set_eq_take_append_cons_drop, if_pos (by omega)]; rfl
  have hw : wY σ ⟨b, i, sp⟩ [v] = some (σ.put b (.cells (cs.set i v) 1 [(s, cs.length)] nx false)) := by
   have h2 : (Nat.beq s (yC ⟨b, i, sp⟩) && Nat.ble (i + 1) cs.length && !false && [v].all cellB) = true := by
    have h3 : Nat.beq s (yC ⟨b, i, sp⟩) = true := by unfold yC; simp only [hsp]; exact Nat.beq_refl _
    have h4 : Nat.ble (i + 1) cs.length = true := (zY _ _).2 (by omega)
    rw [h3, h4]; simp [hc]
   unfold wY
   simp only [hb, h2, cond_true, zIB, St.write_eq, List.length_singleton, hcs]
  refine ⟨σ.put b (.cells (cs.set i v) 1 [(s, cs.length)] nx false), ?_, .more (s := s) (log := []) (nx := nx) (by rw [St.put_get, if_pos rfl]; simp) hsp h0 hlt (by simp; omega) hp hsn, Only.put (.inr rfl)⟩
  have h1 : Nat.beq v.cells.toList.length 1 = true := by rw [hv]; rfl
  have : zFL P σ t ⟨b, i, sp⟩ v = some (σ.put b (.cells (cs.set i v) 1 [(s, cs.length)] nx false)) := by
   unfold zFL
   rw [hv] at h1 ⊢
   simp only [hs, h1, cond_true, hw]
  show (zFL P σ t ⟨b, i, sp⟩ v).map _ = _
  rw [this]; rfl
theorem ap_app {σ : St} {n0 n len c : Nat} {p : Option Addr} {cs : List Value} (h : Ap σ n0 n p len c cs) (hl : 0 < len) : ∃ a, p = some a ∧ App σ n0 n (.slice (some a) len c) len cs := by
 rcases h with h | ⟨b, rfl, rfl, _⟩
 ·cases p with
  | none => cases h; omega
  | some a => exact ⟨a, rfl, h⟩
 ·omega
theorem app_i {z : St} {n1 c l : Nat} {p : Option Addr} {r : List Int} (h : App z n1 1 (.slice p l c) l (r.map yS)) (hl : r.length = l) : yO z p l r := by
 refine App.slv (vs := r.map yS) (by rw [zEN r .i64]; exact h) (by simp [hl]) ?_
 rintro v hv
 obtain ⟨x, _, rfl⟩ := List.mem_map.1 hv
 exact zHD x
section
variable {σ : St} {w : Wk} {p q r t : Option Addr} {l m c d rl rc tl tc : Nat} {rs ts : List Int}
theorem newAp {f : FuncId} {args : List Value} {len : Nat} {cs : List Value} (h : zM Pg f args σ.re fun v s => New σ.re s ∧ ∃ p c, v = .slice p len c ∧ Ap s σ.next 1 p len c cs) :
  ∃ p c σ', zE Pg f args σ (.slice p len c) σ' ∧ New σ σ' ∧ Ap σ' σ.next 1 p len c cs := by
 obtain ⟨v, σ', h1, h2, p, c, rfl, h3⟩ := zM.new (Q := fun v s => ∃ p c, v = .slice p len c ∧ Ap s σ.next 1 p len c cs) h (by
  rintro v s s' ⟨p, c, rfl, g1⟩ hle; exact ⟨p, c, rfl, g1.le hle⟩) (by
  rintro v s hr ⟨p, c, rfl, g1⟩
  cases p with
  | none =>
   rcases g1 with g1 | ⟨b, e, _⟩
   ·cases g1; exact ⟨none, 0, rfl, .inl .nil⟩
   ·cases e
  | some a => exact Bool.noConfusion (show false = true from hr))
 exact ⟨p, c, σ', h1, h2, h3⟩
theorem nil_ne {a : Addr} {l c : Nat} : zHL Pg .eql 26 (.tmp 3) (.const (.slice none 0 0)) (.slice (some a) l c) (.slice none 0 0) = some (.bool false) := by kernel_rfl
theorem clone_a {a : Addr} (h : yO σ (some a) l rs) (hl : l ≤ 1073741824) : ∃ p' c' σ', zE Pg 60 [.slice (some a) l c] σ (.slice p' l c') σ' ∧ New σ σ' ∧ Ap σ' σ.next 1 p' l c' (rs.map yS) := by
 have hc : (zBB (rs.map yS)).all cellB = true := by rw [zEN rs .i64]; simp [List.all_eq_true]; intro a _; rfl
 have o := zD σ.re [] 1
 obtain ⟨p', c', σ', h1, h2, h3, h4⟩ := Ap.append (k := c) (n0 := σ.re.next) zEU (.inr ⟨σ.re.next, rfl, rfl, rfl, rfl, o, Nat.le_refl _⟩ : Ap (σ.re.row [] 1) σ.re.next 1 (some ⟨σ.re.next, 0, none⟩) 0 0 []) ((SlV.le h ((le0 σ).trans (Le.row _ [] 1))).1) (by omega) hc (by simp)
 rw [Nat.zero_add] at h1 h2
 rw [List.nil_append, zEN rs .i64] at h2
 refine newAp (clone_rb nil_ne h1 ⟨(New.row _ _ _).of_only h3 ?_, p', c', rfl, h2⟩)
 rintro b ⟨a, e, rfl⟩; cases e; exact Nat.le_refl _
theorem rWith_c {i : Nat} {k : Int} (h : yO σ p l rs) (hi : i < l) (hl : l ≤ 1073741824) : ∃ p' c' σ', zE Pg 34 [.slice p l c, iV (i : Int), iV k] σ (.slice p' l c') σ' ∧ New σ σ' ∧ yO σ' p' l (rs.set i k) ∧ ∀ b, AtP p' b → σ.next ≤ b := by
 have hc : (zBB (rs.map yS)).all cellB = true := by rw [zEN rs .i64]; simp [List.all_eq_true]; intro a _; rfl
 have o := zD σ.re [] 1
 have el := h.len
 obtain ⟨p', c', σ', h1, h2, h3, h4⟩ := Ap.append (k := c) (n0 := σ.re.next) zEU (.inr ⟨σ.re.next, rfl, rfl, rfl, rfl, o, Nat.le_refl _⟩ : Ap (σ.re.row [] 1) σ.re.next 1 (some ⟨σ.re.next, 0, none⟩) 0 0 []) ((SlV.le h ((le0 σ).trans (Le.row _ [] 1))).1) (by omega) hc (by simp)
 rw [Nat.zero_add] at h1 h2
 rw [List.nil_append, zEN rs .i64] at h2
 obtain ⟨a, rfl, ha⟩ := ap_app h2 (by omega)
 obtain ⟨τ, st, ha2, ho⟩ := app_st (t := 3) (v := yS k) ha rfl zIF rfl hi
 have N1 : New σ.re σ' := (New.row _ _ _).of_only h3 (by rintro b ⟨a, e, rfl⟩; cases e; exact Nat.le_refl _)
 have hge := ha.ge a rfl
 have e : (rs.map yS).set i (yS k) = (rs.set i k).map yS := by rw [List.map_set]
 rw [e] at ha2
 exact zM.newSl (rWith_ra h1 st ⟨N1.of_only ho (by rintro b rfl; exact hge), some a, c', rfl, app_i ha2 (by simp [el]), fun b hb => by obtain ⟨a', e, rfl⟩ := hb; cases e; exact hge⟩ (by omega))
def zHZ (w : Wk) (rs : List Int) : Bool := decide (zCD w (zN rs) (zN (uE w)) w.drivers.length = [])
def wO (w : Wk) (rs : List Int) (i j : Nat) : List Int := ((List.range j).filter fun k : Nat => zHZ w (rs.set i (k : Int))).map fun k : Nat => (k : Int)
theorem yAU {i j : Nat} : wO w rs i (j + 1) = wO w rs i j ++ if zHZ w (rs.set i (j : Int)) then [(j : Int)] else [] := by
 unfold wO
 rw [List.range_succ, List.filter_append, List.map_append]
 cases h : zHZ w (rs.set i (j : Int)) <;> simp [h]
theorem zLE {i j : Nat} : (wO w rs i j).length ≤ j := by
 unfold wO
 rw [List.length_map]
 have := List.length_filter_le (fun k : Nat => zHZ w (rs.set i (k : Int))) (List.range j)
 simpa using this
def zAG (w : Wk) (rs : List Int) (i : Int) : Int := if xH w ≠ 0 then xH w else if zDH w rs && inB i 0 ((w.duties.length : Int) - 1) then 0 else 2
theorem rosF_set {i j : Nat} {k : Int} (hi : i < rs.length) : zN (rs.set i k) j = if j = i then k else zN rs j := by
 unfold zN
 rw [List.getD_eq_getElem?_getD, List.getD_eq_getElem?_getD, List.getElem?_set]
 by_cases e : i = j
 ·subst e; rw [if_pos rfl, if_pos hi, if_pos rfl]; rfl
 ·rw [if_neg e, if_neg (Ne.symm e)]
theorem Spares_no {i : Int} (h : WkP σ 85 88 w p l q m) (hsh : zHT w) (hr : yO σ r rl rs) (hrl : rl ≤ 1073741824) (hl : l ≤ 1073741824) (hz : zAG w rs i ≠ 0) :
  zE Pg 32 [.agg ⟨wkc w.days p l c q m d w.rest w.run w.hours⟩, .slice r rl rc, iV i] σ (.tuple ⟨[.slice none 0 0, iV (zAG w rs i)]⟩) σ := by
 have hm := h.len.2
 have hln := h.len.1
 obtain ⟨σ1, hσ1⟩ : ∃ σ1, σ1 = σ.re.row (wkc w.days p l c q m d w.rest w.run w.hours) 6 := ⟨_, rfl⟩
 have N1 : New σ.re σ1 := by rw [hσ1]; exact New.row _ _ _
 have L1 : Le σ σ1 := (le0 σ).trans N1.le
 have k1 := zUT (c := c) (d := d) (h.le L1) hsh
 rw [hσ1] at k1
 by_cases hf : xH w = 0
 rotate_left
 ·have : zAG w rs i = xH w := by unfold zAG; rw [if_pos hf]
  rw [this]
  exact (Spares_ra k1 ⟨rfl, Nat.le_refl _⟩ hf).pure
 have hm6 := (zMD hf).2.1
 have k2 := yAQ (c := c) (d := d) (rc := rc) (h.le L1) (SlV.le hr L1) hrl (by omega)
 have k3 := zGN (σ := σ1) (n := i) (lo := 0) (hi := (l : Int) - 1)
 rw [hσ1] at k2 k3
 have e : zAG w rs i = if zDH w rs && inB i 0 ((l : Int) - 1) then 0 else 2 := by unfold zAG; rw [if_neg (by omega), hln]
 cases b2 : zDH w rs with
 | false =>
  rw [b2] at k2 e
  rw [e]
  exact (Spares_rd k1 k2 ⟨rfl, Nat.le_refl _⟩ hf).pure
 | true =>
 cases b3 : inB i 0 ((l : Int) - 1) with
 | false =>
  rw [b2] at k2 e
  rw [b3] at k3 e
  rw [e]
  exact (Spares_rc k1 k2 k3 ⟨rfl, Nat.le_refl _⟩ hf).pure
 | true => rw [b2, b3] at e; exact absurd e hz
theorem yUN {i : Int} (h : WkP σ 85 88 w p l q m) (hsh : zHT w) (hr : yO σ r rl rs) (hrl : rl ≤ 1073741824) (hl : l ≤ 1073741824) (hz : zAG w rs i = 0) :
  ∃ p' c' σ', zE Pg 32 [.agg ⟨wkc w.days p l c q m d w.rest w.run w.hours⟩, .slice r rl rc, iV i] σ (.tuple ⟨[.slice p' (wO w rs i.toNat m).length c', iV 0]⟩) σ' ∧ New σ σ' ∧ yO σ' p' (wO w rs i.toNat m).length (wO w rs i.toNat m) ∧ ∀ b, AtP p' b → σ.next ≤ b := by
 have hln := h.len.1
 have hm := h.len.2
 have hf : xH w = 0 := by
  by_cases e : xH w = 0
  ·exact e
  ·unfold zAG at hz; rw [if_pos e] at hz; exact hz
 have e : (zDH w rs && inB i 0 ((w.duties.length : Int) - 1)) = true := by
  unfold zAG at hz
  rw [if_neg (by omega)] at hz
  split at hz
  ·assumption
  ·cases hz
 rw [Bool.and_eq_true] at e
 obtain ⟨b2, b3⟩ := e
 obtain ⟨r1, r2⟩ := yCM.1 b2
 have hi := zBV.1 b3
 have el := hr.len
 have hrll : rl = l := by omega
 subst hrll
 obtain ⟨n, hn, hn1, hn7, hv⟩ := days_ex hf
 have hs := Sane.of hf hsh hln hm
 obtain ⟨σ1, hσ1⟩ : ∃ σ1, σ1 = σ.re.row (wkc w.days p rl c q m d w.rest w.run w.hours) 6 := ⟨_, rfl⟩
 have N1 : New σ.re σ1 := by rw [hσ1]; exact New.row _ _ _
 have L1 : Le σ σ1 := (le0 σ).trans N1.le
 have hm6 := hs.m6
 have hl12 := hs.l12
 have k1 := zUT (c := c) (d := d) (h.le L1) hsh
 have k2 := yAQ (c := c) (d := d) (rc := rc) (h.le L1) (SlV.le hr L1) hrl (by omega)
 have k3 := zGN (σ := σ1) (n := i) (lo := 0) (hi := (rl : Int) - 1)
 rw [← hln, b3] at k3
 rw [b2] at k2
 rw [hln] at k3
 rw [hσ1] at k1 k2 k3
 obtain ⟨i0, rfl⟩ : ∃ i0 : Nat, i = (i0 : Int) := ⟨i.toNat, by omega⟩
 rw [Int.toNat_natCast]
 have hi0 : i0 < rl := by omega
 refine newTup (Spares_rb k1 k2 k3 (yHN (Inv := fun k p' l' c' i τ => New σ1 τ ∧ ∃ j : Nat, i = j ∧ j + k = m ∧ l' = (wO w rs i0 j).length ∧ Gr Pg τ σ1.next 3 1 p' l' c' ((wO w rs i0 j).map yS))
  (Q0 := fun p' l' c' τ => New σ1 τ ∧ l' = (wO w rs i0 m).length ∧ Gr Pg τ σ1.next 3 1 p' l' c' ((wO w rs i0 m).map yS)) ?_ m none 0 0 0 _ ⟨by rw [← hσ1]; exact New.refl _, 0, rfl, by omega, by simp [wO], by simpa [wO] using Gr.nil⟩) ?_ hf)
 ·rintro k p' l' c' j' τ ⟨hN, j, rfl, hk, rfl, hg⟩
  by_cases hj : j < m
  rotate_left
  ·have : j = m := by omega
   subst this
   exact yUO ⟨hN, rfl, hg⟩ (by omega)
  have LL : Le σ τ := L1.trans hN.le
  have hr0 := SlV.le hr LL
  obtain ⟨a, ea, _⟩ := hr0.some hi0
  rw [ea] at hr0 ⊢
  obtain ⟨p2, c2, τ2, g1, n2, A2⟩ := clone_a (c := rc) hr0 (by omega)
  obtain ⟨a2, rfl, B2⟩ := ap_app A2 (by omega)
  obtain ⟨τ3, st, A3, o3⟩ := app_st (t := 3) (v := yS (j : Int)) B2 rfl zIF rfl hi0
  have hge := B2.ge a2 rfl
  have n3 : New τ τ3 := n2.of_only o3 (by rintro b rfl; exact hge)
  have e : (rs.map yS).set i0 (yS (j : Int)) = (rs.set i0 (j : Int)).map yS := by rw [List.map_set]
  rw [e] at A3
  have I3 := app_i A3 (by simp [el])
  have k6 := legal_c (c := c) (d := d) (rc := c2) hn hn7 hv.toDays (h.le (LL.trans n3.le)) hs hsh I3 (fun i hi => by
   rw [rosF_set (by omega)]
   have := r2 i (by omega)
   split <;> omega)
  have es := yAU (w := w) (rs := rs) (i := i0) (j := j)
  have hlb : decide (zCD w (zN (rs.set i0 (j : Int))) (zN (uE w)) m = []) = zHZ w (rs.set i0 (j : Int)) := by unfold zHZ; rw [hm]
  rw [hlb] at k6
  have hle := zLE (w := w) (rs := rs) (i := i0) (j := j)
  cases hb : zHZ w (rs.set i0 (j : Int)) with
  | true =>
   rw [hb] at k6 es
   rw [if_pos rfl] at es
   obtain ⟨q7, d7, τ4, g2, g3, g4, _, _⟩ := grow (yS (j : Int)) zEU hg hN n3 (zHD _) (by omega)
   refine yUQ g1 st k6 g2 ⟨k - 1, by omega, g4, j + 1, by omega, by omega, by rw [es, List.length_append]; rfl, ?_⟩ (by omega) (by omega) (by omega)
   rw [es, List.map_append]
   exact g3
  | false =>
   rw [hb] at k6 es
   rw [if_neg (by simp), List.append_nil] at es
   exact yUP g1 st k6 ⟨k - 1, by omega, hN.trans n3, j + 1, by omega, by omega, by rw [es], by rw [es]; exact hg.le n3.le⟩ (by omega) (by omega) (by omega)
 ·rintro p' l' c' τ ⟨hN, rfl, hg⟩
  refine yHM ⟨N1.trans hN, p', c', rfl, hg.slv, fun b hb => ?_⟩
  have := (hg.bd hb).1
  have := N1.nx
  show σ.re.next ≤ b
  omega
theorem yWR (h : WkP σ 92 76 w p l q m) (hsh : zHT w) : zE Pg 20 [.agg ⟨wkc w.days p l c q m d w.rest w.run w.hours⟩] σ (iV (xH w)) σ := by
 have L1 : Le σ (σ.re.row (wkc w.days p l c q m d w.rest w.run w.hours) 6) := (le0 σ).trans (Le.row _ _ _)
 exact (fault_ra (rFault_c (h.le L1) hsh) ⟨rfl, Nat.le_refl _⟩).pure
def zOD (x : Drv) : Bool := decide (x.knows.length ≤ 20) && (decide (x.leave.length ≤ 20) && decide (x.wish.length ≤ 20))
def zOE (w : Wk) : Bool := (w.drivers.take 10).all zOD && (decide (w.duties.length ≤ 15) && decide (w.drivers.length ≤ 9))
theorem yOH (h : zOE w = true) : zHT w ∧ w.duties.length ≤ 15 ∧ w.drivers.length ≤ 9 := by
 unfold zOE at h
 rw [Bool.and_eq_true, Bool.and_eq_true, decide_eq_true_eq, decide_eq_true_eq] at h
 obtain ⟨h1, h2, h3⟩ := h
 refine ⟨fun x hx => ?_, h2, h3⟩
 rw [List.take_of_length_le (by omega)] at h1
 have := List.all_eq_true.1 h1 x hx
 unfold zOD at this
 rw [Bool.and_eq_true, Bool.and_eq_true, decide_eq_true_eq, decide_eq_true_eq, decide_eq_true_eq] at this
 omega
theorem Thin_c (h : WkP σ 92 76 w p l q m) : zE Pg 14 [.agg ⟨wkc w.days p l c q m d w.rest w.run w.hours⟩] σ (.bool (zOE w)) σ := by
 have hln := h.len.1
 have hm := h.len.2
 obtain ⟨σ1, hσ1⟩ : ∃ σ1, σ1 = σ.re.row (wkc w.days p l c q m d w.rest w.run w.hours) 6 := ⟨_, rfl⟩
 have N1 : New σ.re σ1 := by rw [hσ1]; exact New.row _ _ _
 have L1 : Le σ σ1 := (le0 σ).trans N1.le
 have hk0 := xR σ.re (wkc w.days p l c q m d w.rest w.run w.hours) 6
 rw [← hσ1] at hk0
 have lD : ∀ {τ}, New σ1 τ → zC Pg τ 22 ⟨σ.re.next, 1, none⟩ = some (.slice p l c) := fun hN => (hk0.le hN.le).ld zBI rfl
 have lV : ∀ {τ}, New σ1 τ → zC Pg τ 23 ⟨σ.re.next, 2, none⟩ = some (.slice q m d) := fun hN => (hk0.le hN.le).ld zCI rfl
 refine (Thin_ra (yUM (Inv := fun k i τ => New σ1 τ ∧ ∃ j : Nat, i = j ∧ j + k = m ∧ j ≤ 10 ∧ (w.drivers.take j).all zOD = true) (Qr := fun b τ => New σ1 τ ∧ b = false ∧ zOE w = false) (Q0 := fun τ => New σ1 τ ∧ (w.drivers.take 10).all zOD = true) ?_ m 0 _ ⟨by rw [← hσ1]; exact New.refl _, 0, rfl, by omega, by omega, rfl⟩) ?_ ?_).pure
 ·rintro k i τ ⟨hN, j, rfl, hk, hj10, ha⟩
  by_cases hj : j < m
  rotate_left
  ·refine Thin_s1f (lV hN) ⟨hN, ?_⟩ (by omega)
   rw [List.take_of_length_le (by omega)] at ha ⊢
   exact ha
  by_cases h10 : j < 10
  rotate_left
  ·have : j = 10 := by omega
   subst this
   exact Thin_s1e (lV hN) ⟨hN, ha⟩ (by omega) (by omega)
  obtain ⟨a, rfl, p', l', c', r', n', d', s', j', e', ld, hkn, hlv, hws, _⟩ := (h.le (L1.trans hN.le)).vld yEE uR hj
  have e1 := hkn.len
  have e2 := hlv.len
  have e3 := hws.len
  have N2 : New τ ((τ.row (zH none 0 0 none 0 0 none 0 0 0 0 0) 6).own τ.next (zH p' l' c' r' n' d' s' j' e' (drv w j).off (drv w j).row (drv w j).used) 6) := (New.row _ _ _).own (Nat.le_refl _)
  have hx : w.drivers[j]? = some (drv w j) := by
   unfold drv
   rw [List.getD_eq_getElem?_getD, List.getElem?_eq_getElem (by omega)]; rfl
  have no : zOD (drv w j) = false → zOE w = false := by
   intro hf
   have : (w.drivers.take 10).all zOD = false := by
    refine yHJ (x := drv w j) ?_ hf
    rw [List.mem_iff_getElem?]
    exact ⟨j, by rw [List.getElem?_take, if_pos h10]; exact hx⟩
   unfold zOE
   rw [this]; rfl
  by_cases g1 : 20 < l'
  ·exact Thin_s1a (lV hN) ld ⟨hN.trans N2, rfl, no (by unfold zOD; rw [decide_eq_false (by omega)]; rfl)⟩ (by omega) (by omega) (by omega) (by omega)
  by_cases g2 : 20 < n'
  ·exact Thin_s1b (lV hN) ld ⟨hN.trans N2, rfl, no (by unfold zOD; rw [decide_eq_true (by omega), decide_eq_false (by omega)]; rfl)⟩ (by omega) (by omega) (by omega) (by omega) (by omega)
  by_cases g3 : 20 < j'
  ·exact Thin_s1c (lV hN) ld ⟨hN.trans N2, rfl, no (by unfold zOD; rw [decide_eq_true (by omega), decide_eq_true (by omega), decide_eq_false (by omega)]; rfl)⟩ (by omega) (by omega) (by omega) (by omega) (by omega) (by omega)
  ·exact Thin_s1d (lV hN) ld ⟨k - 1, by omega, hN.trans N2, j + 1, by omega, by omega, by omega, zRL hx ha (by unfold zOD; rw [decide_eq_true (by omega), decide_eq_true (by omega), decide_eq_true (by omega)]; rfl)⟩ (by omega) (by omega) (by omega) (by omega) (by omega) (by omega) (by omega)
 ·rintro b τ ⟨hN, rfl, e⟩
  exact yUI ⟨by rw [e], (N1.trans hN).lw⟩
 ·rintro τ ⟨hN, e⟩
  have hlow := (N1.trans hN).lw
  by_cases h15 : l ≤ 15
  ·by_cases h9 : m ≤ 9
   ·exact yUL (lD hN) (lV hN) ⟨by unfold zOE; rw [e, decide_eq_true (by omega), decide_eq_true (by omega)]; rfl, hlow⟩ (by omega) (by omega)
   ·exact yUK (lD hN) (lV hN) ⟨by unfold zOE; rw [e, decide_eq_true (by omega), decide_eq_false (by omega)]; rfl, hlow⟩ (by omega) (by omega)
  ·exact yUJ (lD hN) ⟨by unfold zOE; rw [e, decide_eq_false (by omega)]; rfl, hlow⟩ (by omega)
end
end Go.Proofs.YtgfiniccfpfplaaGreat
