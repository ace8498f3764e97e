
import Derived.Test.YtgfiniccfpfplaaGreatRZ
import Derived.Test.YtgfiniccfpfplaaGreatXK
namespace Go.Proofs.YtgfiniccfpfplaaGreat
open Go Go.Lay
open Tryz renaming prog → Pg
set_option linter.unusedVariables false
set_option linter.unusedSimpArgs false
set_option maxRecDepth 20000
theorem app_st {P : Program} {σ : St} {n0 len c i : Nat} {a : Addr} {cs : List Value} {t : TypeId} {v : Value} (h : App σ n0 1 (.slice (some a) len c) len cs) (hv : v.cells.toList = [v]) (hs : yX P t = some 1) (hc : cellB v = true) (hi : i < len) :
  ∃ τ, zS P (evL [.pointer (some (zM a (Int.toNat (i : Int) * 1))), v]) σ (.store t (.tmp 0) (.tmp 1)) = some (undef, τ) ∧ App τ n0 1 (.slice (some a) len c) len (cs.set i v) ∧ Only (· = a.block) σ τ := by
 cases h with
 | @more b s nx _ _ sp log hb hsp h0 hlt hl hp hsn =>
  have e : zM (⟨b, 0, sp⟩ : Addr) (Int.toNat (i : Int) * 1) = ⟨b, i, sp⟩ := by rw [Int.toNat_natCast, Nat.mul_one]; simp [zM]
  rw [e]
  have hcs : cs.take i ++ ([v] ++ cs.drop (i + 1)) = cs.set i v := by rw [List.set_eq_take_append_cons_drop, if_pos (by omega)]; rfl
  have hw : wZ σ ⟨b, i, sp⟩ [v] = some (σ.put b (.cells (cs.set i v) 1 [(s, cs.length)] nx false)) := by
   have h2 : (Nat.beq s (yD ⟨b, i, sp⟩) && Nat.ble (i + 1) cs.length && !false && [v].all cellB) = true := by
    have h3 : Nat.beq s (yD ⟨b, i, sp⟩) = true := by unfold yD; simp only [hsp]; exact Nat.beq_refl _
    have h4 : Nat.ble (i + 1) cs.length = true := (zZ _ _).2 (by omega)
    rw [h3, h4]; simp [hc]
   unfold wZ
   simp only [hb, h2, cond_true, zIF, St.write_eq, List.length_singleton, hcs]
  refine ⟨σ.put b (.cells (cs.set i v) 1 [(s, cs.length)] nx false), ?_, .more (s := s) (log := []) (nx := nx) (by rw [St.put_get, if_pos rfl]; simp) hsp h0 hlt (by simp; omega) hp hsn, Only.put (.inr rfl)⟩
  have h1 : Nat.beq v.cells.toList.length 1 = true := by rw [hv]; rfl
  have : zFN P σ t ⟨b, i, sp⟩ v = some (σ.put b (.cells (cs.set i v) 1 [(s, cs.length)] nx false)) := by
   unfold zFN
   rw [hv] at h1 ⊢
   simp only [hs, h1, cond_true, hw]
  show (zFN P σ t ⟨b, i, sp⟩ v).map _ = _
  rw [this]; rfl
theorem ap_app {σ : St} {n0 n len c : Nat} {p : Option Addr} {cs : List Value} (h : Ap σ n0 n p len c cs) (hl : 0 < len) : ∃ a, p = some a ∧ App σ n0 n (.slice (some a) len c) len cs := by
 rcases h with h | ⟨b, rfl, rfl, _⟩
 ·cases p with
  | none => cases h; omega
  | some a => exact ⟨a, rfl, h⟩
 ·omega
theorem app_i {z : St} {n1 c l : Nat} {p : Option Addr} {r : List Int} (h : App z n1 1 (.slice p l c) l (r.map yT)) (hl : r.length = l) : yP z p l r := by
 refine App.slv (vs := r.map yT) (by rw [zEO r .i64]; exact h) (by simp [hl]) ?_
 rintro v hv
 obtain ⟨x, _, rfl⟩ := List.mem_map.1 hv
 exact zHH x
section
variable {σ : St} {w : Wk} {p q r t : Option Addr} {l m c d rl rc tl tc : Nat} {rs ts : List Int}
theorem newAp {f : FuncId} {args : List Value} {len : Nat} {cs : List Value} (h : zO Pg f args σ.re fun v s => New σ.re s ∧ ∃ p c, v = .slice p len c ∧ Ap s σ.next 1 p len c cs) :
  ∃ p c σ', zF Pg f args σ (.slice p len c) σ' ∧ New σ σ' ∧ Ap σ' σ.next 1 p len c cs := by
 obtain ⟨v, σ', h1, h2, p, c, rfl, h3⟩ := zO.new (Q := fun v s => ∃ p c, v = .slice p len c ∧ Ap s σ.next 1 p len c cs) h (by
  rintro v s s' ⟨p, c, rfl, g1⟩ hle; exact ⟨p, c, rfl, g1.le hle⟩) (by
  rintro v s hr ⟨p, c, rfl, g1⟩
  cases p with
  | none =>
   rcases g1 with g1 | ⟨b, e, _⟩
   ·cases g1; exact ⟨none, 0, rfl, .inl .nil⟩
   ·cases e
  | some a => exact Bool.noConfusion (show false = true from hr))
 exact ⟨p, c, σ', h1, h2, h3⟩
theorem nil_ne {a : Addr} {l c : Nat} : zHP Pg .eql 26 (.tmp 3) (.const (.slice none 0 0)) (.slice (some a) l c) (.slice none 0 0) = some (.bool false) := by kernel_rfl
theorem clone_a {a : Addr} (h : yP σ (some a) l rs) (hl : l ≤ 1073741824) : ∃ p' c' σ', zF Pg 60 [.slice (some a) l c] σ (.slice p' l c') σ' ∧ New σ σ' ∧ Ap σ' σ.next 1 p' l c' (rs.map yT) := by
 have hc : (zBC (rs.map yT)).all cellB = true := by rw [zEO rs .i64]; simp [List.all_eq_true]; intro a _; rfl
 have o := zE σ.re [] 1
 obtain ⟨p', c', σ', h1, h2, h3, h4⟩ := Ap.append (k := c) (n0 := σ.re.next) zEV (.inr ⟨σ.re.next, rfl, rfl, rfl, rfl, o, Nat.le_refl _⟩ : Ap (σ.re.row [] 1) σ.re.next 1 (some ⟨σ.re.next, 0, none⟩) 0 0 []) ((SlV.le h ((le0 σ).trans (Le.row _ [] 1))).1) (by omega) hc (by simp)
 rw [Nat.zero_add] at h1 h2
 rw [List.nil_append, zEO rs .i64] at h2
 refine newAp (clone_rb nil_ne h1 ⟨(New.row _ _ _).of_only h3 ?_, p', c', rfl, h2⟩)
 rintro b ⟨a, e, rfl⟩; cases e; exact Nat.le_refl _
theorem rWith_c {i : Nat} {k : Int} (h : yP σ p l rs) (hi : i < l) (hl : l ≤ 1073741824) : ∃ p' c' σ', zF Pg 34 [.slice p l c, iV (i : Int), iV k] σ (.slice p' l c') σ' ∧ New σ σ' ∧ yP σ' p' l (rs.set i k) ∧ ∀ b, AtP p' b → σ.next ≤ b := by
 have hc : (zBC (rs.map yT)).all cellB = true := by rw [zEO rs .i64]; simp [List.all_eq_true]; intro a _; rfl
 have o := zE σ.re [] 1
 have el := h.len
 obtain ⟨p', c', σ', h1, h2, h3, h4⟩ := Ap.append (k := c) (n0 := σ.re.next) zEV (.inr ⟨σ.re.next, rfl, rfl, rfl, rfl, o, Nat.le_refl _⟩ : Ap (σ.re.row [] 1) σ.re.next 1 (some ⟨σ.re.next, 0, none⟩) 0 0 []) ((SlV.le h ((le0 σ).trans (Le.row _ [] 1))).1) (by omega) hc (by simp)
 rw [Nat.zero_add] at h1 h2
 rw [List.nil_append, zEO rs .i64] at h2
 obtain ⟨a, rfl, ha⟩ := ap_app h2 (by omega)
 obtain ⟨τ, st, ha2, ho⟩ := app_st (t := 3) (v := yT k) ha rfl zIJ rfl hi
 have N1 : New σ.re σ' := (New.row _ _ _).of_only h3 (by rintro b ⟨a, e, rfl⟩; cases e; exact Nat.le_refl _)
 have hge := ha.ge a rfl
 have e : (rs.map yT).set i (yT k) = (rs.set i k).map yT := by rw [List.map_set]
 rw [e] at ha2
 exact zO.newSl (rWith_ra h1 st ⟨N1.of_only ho (by rintro b rfl; exact hge), some a, c', rfl, app_i ha2 (by simp [el]), fun b hb => by obtain ⟨a', e, rfl⟩ := hb; cases e; exact hge⟩ (by omega))
def zID (w : Wk) (rs : List Int) : Bool := decide (zCE w (zP rs) (zP (uF w)) w.drivers.length = [])
def wP (w : Wk) (rs : List Int) (i j : Nat) : List Int := ((List.range j).filter fun k : Nat => zID w (rs.set i (k : Int))).map fun k : Nat => (k : Int)
theorem yAV {i j : Nat} : wP w rs i (j + 1) = wP w rs i j ++ if zID w (rs.set i (j : Int)) then [(j : Int)] else [] := by
 unfold wP
 rw [List.range_succ, List.filter_append, List.map_append]
 cases h : zID w (rs.set i (j : Int)) <;> simp [h]
theorem zLK {i j : Nat} : (wP w rs i j).length ≤ j := by
 unfold wP
 rw [List.length_map]
 have := List.length_filter_le (fun k : Nat => zID w (rs.set i (k : Int))) (List.range j)
 simpa using this
def zAH (w : Wk) (rs : List Int) (i : Int) : Int := if xI w ≠ 0 then xI w else if zDI w rs && inB i 0 ((w.duties.length : Int) - 1) then 0 else 2
theorem rosF_set {i j : Nat} {k : Int} (hi : i < rs.length) : zP (rs.set i k) j = if j = i then k else zP rs j := by
 unfold zP
 rw [List.getD_eq_getElem?_getD, List.getD_eq_getElem?_getD, List.getElem?_set]
 by_cases e : i = j
 ·subst e; rw [if_pos rfl, if_pos hi, if_pos rfl]; rfl
 ·rw [if_neg e, if_neg (Ne.symm e)]
theorem Spares_no {i : Int} (h : WkP σ 85 88 w p l q m) (hsh : zHX w) (hr : yP σ r rl rs) (hrl : rl ≤ 1073741824) (hl : l ≤ 1073741824) (hz : zAH w rs i ≠ 0) :
  zF Pg 32 [.agg ⟨wkc w.days p l c q m d w.rest w.run w.hours⟩, .slice r rl rc, iV i] σ (.tuple ⟨[.slice none 0 0, iV (zAH w rs i)]⟩) σ := by
 have hm := h.len.2
 have hln := h.len.1
 obtain ⟨σ1, hσ1⟩ : ∃ σ1, σ1 = σ.re.row (wkc w.days p l c q m d w.rest w.run w.hours) 6 := ⟨_, rfl⟩
 have N1 : New σ.re σ1 := by rw [hσ1]; exact New.row _ _ _
 have L1 : Le σ σ1 := (le0 σ).trans N1.le
 have k1 := zUT (c := c) (d := d) (h.le L1) hsh
 rw [hσ1] at k1
 by_cases hf : xI w = 0
 rotate_left
 ·have : zAH w rs i = xI w := by unfold zAH; rw [if_pos hf]
  rw [this]
  exact (Spares_ra k1 ⟨rfl, Nat.le_refl _⟩ hf).pure
 have hm6 := (zME hf).2.1
 have k2 := yAR (c := c) (d := d) (rc := rc) (h.le L1) (SlV.le hr L1) hrl (by omega)
 have k3 := zGR (σ := σ1) (n := i) (lo := 0) (hi := (l : Int) - 1)
 rw [hσ1] at k2 k3
 have e : zAH w rs i = if zDI w rs && inB i 0 ((l : Int) - 1) then 0 else 2 := by unfold zAH; rw [if_neg (by omega), hln]
 cases b2 : zDI w rs with
 | false =>
  rw [b2] at k2 e
  rw [e]
  exact (Spares_rd k1 k2 ⟨rfl, Nat.le_refl _⟩ hf).pure
 | true =>
 cases b3 : inB i 0 ((l : Int) - 1) with
 | false =>
  rw [b2] at k2 e
  rw [b3] at k3 e
  rw [e]
  exact (Spares_rc k1 k2 k3 ⟨rfl, Nat.le_refl _⟩ hf).pure
 | true => rw [b2, b3] at e; exact absurd e hz
theorem yUL {i : Int} (h : WkP σ 85 88 w p l q m) (hsh : zHX w) (hr : yP σ r rl rs) (hrl : rl ≤ 1073741824) (hl : l ≤ 1073741824) (hz : zAH w rs i = 0) :
  ∃ p' c' σ', zF Pg 32 [.agg ⟨wkc w.days p l c q m d w.rest w.run w.hours⟩, .slice r rl rc, iV i] σ (.tuple ⟨[.slice p' (wP w rs i.toNat m).length c', iV 0]⟩) σ' ∧ New σ σ' ∧ yP σ' p' (wP w rs i.toNat m).length (wP w rs i.toNat m) ∧ ∀ b, AtP p' b → σ.next ≤ b := by
 have hln := h.len.1
 have hm := h.len.2
 have hf : xI w = 0 := by
  by_cases e : xI w = 0
  ·exact e
  ·unfold zAH at hz; rw [if_pos e] at hz; exact hz
 have e : (zDI w rs && inB i 0 ((w.duties.length : Int) - 1)) = true := by
  unfold zAH at hz
  rw [if_neg (by omega)] at hz
  split at hz
  ·assumption
  ·cases hz
 rw [Bool.and_eq_true] at e
 obtain ⟨b2, b3⟩ := e
 obtain ⟨r1, r2⟩ := yCN.1 b2
 have hi := zBW.1 b3
 have el := hr.len
 have hrll : rl = l := by omega
 subst hrll
 obtain ⟨n, hn, hn1, hn7, hv⟩ := days_ex hf
 have hs := Sane.of hf hsh hln hm
 obtain ⟨σ1, hσ1⟩ : ∃ σ1, σ1 = σ.re.row (wkc w.days p rl c q m d w.rest w.run w.hours) 6 := ⟨_, rfl⟩
 have N1 : New σ.re σ1 := by rw [hσ1]; exact New.row _ _ _
 have L1 : Le σ σ1 := (le0 σ).trans N1.le
 have hm6 := hs.m6
 have hl12 := hs.l12
 have k1 := zUT (c := c) (d := d) (h.le L1) hsh
 have k2 := yAR (c := c) (d := d) (rc := rc) (h.le L1) (SlV.le hr L1) hrl (by omega)
 have k3 := zGR (σ := σ1) (n := i) (lo := 0) (hi := (rl : Int) - 1)
 rw [← hln, b3] at k3
 rw [b2] at k2
 rw [hln] at k3
 rw [hσ1] at k1 k2 k3
 obtain ⟨i0, rfl⟩ : ∃ i0 : Nat, i = (i0 : Int) := ⟨i.toNat, by omega⟩
 rw [Int.toNat_natCast]
 have hi0 : i0 < rl := by omega
 refine newTup (Spares_rb k1 k2 k3 (yHO (Inv := fun k p' l' c' i τ => New σ1 τ ∧ ∃ j : Nat, i = j ∧ j + k = m ∧ l' = (wP w rs i0 j).length ∧ Gr Pg τ σ1.next 3 1 p' l' c' ((wP w rs i0 j).map yT))
  (Q0 := fun p' l' c' τ => New σ1 τ ∧ l' = (wP w rs i0 m).length ∧ Gr Pg τ σ1.next 3 1 p' l' c' ((wP w rs i0 m).map yT)) ?_ m none 0 0 0 _ ⟨by rw [← hσ1]; exact New.refl _, 0, rfl, by omega, by simp [wP], by simpa [wP] using Gr.nil⟩) ?_ hf)
 ·rintro k p' l' c' j' τ ⟨hN, j, rfl, hk, rfl, hg⟩
  by_cases hj : j < m
  rotate_left
  ·have : j = m := by omega
   subst this
   exact yUM ⟨hN, rfl, hg⟩ (by omega)
  have LL : Le σ τ := L1.trans hN.le
  have hr0 := SlV.le hr LL
  obtain ⟨a, ea, _⟩ := hr0.some hi0
  rw [ea] at hr0 ⊢
  obtain ⟨p2, c2, τ2, g1, n2, A2⟩ := clone_a (c := rc) hr0 (by omega)
  obtain ⟨a2, rfl, B2⟩ := ap_app A2 (by omega)
  obtain ⟨τ3, st, A3, o3⟩ := app_st (t := 3) (v := yT (j : Int)) B2 rfl zIJ rfl hi0
  have hge := B2.ge a2 rfl
  have n3 : New τ τ3 := n2.of_only o3 (by rintro b rfl; exact hge)
  have e : (rs.map yT).set i0 (yT (j : Int)) = (rs.set i0 (j : Int)).map yT := by rw [List.map_set]
  rw [e] at A3
  have I3 := app_i A3 (by simp [el])
  have k6 := legal_c (c := c) (d := d) (rc := c2) hn hn7 hv.toDays (h.le (LL.trans n3.le)) hs hsh I3 (fun i hi => by
   rw [rosF_set (by omega)]
   have := r2 i (by omega)
   split <;> omega)
  have es := yAV (w := w) (rs := rs) (i := i0) (j := j)
  have hlb : decide (zCE w (zP (rs.set i0 (j : Int))) (zP (uF w)) m = []) = zID w (rs.set i0 (j : Int)) := by unfold zID; rw [hm]
  rw [hlb] at k6
  have hle := zLK (w := w) (rs := rs) (i := i0) (j := j)
  cases hb : zID w (rs.set i0 (j : Int)) with
  | true =>
   rw [hb] at k6 es
   rw [if_pos rfl] at es
   obtain ⟨q7, d7, τ4, g2, g3, g4, _, _⟩ := grow (yT (j : Int)) zEV hg hN n3 (zHH _) (by omega)
   refine yUO g1 st k6 g2 ⟨k - 1, by omega, g4, j + 1, by omega, by omega, by rw [es, List.length_append]; rfl, ?_⟩ (by omega) (by omega) (by omega)
   rw [es, List.map_append]
   exact g3
  | false =>
   rw [hb] at k6 es
   rw [if_neg (by simp), List.append_nil] at es
   exact yUN g1 st k6 ⟨k - 1, by omega, hN.trans n3, j + 1, by omega, by omega, by rw [es], by rw [es]; exact hg.le n3.le⟩ (by omega) (by omega) (by omega)
 ·rintro p' l' c' τ ⟨hN, rfl, hg⟩
  refine yHN ⟨N1.trans hN, p', c', rfl, hg.slv, fun b hb => ?_⟩
  have := (hg.bd hb).1
  have := N1.nx
  show σ.re.next ≤ b
  omega
theorem yWP (h : WkP σ 92 76 w p l q m) (hsh : zHX w) : zF Pg 20 [.agg ⟨wkc w.days p l c q m d w.rest w.run w.hours⟩] σ (iV (xI w)) σ := by
 have L1 : Le σ (σ.re.row (wkc w.days p l c q m d w.rest w.run w.hours) 6) := (le0 σ).trans (Le.row _ _ _)
 exact (fault_ra (rFault_c (h.le L1) hsh) ⟨rfl, Nat.le_refl _⟩).pure
def zOJ (x : Drv) : Bool := decide (x.knows.length ≤ 20) && (decide (x.leave.length ≤ 20) && decide (x.wish.length ≤ 20))
def zOK (w : Wk) : Bool := (w.drivers.take 10).all zOJ && (decide (w.duties.length ≤ 15) && decide (w.drivers.length ≤ 9))
theorem yOI (h : zOK w = true) : zHX w ∧ w.duties.length ≤ 15 ∧ w.drivers.length ≤ 9 := by
 unfold zOK at h
 rw [Bool.and_eq_true, Bool.and_eq_true, decide_eq_true_eq, decide_eq_true_eq] at h
 obtain ⟨h1, h2, h3⟩ := h
 refine ⟨fun x hx => ?_, h2, h3⟩
 rw [List.take_of_length_le (by omega)] at h1
 have := List.all_eq_true.1 h1 x hx
 unfold zOJ at this
 rw [Bool.and_eq_true, Bool.and_eq_true, decide_eq_true_eq, decide_eq_true_eq, decide_eq_true_eq] at this
 omega
theorem Thin_c (h : WkP σ 92 76 w p l q m) : zF Pg 14 [.agg ⟨wkc w.days p l c q m d w.rest w.run w.hours⟩] σ (.bool (zOK w)) σ := by
 have hln := h.len.1
 have hm := h.len.2
 obtain ⟨σ1, hσ1⟩ : ∃ σ1, σ1 = σ.re.row (wkc w.days p l c q m d w.rest w.run w.hours) 6 := ⟨_, rfl⟩
 have N1 : New σ.re σ1 := by rw [hσ1]; exact New.row _ _ _
 have L1 : Le σ σ1 := (le0 σ).trans N1.le
 have hk0 := xS σ.re (wkc w.days p l c q m d w.rest w.run w.hours) 6
 rw [← hσ1] at hk0
 have lD : ∀ {τ}, New σ1 τ → zC Pg τ 22 ⟨σ.re.next, 1, none⟩ = some (.slice p l c) := fun hN => (hk0.le hN.le).ld zBJ rfl
 have lV : ∀ {τ}, New σ1 τ → zC Pg τ 23 ⟨σ.re.next, 2, none⟩ = some (.slice q m d) := fun hN => (hk0.le hN.le).ld zCI rfl
 refine (Thin_ra (yUK (Inv := fun k i τ => New σ1 τ ∧ ∃ j : Nat, i = j ∧ j + k = m ∧ j ≤ 10 ∧ (w.drivers.take j).all zOJ = true) (Qr := fun b τ => New σ1 τ ∧ b = false ∧ zOK w = false) (Q0 := fun τ => New σ1 τ ∧ (w.drivers.take 10).all zOJ = true) ?_ m 0 _ ⟨by rw [← hσ1]; exact New.refl _, 0, rfl, by omega, by omega, rfl⟩) ?_ ?_).pure
 ·rintro k i τ ⟨hN, j, rfl, hk, hj10, ha⟩
  by_cases hj : j < m
  rotate_left
  ·refine Thin_s1f (lV hN) ⟨hN, ?_⟩ (by omega)
   rw [List.take_of_length_le (by omega)] at ha ⊢
   exact ha
  by_cases h10 : j < 10
  rotate_left
  ·have : j = 10 := by omega
   subst this
   exact Thin_s1e (lV hN) ⟨hN, ha⟩ (by omega) (by omega)
  obtain ⟨a, rfl, p', l', c', r', n', d', s', j', e', ld, hkn, hlv, hws, _⟩ := (h.le (L1.trans hN.le)).vld yEF uS hj
  have e1 := hkn.len
  have e2 := hlv.len
  have e3 := hws.len
  have N2 : New τ ((τ.row (zG none 0 0 none 0 0 none 0 0 0 0 0) 6).own τ.next (zG p' l' c' r' n' d' s' j' e' (drv w j).off (drv w j).row (drv w j).used) 6) := (New.row _ _ _).own (Nat.le_refl _)
  have hx : w.drivers[j]? = some (drv w j) := by
   unfold drv
   rw [List.getD_eq_getElem?_getD, List.getElem?_eq_getElem (by omega)]; rfl
  have no : zOJ (drv w j) = false → zOK w = false := by
   intro hf
   have : (w.drivers.take 10).all zOJ = false := by
    refine yHK (x := drv w j) ?_ hf
    rw [List.mem_iff_getElem?]
    exact ⟨j, by rw [List.getElem?_take, if_pos h10]; exact hx⟩
   unfold zOK
   rw [this]; rfl
  by_cases g1 : 20 < l'
  ·exact Thin_s1a (lV hN) ld ⟨hN.trans N2, rfl, no (by unfold zOJ; rw [decide_eq_false (by omega)]; rfl)⟩ (by omega) (by omega) (by omega) (by omega)
  by_cases g2 : 20 < n'
  ·exact Thin_s1b (lV hN) ld ⟨hN.trans N2, rfl, no (by unfold zOJ; rw [decide_eq_true (by omega), decide_eq_false (by omega)]; rfl)⟩ (by omega) (by omega) (by omega) (by omega) (by omega)
  by_cases g3 : 20 < j'
  ·exact Thin_s1c (lV hN) ld ⟨hN.trans N2, rfl, no (by unfold zOJ; rw [decide_eq_true (by omega), decide_eq_true (by omega), decide_eq_false (by omega)]; rfl)⟩ (by omega) (by omega) (by omega) (by omega) (by omega) (by omega)
  ·exact Thin_s1d (lV hN) ld ⟨k - 1, by omega, hN.trans N2, j + 1, by omega, by omega, by omega, zRM hx ha (by unfold zOJ; rw [decide_eq_true (by omega), decide_eq_true (by omega), decide_eq_true (by omega)]; rfl)⟩ (by omega) (by omega) (by omega) (by omega) (by omega) (by omega) (by omega)
 ·rintro b τ ⟨hN, rfl, e⟩
  exact yUG ⟨by rw [e], (N1.trans hN).lw⟩
 ·rintro τ ⟨hN, e⟩
  have hlow := (N1.trans hN).lw
  by_cases h15 : l ≤ 15
  ·by_cases h9 : m ≤ 9
   ·exact yUJ (lD hN) (lV hN) ⟨by unfold zOK; rw [e, decide_eq_true (by omega), decide_eq_true (by omega)]; rfl, hlow⟩ (by omega) (by omega)
   ·exact yUI (lD hN) (lV hN) ⟨by unfold zOK; rw [e, decide_eq_true (by omega), decide_eq_false (by omega)]; rfl, hlow⟩ (by omega) (by omega)
  ·exact yUH (lD hN) ⟨by unfold zOK; rw [e, decide_eq_false (by omega)]; rfl, hlow⟩ (by omega)
end
end Go.Proofs.YtgfiniccfpfplaaGreat
