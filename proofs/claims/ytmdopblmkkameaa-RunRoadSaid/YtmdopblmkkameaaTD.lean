
import Derived.Test.YtmdopblmkkameaaTC
namespace Go.Proofs.Ytmdopblmkkameaa
open Go Go.Lay
open Try renaming prog → Pg
set_option linter.unusedVariables false
set_option linter.unusedSimpArgs false
set_option maxRecDepth 20000
section
variable {σ : St} {t : Tab} {pe pt : Option Addr} {le ce lt ct : Nat}
theorem Play_c {pb pw : Option Addr} {lb cb lw cw n0 : Nat} {bs : List (List Int)} {ts : List Int} (h : TabP σ pe le pt lt t) (hle : le ≤ 1073741824) (hlt : lt ≤ 100000) (hre : ∀ r ∈ t.empty, r.length ≤ 1073741824) (hb : RowA σ n0 pb lb cb bs) (hlb : lb ≤ 100000) (hr : ∀ r ∈ bs, r.length ≤ 100000) (hw : IntsP σ pw lw ts) (hlw : lw ≤ 100000) :
  ∃ p l c e σ', CallsA Pg 39 [.agg ⟨tabL t pe le ce pt lt ct⟩, .slice pb lb cb, .slice pw lw cw] σ (.tuple ⟨[.slice p l c, iV e]⟩) σ' ∧ New σ σ' ∧ ((checkZ t ≠ 0 ∧ e = checkZ t ∧ l = 0) ∨ (checkZ t = 0 ∧ (cutB t bs && fitsB t ts) = false ∧ e = 2 ∧ l = 0) ∨ (checkZ t = 0 ∧ (cutB t bs && fitsB t ts) = true ∧ e = 0 ∧ l = lb ∧ RowsF σ' σ.next p lb (waL t ts bs))) := by
 suffices hmain : RunsQ Pg 39 [.agg ⟨tabL t pe le ce pt lt ct⟩, .slice pb lb cb, .slice pw lw cw] σ.re fun v s => New σ.re s ∧ ∃ p l c e, v = .tuple ⟨[.slice p l c, iV e]⟩ ∧ ((checkZ t ≠ 0 ∧ e = checkZ t ∧ l = 0) ∨ (checkZ t = 0 ∧ (cutB t bs && fitsB t ts) = false ∧ e = 2 ∧ l = 0) ∨ (checkZ t = 0 ∧ (cutB t bs && fitsB t ts) = true ∧ (∃ q, p = some q) ∧ e = 0 ∧ l = lb ∧ RowsF s σ.next p lb (waL t ts bs))) by
  obtain ⟨v, σ', h1, h2, p, l, c, e, rfl, h3⟩ := RunsQ.new hmain
   (by rintro v s s' ⟨p, l, c, e, rfl, q1⟩ hle; exact ⟨p, l, c, e, rfl, q1.imp id (Or.imp id (fun q => ⟨q.1, q.2.1, q.2.2.1, q.2.2.2.1, q.2.2.2.2.1, q.2.2.2.2.2.le hle⟩))⟩)
   (by
    rintro v s hr ⟨p, l, c, e, rfl, q1⟩
    refine ⟨p, l, c, e, rfl, q1.imp id (Or.imp id fun q => ?_)⟩
    obtain ⟨_, _, ⟨q, rfl⟩, _⟩ := q
    exact Bool.noConfusion (show false = true from hr))
  exact ⟨p, l, c, e, σ', h1, h2, h3.imp id (Or.imp id (fun q => ⟨q.1, q.2.1, q.2.2.2⟩))⟩
 have hnt : t.nt = lt := h.len
 obtain ⟨σ1, hσ1⟩ : ∃ σ1, σ1 = (σ.re.row (tabL t pe le ce pt lt ct) 4).row [.slice pw lw cw] 1 := ⟨_, rfl⟩
 have n1 : New σ.re σ1 := by rw [hσ1]; exact (New.row _ _ _).row'
 have ot : Own σ1 σ.next (tabL t pe le ce pt lt ct) 4 := by rw [hσ1]; exact (own_new σ.re (tabL t pe le ce pt lt ct) 4).row
 have ow : Own σ1 (σ.next + 1) [.slice pw lw cw] 1 := by rw [hσ1]; exact own_new (σ.re.row (tabL t pe le ce pt lt ct) 4) [.slice pw lw cw] 1
 have nx1 : σ1.next = σ.next + 2 := by rw [hσ1]; rfl
 have h1 : TabP σ1 pe le pt lt t := (h.le' (le0 σ)).le' n1.le
 have hb1 : RowA σ1 n0 pb lb cb bs := (hb.leT (le0 σ)).leT n1.le
 have hw1 : IntsP σ1 pw lw ts := SlV.le (SlV.le hw (le0 σ)) n1.le
 have htl := hw.len
 have hbl : bs.length = lb := hb.1
 have ck := check_c (ce := ce) (ct := ct) h1 hle (by omega) hre
 by_cases hz : checkZ t = 0
 rotate_left
 ·subst hσ1
  exact Play_ra ck ⟨n1, _, _, _, _, rfl, .inl ⟨hz, rfl, rfl⟩⟩ hz
 rw [hz] at ck
 have hv := valid_of hz
 have hn12 : lt ≤ 12 := by
  have hz' := hz
  unfold checkZ at hz'
  by_cases h12 : 12 < t.nt
  ·rw [if_pos h12] at hz'; cases hz'
  ·omega
 have kc := cutting_c (ce := ce) (ct := ct) (cb := cb) h1 hv hn12 hb1.p hlb hr
 cases hcb : cutB t bs with
 | false =>
  rw [hcb] at kc
  subst hσ1
  exact Play_rd ck kc ⟨n1, _, _, _, _, rfl, .inr (.inl ⟨hz, rfl, rfl, rfl⟩)⟩ rfl
 | true =>
 rw [hcb] at kc
 rw [Bool.true_and]
 by_cases hlen : lw = lt
 rotate_left
 ·subst hσ1
  exact Play_rb ck kc ⟨n1, _, _, _, _, rfl, .inr (.inl ⟨hz, by unfold fitsB; rw [decide_eq_false (by omega)]; rfl, rfl, rfl⟩)⟩ rfl (by omega)
 subst hlen
 have hfe : fitsB t ts = (List.range lw).all (fitI t ts) := by unfold fitsB; rw [hnt, htl, decide_eq_true rfl, Bool.true_and]
 have ld32 : ∀ z, Le σ1 z → loadA Pg z 32 ⟨σ.next, 3, none⟩ = some (.slice pt lw ct) := fun z hz => (ot.le hz).ldI (i := 3) agg32 rfl
 have hL : Play_L1 pb lb cb σ.next (σ.next + 1) pw lw cw 0 σ1 (fun p l c e τ => τ = σ1 ∧ fitsB t ts = false ∧ p = none ∧ l = 0 ∧ e = 2) (fun τ => τ = σ1 ∧ fitsB t ts = true) := by
  refine Play_loop1 (Inv := fun k i τ => ∃ s : Nat, i = s ∧ s + k = lw ∧ τ = σ1 ∧ ∀ i' < s, fitI t ts i' = true) ?_ lw 0 σ1 ⟨0, rfl, by omega, rfl, fun i' h => by omega⟩
  rintro k i τ ⟨s, rfl, hk, hτ, hall⟩
  subst hτ
  by_cases hs : s < lw
  rotate_left
  ·refine Play_s1c ⟨rfl, ?_⟩ (by omega)
   rw [hfe]
   refine List.all_eq_true.2 fun i hi => hall i ?_
   have : i < lw := by simpa using hi
   omega
  obtain ⟨a, rfl, n, hn, ld⟩ := slv_at hw1 hs
  obtain ⟨b, rfl, x, hx, _⟩ := slv_at h1.tr (i := s) (by omega)
  have hx' : (t.trips.map tripV)[s]? = some (tripV x) := by rw [List.getElem?_map, hx]; rfl
  have l3 : loadA Pg τ 3 (aadd b ((Int.toNat (s : Int) * 6) + 3)) = some (iV x.least) := by
   have := slv_fld (t' := 3) h1.tr (vs := t.trips.map tripV) (i := s) (k := 3) (cs := ints6 x.fr x.to x.st x.least x.most x.kind) hx' rfl agg3
   simpa using this
  have l4 : loadA Pg τ 3 (aadd b ((Int.toNat (s : Int) * 6) + 4)) = some (iV x.most) := by
   have := slv_fld (t' := 3) h1.tr (vs := t.trips.map tripV) (i := s) (k := 4) (cs := ints6 x.fr x.to x.st x.least x.most x.kind) hx' rfl agg3
   simpa using this
  have hin := within_c (σ := τ) (n := n) (lo := x.least) (hi := x.most)
  have ef : fitI t ts s = inB n x.least x.most := by unfold fitI; rw [hx, hn]
  cases hb : inB n x.least x.most with
  | true =>
   rw [hb] at hin
   exact Play_s1a ld (ld32 _ (Le.refl _)) l3 l4 hin ⟨k - 1, by omega, s + 1, by omega, by omega, rfl, fun i' hi' => by
    by_cases e' : i' = s
    ·subst e'; rw [ef, hb]
    ·exact hall i' (by omega)⟩ (by omega) (by omega) (by omega) (by omega)
  | false =>
   rw [hb] at hin
   refine Play_s1b ld (ld32 _ (Le.refl _)) l3 l4 hin ⟨rfl, ?_, rfl, rfl, rfl⟩ (by omega) (by omega) (by omega)
   rw [hfe]
   cases ha : (List.range lw).all (fitI t ts) with
   | false => rfl
   | true =>
    have := List.all_eq_true.1 ha s (by simp; omega)
    rw [ef, hb] at this; cases this
 have hend : ∀ τ, (τ = σ1 ∧ fitsB t ts = true) → Play_K1_0 pb lb cb σ.next (σ.next + 1) pw lw cw τ (fun v s => New σ.re s ∧ ∃ p l c e, v = .tuple ⟨[.slice p l c, iV e]⟩ ∧ ((checkZ t ≠ 0 ∧ e = checkZ t ∧ l = 0) ∨ (checkZ t = 0 ∧ fitsB t ts = false ∧ e = 2 ∧ l = 0) ∨ (checkZ t = 0 ∧ fitsB t ts = true ∧ (∃ q, p = some q) ∧ e = 0 ∧ l = lb ∧ RowsF s σ.next p lb (waL t ts bs)))) := by
  rintro τ ⟨hτ, hfit⟩
  subst hτ
  obtain ⟨_, hts⟩ := fits_at hv hfit
  have hin := cutB_in hcb
  have hzr : zeroT Pg 41 = some (.slice none 0 0) := by kernel_rfl
  have mk := make_sl (P := Pg) (σ := τ) (st := 22) (e := 41) (z := .slice none 0 0) (n := 1) (by kernel_rfl) hzr (len := lb) (by omega)
  obtain ⟨σ2, hσ2⟩ : ∃ σ2, σ2 = τ.row (zerosA (Value.slice none 0 0).cells.toList lb) 1 := ⟨_, rfl⟩
  have n2 : New τ σ2 := by rw [hσ2]; exact New.row _ _ _
  have nx2 : σ2.next = τ.next + 1 := by rw [hσ2]; rfl
  have oq : Own σ2 τ.next (List.replicate lb (Value.slice none 0 0)) 1 := by
   have e : zerosA (Value.slice none 0 0).cells.toList lb = List.replicate lb (Value.slice none 0 0) := zerosA_one _ _
   rw [hσ2, e]; exact own_new _ _ _
  rw [← hσ2] at mk
  have G0 : GridI σ2 σ2.next τ.next lb (gw t ts bs 0 0) := (gridI_new oq).congr fun i hi => gw_zero.symm
  refine Play_t1x0a (P2 := fun z => New σ.re z ∧ GridI z σ2.next τ.next lb (gw t ts bs lb 0)) mk ?_ ?_
  rotate_left
  ·rintro z ⟨z1, z2⟩
   have g := z2.rowsF (n0 := σ.next) (by omega) (by omega)
   rw [← hbl, gw_all, hbl] at g
   exact Play_t2x2a ⟨z1, _, _, _, _, rfl, .inr (.inr ⟨hz, hfit, ⟨_, rfl⟩, rfl, rfl, g⟩)⟩
  refine Play_loop2 (Inv := fun k i z => ∃ s : Nat, i = s ∧ s + k = lb ∧ New τ z ∧ GridI z σ2.next τ.next lb (gw t ts bs s 0)) ?_ lb 0 σ2 ⟨0, rfl, by omega, n2, G0⟩
  rintro k i z ⟨s, rfl, hk, hN, hG⟩
  by_cases hs : s < lb
  rotate_left
  ·have : s = lb := by omega
   subst this
   exact Play_s2b ⟨n1.trans hN, hG⟩ (by omega)
  obtain ⟨ab, rfl, r, q, d, hri, hld, hap⟩ := hb1.row hs
  have hrm := List.mem_of_getElem? hri
  obtain ⟨hne, hrin⟩ := hin r hrm
  have hrl : 0 < r.length := List.length_pos_iff.2 hne
  have hr1 := hr r hrm
  obtain ⟨aq, rfl, hqlt, htail⟩ := app_tail hap hrl
  obtain ⟨c', hsl⟩ := htail z hN.le
  have hI : IntsP τ (some aq) r.length r := app_i hap
  have ldr : ∀ (z' : St), Le τ z' → ∀ (j : Nat) (v : Int), r[j]? = some v → loadA Pg z' 3 (aadd aq (Int.toNat (j : Int) * 1)) = some (iV v) := fun z' hz' j v hj => (SlV.le hI hz').at rfl (by rw [List.getElem?_map, hj]; rfl)
  refine Play_s2a (P4 := fun z' => New τ z' ∧ GridI z' σ2.next τ.next lb (gw t ts bs (s + 1) 0)) (hld z hN.le) hsl ?_ (fun z' h => Play_t3x4a ⟨k - 1, by omega, s + 1, by omega, by omega, h.1, h.2⟩) (by omega)
  refine Play_loop3 (Inv := fun m i z' => ∃ j : Nat, i = j ∧ j + m = r.length - 1 ∧ New τ z' ∧ σ2.next ≤ z'.next ∧ GridI z' σ2.next τ.next lb (gw t ts bs s j)) ?_ (r.length - 1) 0 z ⟨0, rfl, by omega, hN, ?_, hG⟩
  rotate_left
  ·obtain ⟨vs, a1, _⟩ := hG
   have := a1.lt
   omega
  rintro m i z' ⟨j, rfl, hm, hM, hnz, hG'⟩
  by_cases hj : j < r.length - 1
  rotate_left
  ·have hjj : j = (bs.getD s []).length - 1 := by rw [getD_of hri]; omega
   subst hjj
   exact Play_s3b ⟨hM, hG'.congr fun _ _ => gw_row⟩ (by rw [getD_of hri] at hj ⊢; omega)
  obtain ⟨v0, hv0⟩ : ∃ v, r[j]? = some v := ⟨r[j]'(by omega), by simp⟩
  obtain ⟨v1, hv1⟩ : ∃ v, r[j + 1]? = some v := ⟨r[j + 1]'(by omega), by simp⟩
  obtain ⟨h10, h11⟩ := hrin v1 (List.mem_of_getElem? hv1)
  obtain ⟨h00, h01⟩ := hrin v0 (List.mem_of_getElem? hv0)
  obtain ⟨x1, rfl⟩ : ∃ x1 : Nat, v1 = x1 := ⟨v1.toNat, by omega⟩
  obtain ⟨x0, rfl⟩ : ∃ x0 : Nat, v0 = x0 := ⟨v0.toNat, by omega⟩
  obtain ⟨u, hu⟩ : ∃ u, u = (((z'.row [iV 0] 1).own z'.next [iV (x0 : Int)] 1).row [.nilFunc] 1).own (z'.next + 1) [.func (.func 66) ⟨[]⟩ ⟨[.pointer (some ⟨σ.next + 1, 0, none⟩), .pointer (some ⟨z'.next, 0, none⟩)]⟩] 1 := ⟨_, rfl⟩
  have nu : New z' u := by rw [hu]; exact (((New.row _ _ _).own (Nat.le_refl _)).row').own (by omega)
  have nxu : u.next = z'.next + 2 := by rw [hu]; rfl
  have ou : Own u z'.next [iV (x0 : Int)] 1 := by
   rw [hu]
   exact ((own_new z' [iV 0] 1).put.row).own (by show z'.next ≠ z'.next + 1; omega)
  have hMu := hM.trans nu
  have Tu := h1.le' hMu.le
  obtain ⟨at_, rfl, y, hy, ldy⟩ := slv_at Tu.tr (i := x1) (by omega)
  obtain ⟨_, e0, x, hx, ldx⟩ := slv_at Tu.tr (i := x0) (by omega)
  cases e0
  have hyv := hv.trip hy
  have hxv := hv.trip hx
  obtain ⟨n, hn⟩ : ∃ n, ts[x0]? = some n := ⟨ts[x0]'(by omega), by simp⟩
  have hn2 := hts x0 n hn
  obtain ⟨pl, hpl⟩ : ∃ pl : Nat, y.fr = pl := ⟨y.fr.toNat, by omega⟩
  have hmap : (t.trips.map tripV)[x1]? = some (tripV y) := by rw [List.getElem?_map, hy]; rfl
  have l2 : loadA Pg u 3 (aadd at_ ((Int.toNat (x1 : Int) * 6) + 2)) = some (iV y.st) := by
   have := slv_fld (t' := 3) Tu.tr (vs := t.trips.map tripV) (i := x1) (k := 2) (cs := ints6 y.fr y.to y.st y.least y.most y.kind) hmap rfl agg3
   simpa using this
  have l0 : loadA Pg u 3 (aadd at_ ((Int.toNat (x1 : Int) * 6) + 0)) = some (iV y.fr) := by
   have := slv_fld (t' := 3) Tu.tr (vs := t.trips.map tripV) (i := x1) (k := 0) (cs := ints6 y.fr y.to y.st y.least y.most y.kind) hmap rfl agg3
   simpa using this
  have rd := ready_c (ce := ce) (ct := ct) Tu hv hx hn2 (pl := pl) (by omega) (g := 66) (gc := [.pointer (some ⟨σ.next + 1, 0, none⟩), .pointer (some ⟨z'.next, 0, none⟩)]) (fun w hwl => Play1_c (SlV.le hw1 (hMu.le.trans hwl)) ((ow.le (hMu.le.trans hwl)).rw) ((ou.le hwl).rw) hn (by omega))
   (fun m hm => by
    have : σ.next + 1 < m := by have := hMu.nx; omega
    have : z'.next < m := by omega
    show belowB RD m (.func (.func 66) ⟨[]⟩ ⟨[.pointer (some ⟨σ.next + 1, 0, none⟩), .pointer (some ⟨z'.next, 0, none⟩)]⟩) = true
    simp [belowB, RD, Nat.blt_eq, *])
  have ew : wt t ts (r.getD j 0) (r.getD (j + 1) 0) = y.st - (x.st + n + t.layover + emp t x.to.toNat pl) := by
   rw [getD_of hv0, getD_of hv1, wt_eq hx hy hn, hpl, Int.toNat_natCast]
  have hgl : (gw t ts bs s j s).length = j := by unfold gw; rw [if_neg (by omega), if_pos rfl, wI_len]
  obtain ⟨p, c, p', c'', s1, s2, k1, k2, ap, st, b1, b2, o1, o2, hp, hq, hg⟩ := (hG'.kept (Kept.of_le nu.le)).push (k := y.st - (x.st + n + t.layover + emp t x.to.toNat pl)) hs (by omega) (by omega) (by rw [hgl]; omega)
  have hev := hv.emp x.to.toNat pl
  have hly := hv.parts.2.1
  have lT : loadA Pg u 34 ⟨σ.next, 0, none⟩ = some (.agg ⟨tabL t pe le ce (some at_) lw ct⟩) := (ot.le hMu.le).ldN agg34 size34 (k := 0) rfl rfl (by simp)
  have q3 : at_.block < z'.next := slv_lt (h1.le' hM.le).tr _ rfl
  have q4 : σ.next < z'.next := (ot.le hM.le).lt
  have q5 : τ.next < z'.next := by omega
  have hn1 := o1.next
  have d1 := ldr z' hM.le (j + 1) _ hv1
  have d0 := ldr z' hM.le j _ hv0
  have d1' : loadA Pg z' 3 (aadd (aadd aq 1) (Int.toNat (j : Int) * 1)) = some (iV (x1 : Int)) := by
   have e : aadd (aadd aq 1) (Int.toNat (j : Int) * 1) = aadd aq (Int.toNat ((j + 1 : Nat) : Int) * 1) := by
    simp [aadd]; omega
   rw [e]; exact d1
  have hb2 : belowL u.next [.agg ⟨tabL t pe le ce (some at_) lw ct⟩, .agg ⟨ints6 x.fr x.to x.st x.least x.most x.kind⟩, .agg ⟨[.func (.func 66) ⟨[]⟩ ⟨[.pointer (some ⟨σ.next + 1, 0, none⟩), .pointer (some ⟨z'.next, 0, none⟩)]⟩]⟩, iV y.fr] := by
   refine belowL_cons (belowB_tab (fun a e => Tu.em.ltb a e) (fun a e => slv_lt Tu.tr a e)) (belowL_cons (belowB_rig rfl) (belowL_cons ?_ (belowL_cons rfl belowL_nil)))
   have : σ.next + 1 < u.next := by have := (ow.le hMu.le).lt; omega
   have : z'.next < u.next := by omega
   simp [belowB, RD, Nat.blt_eq, *]
   omega
  have hb3 : belowL s1.next [.pointer (some (aadd ⟨τ.next, 0, none⟩ (Int.toNat (s : Int) * 1))), .slice p' ((gw t ts bs s j s).length + 1) c''] := belowL_cons (belowB_ptr (by show τ.next < s1.next; omega)) (belowL_cons (belowB_sl fun a e => b2 a e) belowL_nil)
  rw [← hpl] at rd
  rw [hu] at l2 l0 lT rd k1 k2 ap hb2
  have hnp : ∀ b, b = τ.next ∨ AtP p b → τ.next ≤ b := by
   rintro b (e | e)
   ·omega
   ·have := (hp b e).1; omega
  exact Play_s3a (nXB := x.fr) d1' d0 k1 (by rw [← hu]; exact ld32 _ hMu.le) l2 lT (by rw [← hu]; exact ldx) l0 rd ap st hb2 hb3 k2 (fun a e => by
   by_cases hh : a.block < z'.next
   ·exact hh
   ·exfalso
    obtain ⟨vs, a1, a2, a3, a4⟩ := hG'
    obtain ⟨p0, c0, g1, g2⟩ := a3 s hs
    have kk := (a1.le nu.le).ldI (P := Pg) (t := 41) agg41 g1
    have kk' : loadA Pg u 41 (aadd ⟨τ.next, 0, none⟩ (Int.toNat (s : Int) * 1)) = some (.slice p0 (gw t ts bs s j s).length c0) := by simpa [aadd] using kk
    rw [hu, k1] at kk'
    cases kk'
    exact hh (g2.lt a e)) ⟨m - 1, by omega, j + 1, by omega, by omega, hMu.of_only o2 hnp, by have := o2.next; omega, hg.congr fun i hi => by rw [← ew]; exact gw_push hri⟩ (by first | omega | (show τ.next < z'.next; omega)) (by first | omega | (show τ.next < z'.next; omega)) (by first | omega | (show τ.next < z'.next; omega)) (by first | omega | (show τ.next < z'.next; omega)) (by first | omega | (show τ.next < z'.next; omega)) (by first | omega | (show τ.next < z'.next; omega)) (by first | omega | (show τ.next < z'.next; omega)) (by first | omega | (show τ.next < z'.next; omega)) (by first | omega | (show τ.next < z'.next; omega))
 subst hσ1
 exact Play_rc ck kc hL (fun p l c e τ ⟨g1, g2, g3, g4, g5⟩ => Play_t1xra ⟨by rw [g1]; exact n1, _, _, _, _, rfl, .inr (.inl ⟨hz, g2, g5, g4⟩)⟩) hend rfl (by omega)
end
end Go.Proofs.Ytmdopblmkkameaa
