
import Derived.Test.YtmdopblmkkameaaRF
import Derived.Test.YtmdopblmkkameaaRH
import Derived.Test.YtmdopblmkkameaaPM
namespace Go.Proofs.Ytmdopblmkkameaa
open Go Go.Lay
open Try renaming prog → Pg
set_option linter.unusedVariables false
set_option linter.unusedSimpArgs false
set_option maxRecDepth 20000
theorem mut2 {σ : St} {f : FuncId} {args : List Value} {S : Nat → Prop} {Q : Value → St → Prop} (h : zN Pg f args σ.re fun v s => Only S σ.re s ∧ (s.low < σ.next ∨ zS RD v = false ∨ Q v σ) ∧ Q v s) (hQ : ∀ v s m, Q v s → Q v ⟨s.heap, s.next, m⟩) : ∃ v σ', zD Pg f args σ v σ' ∧ Only S σ σ' ∧ Q v σ' := by
 obtain ⟨v, s, hN, h1, h2, h3⟩ := h
 by_cases hlow : s.low < σ.next
 ·exact zN.mut ⟨v, s, hN, h1, .inl hlow, h3⟩ hQ
 ·cases hr : zS RD v with
  | false => exact zN.mut ⟨v, s, hN, h1, .inr hr, h3⟩ hQ
  | true =>
   refine ⟨v, σ, zN.pure ⟨v, s, hN, rfl, by omega⟩ hr, Only.refl _ _, ?_⟩
   rcases h2 with h2 | h2 | h2
   ·exact absurd h2 hlow
   ·rw [hr] at h2; cases h2
   ·exact h2
structure GK where
 σf : St
 Bs : Nat
 bn : Nat
 bb : Nat
 bm : Nat
 Bm : Nat
 Bt : Nat
 Bg : Nat
 tcs : List Value
 pf : Option Addr
 cf : Nat
 cn : Nat
 cb : Nat
 n : Nat
structure GK.Ok (K : GK) (t : Tab) : Prop where
 o1 : K.Bs < K.bn
 o2 : K.bn < K.bb
 o3 : K.bb < K.bm
 o4 : K.bm < K.Bm
 o5 : K.Bm < K.Bt
 o6 : K.Bt < K.Bg
 o7 : K.σf.next ≤ K.bn
 t4 : K.tcs.length = 4
 nt : K.n = t.nt
 n12 : K.n ≤ 12
 rows : wU K.σf K.pf K.n (folR t K.n)
abbrev GK.args (K : GK) : List Value := [.pointer (some ⟨K.Bm, 0, none⟩), .pointer (some ⟨K.Bs, 0, none⟩), .pointer (some ⟨K.Bt, 0, none⟩), .pointer (some ⟨K.Bg, 0, none⟩)]
abbrev GK.ms (K : GK) : List Value := K.tcs ++ [.slice K.pf K.n K.cf, .slice (some ⟨K.bn, 0, none⟩) K.n K.cn, .slice (some ⟨K.bb, 0, none⟩) K.n K.cb]
structure Wk (K : GK) (S : Nat → Bool) (z : St) (tr : Nat → Bool) (nx bf : Nat → Int) : Prop where
 le : Le K.σf z
 om : Own z K.bm K.ms 7
 op : Own z K.Bm [.pointer (some ⟨K.bm, 0, none⟩)] 1
 os : Own z K.Bs (yL 12 S) 1
 ot : Own z K.Bt (yL 12 tr) 1
 og : Own z K.Bg [.func (.func 80) ⟨[]⟩ ⟨K.args⟩] 1
 on : Own z K.bn (zAO K.n nx) 1
 ob : Own z K.bb (zAO K.n bf) 1
def GK.W (K : GK) (b : Nat) : Prop := b = K.Bt ∨ b = K.bn ∨ b = K.bb
def EdS (t : Tab) (S : Nat → Bool) (i k : Nat) : Prop := xL t i k = true ∧ S i = true ∧ S k = true
section
variable {K : GK} {S : Nat → Bool} {t : Tab} {z : St} {tr : Nat → Bool} {nx bf : Nat → Int}
theorem Wk.low (h : Wk K S z tr nx bf) (m : Nat) : Wk K S ⟨z.heap, z.next, m⟩ tr nx bf :=
 ⟨⟨h.le.next, h.le.get⟩, h.om.low, h.op.low, h.os.low, h.ot.low, h.og.low, h.on.low, h.ob.low⟩
theorem Wk.leT {z' : St} (h : Wk K S z tr nx bf) (k : Le z z') : Wk K S z' tr nx bf :=
 ⟨h.le.trans k, h.om.le k, h.op.le k, h.os.le k, h.ot.le k, h.og.le k, h.on.le k, h.ob.le k⟩
theorem Wk.tried (ok : K.Ok t) (h : Wk K S z tr nx bf) {k : Nat} (hk : k < 12) :
  ∃ z', zX Pg (evL [.pointer (some (zH ⟨K.Bt, 0, none⟩ (Int.toNat (k : Int) * 1))), .bool true]) z (.store 4 (.tmp 0) (.tmp 1)) = some (undef, z') ∧ Wk K S z' (vI tr k) nx bf ∧ Only K.W z z' ∧ z'.low ≤ K.Bt := by
 have st := own_stB h.ot (P := Pg) (t := 4) (v := true) (i := k) size4 hk
 have kk : Only (· = K.Bt) z (z.own K.Bt (yL 12 fun j => if j = k then true else tr j) 1) := Only.own (.inr rfl)
 obtain ⟨o1, o2, o3, o4, o5, o6, o7, _⟩ := ok
 refine ⟨_, st, ⟨?_, kk.own' h.om (by omega), kk.own' h.op (by omega), kk.own' h.os (by omega), Own.put h.ot, kk.own' h.og (by omega), kk.own' h.on (by omega), kk.own' h.ob (by omega)⟩, kk.mono (fun b _ e => .inl e), ?_⟩
 ·exact ⟨h.le.next, fun b hb => (kk.get b (Nat.lt_of_lt_of_le hb h.le.next) (by show b ≠ K.Bt; omega)).trans (h.le.get b hb)⟩
 ·show min _ _ ≤ _; omega
theorem Wk.stNext (ok : K.Ok t) (h : Wk K S z tr nx bf) {i : Nat} (hi : i < K.n) (v : Int) :
  ∃ z', zX Pg (evL [.pointer (some (zH ⟨K.bn, 0, none⟩ (Int.toNat (i : Int) * 1))), iV v]) z (.store 3 (.tmp 0) (.tmp 1)) = some (undef, z') ∧ Wk K S z' tr (zIW nx i v) bf ∧ Only K.W z z' ∧ z'.low ≤ K.bn := by
 have st := h.on.stI (P := Pg) (t := 3) (v := iV v) (i := i) rfl size3 rfl (by rw [wS]; exact hi)
 rw [vecL_set hi] at st
 have kk : Only (· = K.bn) z (z.own K.bn (zAO K.n fun j => if j = i then v else nx j) 1) := Only.own (.inr rfl)
 obtain ⟨o1, o2, o3, o4, o5, o6, o7, _⟩ := ok
 refine ⟨_, st, ⟨?_, kk.own' h.om (by omega), kk.own' h.op (by omega), kk.own' h.os (by omega), kk.own' h.ot (by omega), kk.own' h.og (by omega), Own.put h.on, kk.own' h.ob (by omega)⟩, kk.mono (fun b _ e => .inr (.inl e)), ?_⟩
 ·exact ⟨h.le.next, fun b hb => (kk.get b (Nat.lt_of_lt_of_le hb h.le.next) (by show b ≠ K.bn; omega)).trans (h.le.get b hb)⟩
 ·show min _ _ ≤ _; omega
theorem Wk.stBef (ok : K.Ok t) (h : Wk K S z tr nx bf) {k : Nat} (hk : k < K.n) (v : Int) :
  ∃ z', zX Pg (evL [.pointer (some (zH ⟨K.bb, 0, none⟩ (Int.toNat (k : Int) * 1))), iV v]) z (.store 3 (.tmp 0) (.tmp 1)) = some (undef, z') ∧ Wk K S z' tr nx (zIW bf k v) ∧ Only K.W z z' ∧ z'.low ≤ K.bb := by
 have st := h.ob.stI (P := Pg) (t := 3) (v := iV v) (i := k) rfl size3 rfl (by rw [wS]; exact hk)
 rw [vecL_set hk] at st
 have kk : Only (· = K.bb) z (z.own K.bb (zAO K.n fun j => if j = k then v else bf j) 1) := Only.own (.inr rfl)
 obtain ⟨o1, o2, o3, o4, o5, o6, o7, _⟩ := ok
 refine ⟨_, st, ⟨?_, kk.own' h.om (by omega), kk.own' h.op (by omega), kk.own' h.os (by omega), kk.own' h.ot (by omega), kk.own' h.og (by omega), kk.own' h.on (by omega), Own.put h.ob⟩, kk.mono (fun b _ e => .inr (.inr e)), ?_⟩
 ·exact ⟨h.le.next, fun b hb => (kk.get b (Nat.lt_of_lt_of_le hb h.le.next) (by show b ≠ K.bb; omega)).trans (h.le.get b hb)⟩
 ·show min _ _ ≤ _; omega
theorem ms_get (ok : K.Ok t) : K.ms[4]? = some (.slice K.pf K.n K.cf) ∧ K.ms[5]? = some (.slice (some ⟨K.bn, 0, none⟩) K.n K.cn) ∧ K.ms[6]? = some (.slice (some ⟨K.bb, 0, none⟩) K.n K.cb) := by
 have h := ok.t4
 unfold GK.ms
 refine ⟨?_, ?_, ?_⟩ <;> (rw [List.getElem?_append_right (by omega), h]; rfl)
theorem folR_at {i n : Nat} (h : i < n) : (folR t n)[i]? = some (vH (zHY t i n)) := by simp [folR, h]
theorem mem_folL {i n k : Nat} : k ∈ zHY t i n ↔ k < n ∧ xL t i k = true := by simp [zHY]
theorem wtr {z1 z2 z3 : St} {A : Nat → Prop} (h : Only A z1 z2) (k : Only A z2 z3) : Only A z1 z3 := h.trans' k fun b _ e => .inl e
theorem callsA_low {σ σ' : St} {f : FuncId} {args : List Value} {v : Value} (h : zD Pg f args σ v σ') : σ'.low ≤ σ.low := by
 obtain ⟨N0, hN0⟩ := h
 have hc := hN0 N0 (Nat.le_refl _)
 unfold zAZ at hc
 split at hc
 ·cases hc
 ·rename_i v1 s1 h1
  unfold zBT at hc
  rcases Bool.eq_false_or_eq_true (Nat.ble σ.next s1.low && zS RD v1) with e | e
  ·rw [e, cond_true] at hc; simp at hc; rw [← hc.2]; exact Nat.le_refl _
  ·rw [e, cond_false] at hc
   rcases Bool.eq_false_or_eq_true (Nat.ble σ.next s1.next) with e2 | e2
   ·rw [e2, cond_true, vF, zDV] at hc; simp at hc; rw [← hc.2]; show min _ _ ≤ _; omega
   ·rw [e2, cond_false] at hc; cases hc
theorem ldV {P : Program} {b n i : Nat} {f : Nat → Int} {z : St} {t : TypeId} (h : Own z b (zAO n f) 1) (ht : zBB P t = some false) (hi : i < n) : zB P z t (zH ⟨b, 0, none⟩ (Int.toNat (i : Int) * 1)) = some (iV (f i)) := by
 have := h.ldI (P := P) (t := t) (i := i) ht (zCF hi); simpa [zH] using this
theorem give_c (ok : K.Ok t) (hv : Valid t) (m : Nat) : ∀ (z : St) (H : Nat → Prop) (i : Nat) (nx bf : Nat → Int) (tr : Nat → Bool), yZ K.n (fun k => !tr k) ≤ m → Wk K S z tr nx bf → i < K.n → S i = true → ¬ H i → MtH K.n (EdS t S) (fun j => H j ∨ j = i) nx bf tr →
  ∃ r z' nx' bf' tr', zD Pg 80 (iV (i : Int) :: K.args) z (.bool r) z' ∧ Only K.W z z' ∧ Wk K S z' tr' nx' bf' ∧ GiveQ K.n (EdS t S) H i nx bf tr r nx' bf' tr' := by
 induction m using Nat.strongRecOn with
 | ind m ih =>
 intro z H i nx bf tr hm hw hi hS hH hM
 have hn12 := ok.n12
 suffices hmain : zN Pg 80 (iV (i : Int) :: K.args) z.re fun v s => Only K.W z.re s ∧ (s.low < z.next ∨ zS RD v = false ∨ ∃ r nx' bf' tr', v = .bool r ∧ Wk K S z tr' nx' bf' ∧ GiveQ K.n (EdS t S) H i nx bf tr r nx' bf' tr') ∧ ∃ r nx' bf' tr', v = .bool r ∧ Wk K S s tr' nx' bf' ∧ GiveQ K.n (EdS t S) H i nx bf tr r nx' bf' tr' by
  obtain ⟨v, z', h1, h2, r, nx', bf', tr', rfl, h3, h4⟩ := mut2 (Q := fun v s => ∃ r nx' bf' tr', v = .bool r ∧ Wk K S s tr' nx' bf' ∧ GiveQ K.n (EdS t S) H i nx bf tr r nx' bf' tr') hmain (by rintro v s m ⟨r, nx', bf', tr', rfl, q1, q2⟩; exact ⟨r, nx', bf', tr', rfl, q1.low m, q2⟩)
  exact ⟨r, z', nx', bf', tr', h1, h2, h3, h4⟩
 have w0 : Wk K S z.re tr nx bf := hw.leT (le0 z)
 obtain ⟨fa, hfa, r0, q, c, hr0, hld, hI⟩ := ok.rows.row (σ := K.σf) hi
 rw [folR_at hi] at hr0
 cases hr0
 have hIl := hI.len
 rw [zDT] at hIl hI hld
 obtain ⟨g4, g5, g6⟩ := ms_get ok
 rw [hfa] at g4
 have lf := w0.om.ldI (P := Pg) (t := 22) (i := 4) zAN g4
 have lp := w0.op.ldI (P := Pg) (t := 81) (i := 0) agg81 rfl
 have hBt := hw.ot.lt; have hbn := hw.on.lt; have hbb := hw.ob.lt
 obtain ⟨len, hlen⟩ : ∃ len, len = (zHY t i K.n).length := ⟨_, rfl⟩
 have hl12 : len ≤ K.n := by rw [hlen]; exact folL_len
 rw [← hlen] at hI hld hIl
 refine give_ra (P0 := fun τ => ∃ tr1, Wk K S τ tr1 nx bf ∧ Only K.W z.re τ ∧ GiveQ K.n (EdS t S) H i nx bf tr false nx bf tr1 ∧ (τ.low < z.next ∨ tr1 = tr)) (Pr := fun b τ => b = true ∧ ∃ nx' bf' tr', Wk K S τ tr' nx' bf' ∧ Only K.W z.re τ ∧ GiveQ K.n (EdS t S) H i nx bf tr true nx' bf' tr' ∧ τ.low < z.next)
  lp (by simpa [zH] using lf) (hld _ w0.le) ?_ ?_ ?_ (by omega)
 rotate_left
 ·rintro b τ ⟨rfl, nx', bf', tr', k1, k2, k3, k4⟩
  exact give_t1xra ⟨k2, .inl k4, true, nx', bf', tr', rfl, k1, k3⟩
 ·rintro τ ⟨tr1, k1, k2, k3, k4⟩
  refine give_t1x0a ⟨k2, ?_, false, nx, bf, tr1, rfl, k1, k3⟩
  rcases k4 with k4 | rfl
  ·exact .inl k4
  ·exact .inr (.inr ⟨false, nx, bf, _, rfl, hw, k3⟩)
 refine give_loop1 (Inv := fun m' ij τ => ∃ j : Nat, ij = j ∧ j + m' = len ∧ ∃ tr1, Wk K S τ tr1 nx bf ∧ Only K.W z.re τ ∧ GInv K.n (EdS t S) H i nx bf tr tr1 (fun k => k ∈ (zHY t i K.n).take j) ∧ (τ.low < z.next ∨ tr1 = tr)) ?_ len 0 z.re
  ⟨0, rfl, by omega, tr, w0, Only.refl _ _, (GInv.start hH hM).skip (fun k hk => by simp at hk), .inr rfl⟩
 rintro m' ij τ ⟨j, rfl, hj, tr1, w1, k1, gI, k4⟩
 by_cases hjl : j < len
 rotate_left
 ·have : j = len := by omega
  subst this
  refine give_s1f ⟨tr1, w1, k1, gI.no (fun k hk he => ?_), k4⟩ (by omega)
  rw [List.take_of_length_le (by omega)]
  exact mem_folL.2 ⟨hk, he.1⟩
 obtain ⟨qa, rfl, x, hx, hlx⟩ := vP (SlV.le hI w1.le) hjl
 obtain ⟨k, hk, rfl⟩ := natI_get hx
 have hkm := mem_folL.1 (List.mem_of_getElem? hk)
 obtain ⟨hkn, hmay⟩ := hkm
 have htake : ∀ k', k' ∈ (zHY t i K.n).take (j + 1) → k' ∈ (zHY t i K.n).take j ∨ k' = k := by
  intro k' h'
  rw [uS hk] at h'
  simpa using h'
 have lS := zEC w1.os (P := Pg) (t := 4) (i := k) agg4 (by omega)
 have lT := zEC w1.ot (P := Pg) (t := 4) (i := k) agg4 (by omega)
 cases hSk : S k with
 | false =>
  rw [hSk] at lS
  exact give_s1e hlx lS ⟨m' - 1, by omega, j + 1, by omega, by omega, tr1, w1, k1, gI.skip (fun k' h' => by
   rcases htake k' h' with h | rfl
   ·exact .inl h
   ·exact .inr (.inr (fun he => by have := he.2.2; rw [hSk] at this; cases this))), k4⟩
 | true =>
 rw [hSk] at lS
 have hE : EdS t S i k := ⟨hmay, hS, hSk⟩
 cases hT : tr1 k with
 | true =>
  rw [hT] at lT
  exact give_s1a hlx lS lT ⟨m' - 1, by omega, j + 1, by omega, by omega, tr1, w1, k1, gI.skip (fun k' h' => by
   rcases htake k' h' with h | rfl
   ·exact .inl h
   ·exact .inr (.inl hT)), k4⟩
 | false =>
 rw [hT] at lT
 obtain ⟨z4, st, w4, o4, l4⟩ := w1.tried ok (k := k) (by omega)
 have kz4 : Only K.W z.re z4 := wtr k1 o4
 have lp4 := w4.op.ldI (P := Pg) (t := 81) (i := 0) agg81 rfl
 have lb4 := w4.om.ldI (P := Pg) (t := 41) (i := 6) zBU g6
 have ln4 := w4.om.ldI (P := Pg) (t := 41) (i := 5) zBU g5
 have lk4 := ldV w4.ob (P := Pg) (t := 3) yD hkn
 have hlow4 : z4.low < z.next := by omega
 by_cases hb : bf k = -1
 ·obtain ⟨z5, st5, w5, o5, l5⟩ := w4.stNext ok hi (k : Int)
  obtain ⟨z6, st6, w6, o6, l6⟩ := w5.stBef ok hkn (i : Int)
  exact give_s1b hlx lS lT st lp4 (by simpa [zH] using lb4) (by simpa [zH] using lk4) (by simpa [zH] using ln4) st5 st6 ⟨rfl, _, _, _, w6, wtr (wtr kz4 o5) o6, gI.free hi hkn hE hT hb, by omega⟩
 obtain ⟨j', hj', e1, e2, _⟩ := gI.mt.b1 k hkn hb
 obtain ⟨a1, a2, a3⟩ := gI.ask hkn hT e1 hj'
 have hcnt : yZ K.n (fun x => !vI tr1 k x) < m := by
  have h1 := zDK (m := K.n) (Q := fun x => !tr1 x) hkn (by simp [hT])
  have h2 : yZ K.n (fun x => !vI tr1 k x) = yZ K.n (fun x => !tr1 x && !Nat.beq x k) := zDL fun x hx => by
   by_cases ex : x = k
   ·subst ex; simp
   ·rw [zCI ex]
    have : Nat.beq x k = false := by rw [Bool.eq_false_iff]; intro e; exact ex (Nat.eq_of_beq_eq_true e)
    rw [this]; simp
  have h3 : yZ K.n (fun x => !tr1 x) ≤ yZ K.n (fun x => !tr x) := cntN_le fun x hx hh => by
   cases hx2 : tr x with
   | false => rfl
   | true => rw [gI.mono x hx2] at hh; cases hh
  omega
 obtain ⟨r, z5, nx', bf', tr', hc, o5, w5, gq⟩ := ih _ hcnt z4 (fun j => H j ∨ j = i) j' nx bf (vI tr1 k) (Nat.le_refl _) w4 hj' e2.2.1 a1 a3
 have lg4 := w4.og.ldI (P := Pg) (t := 93) (i := 0) agg93 rfl
 have hlow5 := callsA_low hc
 rw [← e1] at hc
 have kz5 : Only K.W z.re z5 := wtr kz4 o5
 cases r with
 | true =>
  have lp5 := w5.op.ldI (P := Pg) (t := 81) (i := 0) agg81 rfl
  have lb5 := w5.om.ldI (P := Pg) (t := 41) (i := 6) zBU g6
  have ln5 := w5.om.ldI (P := Pg) (t := 41) (i := 5) zBU g5
  obtain ⟨z6, st6, w6, o6, l6⟩ := w5.stNext ok hi (k : Int)
  obtain ⟨z7, st7, w7, o7, l7⟩ := w6.stBef ok hkn (i : Int)
  exact give_s1c hlx lS lT st lp4 (by simpa [zH] using lb4) (by simpa [zH] using lk4) lg4 hc lp5 (by simpa [zH] using ln5) (by simpa [zH] using lb5) st6 st7 ⟨rfl, _, _, _, w7, wtr (wtr kz5 o6) o7, gI.yes hi hkn hE hT e1 hj' gq, by omega⟩
 | false =>
  obtain ⟨rfl, rfl, gI'⟩ := gI.next hkn e1 hj' gq
  exact give_s1d hlx lS lT st lp4 (by simpa [zH] using lb4) (by simpa [zH] using lk4) lg4 hc ⟨m' - 1, by omega, j + 1, by omega, by omega, tr', w5, kz5, gI'.skip (fun k' h' => .inl (htake k' h')), .inl (by omega)⟩
end
end Go.Proofs.Ytmdopblmkkameaa
