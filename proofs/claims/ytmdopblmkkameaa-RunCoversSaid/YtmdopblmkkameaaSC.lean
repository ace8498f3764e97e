
import Derived.Test.YtmdopblmkkameaaRK
import Derived.Test.YtmdopblmkkameaaSB
import Derived.Test.YtmdopblmkkameaaXL
namespace Go.Proofs.Ytmdopblmkkameaa
open Go Go.Lay
open Try renaming prog → Pg
set_option linter.unusedVariables false
set_option linter.unusedSimpArgs false
set_option maxRecDepth 20000
structure CK where
 σf : St
 Bp : Nat
 Bs : Nat
 Bt : Nat
 Bw : Nat
 bm : Nat
structure CK.Ok (K : CK) : Prop where
 o1 : K.σf.next ≤ K.Bp
 o2 : K.Bp < K.Bs
 o3 : K.Bs < K.Bt
 o4 : K.Bt < K.Bw
abbrev CK.args (K : CK) : List Value := [.pointer (some ⟨K.Bs, 0, none⟩), .pointer (some ⟨K.Bp, 0, none⟩), .pointer (some ⟨K.Bt, 0, none⟩), .pointer (some ⟨K.Bw, 0, none⟩)]
structure Wc (K : CK) (z : St) (se ta : Nat → Bool) : Prop where
 le : Le K.σf z
 op : Own z K.Bp [.pointer (some ⟨K.bm, 0, none⟩)] 1
 os : Own z K.Bs (yL 12 se) 1
 ot : Own z K.Bt (yL 12 ta) 1
 ow : Own z K.Bw [.func (.func 69) ⟨[]⟩ ⟨K.args⟩] 1
def CK.W (K : CK) (b : Nat) : Prop := b = K.Bs ∨ b = K.Bt
section
variable {K : CK} {t : Tab} {z : St} {se ta : Nat → Bool}
theorem Wc.low (h : Wc K z se ta) (m : Nat) : Wc K ⟨z.heap, z.next, m⟩ se ta := ⟨⟨h.le.next, h.le.get⟩, h.op.low, h.os.low, h.ot.low, h.ow.low⟩
theorem Wc.leT {z' : St} (h : Wc K z se ta) (k : Le z z') : Wc K z' se ta := ⟨h.le.trans k, h.op.le k, h.os.le k, h.ot.le k, h.ow.le k⟩
theorem Wc.see (ok : K.Ok) (h : Wc K z se ta) {k : Nat} (hk : k < 12) :
  ∃ z', zX Pg (evL [.pointer (some (zH ⟨K.Bs, 0, none⟩ (Int.toNat (k : Int) * 1))), .bool true]) z (.store 4 (.tmp 0) (.tmp 1)) = some (undef, z') ∧ Wc K z' (vI se k) ta ∧ Only K.W z z' ∧ z'.low ≤ K.Bs := by
 have st := own_stB h.os (P := Pg) (t := 4) (v := true) (i := k) size4 hk
 have kk : Only (· = K.Bs) z (z.own K.Bs (yL 12 fun j => if j = k then true else se j) 1) := Only.own (.inr rfl)
 obtain ⟨o1, o2, o3, o4⟩ := ok
 refine ⟨_, st, ⟨?_, kk.own' h.op (by omega), Own.put h.os, kk.own' h.ot (by omega), kk.own' h.ow (by omega)⟩, kk.mono (fun b _ e => .inl e), ?_⟩
 ·exact ⟨h.le.next, fun b hb => (kk.get b (Nat.lt_of_lt_of_le hb h.le.next) (by show b ≠ K.Bs; omega)).trans (h.le.get b hb)⟩
 ·show min _ _ ≤ _; omega
theorem Wc.take (ok : K.Ok) (h : Wc K z se ta) {k : Nat} (hk : k < 12) :
  ∃ z', zX Pg (evL [.pointer (some (zH ⟨K.Bt, 0, none⟩ (Int.toNat (k : Int) * 1))), .bool true]) z (.store 4 (.tmp 0) (.tmp 1)) = some (undef, z') ∧ Wc K z' se (vI ta k) ∧ Only K.W z z' ∧ z'.low ≤ z.low := by
 have st := own_stB h.ot (P := Pg) (t := 4) (v := true) (i := k) size4 hk
 have kk : Only (· = K.Bt) z (z.own K.Bt (yL 12 fun j => if j = k then true else ta j) 1) := Only.own (.inr rfl)
 obtain ⟨o1, o2, o3, o4⟩ := ok
 refine ⟨_, st, ⟨?_, kk.own' h.op (by omega), kk.own' h.os (by omega), Own.put h.ot, kk.own' h.ow (by omega)⟩, kk.mono (fun b _ e => .inr e), by show min _ _ ≤ _; omega⟩
 exact ⟨h.le.next, fun b hb => (kk.get b (Nat.lt_of_lt_of_le hb h.le.next) (by show b ≠ K.Bt; omega)).trans (h.le.get b hb)⟩
theorem wtr2 {z1 z2 z3 : St} {A : Nat → Prop} (h : Only A z1 z2) (k : Only A z2 z3) : Only A z1 z3 := h.trans' k fun b _ e => .inl e
theorem walk_c {bn bb lt ct le ce cf cn cb : Nat} {pe pt pf : Option Addr} {nx bf : Nat → Int} (ok : K.Ok) (M : MatchP K.σf K.bm bn bb t pe le ce pt lt ct pf cf cn cb nx bf) (hM : Mt lt (EdS t fun _ => true) nx bf) (hlt : lt ≤ 12) (m : Nat) :
  ∀ (z : St) (i : Nat) (se ta : Nat → Bool), yZ lt (fun k => !se k) ≤ m → Wc K z se ta → i < lt → se i = false →
  ∃ z' se' ta', zD Pg 69 (iV (i : Int) :: K.args) z (.tuple ⟨[]⟩) z' ∧ Only K.W z z' ∧ Wc K z' se' ta' ∧ WQ lt (EdS t fun _ => true) bf (fun _ => True) i se ta se' ta' := by
 induction m using Nat.strongRecOn with
 | ind m ih =>
 intro z i se ta hm hw hi hsi
 suffices hmain : zN Pg 69 (iV (i : Int) :: K.args) z.re fun v s => Only K.W z.re s ∧ (s.low < z.next ∨ zS RD v = false) ∧ v = .tuple ⟨[]⟩ ∧ ∃ se' ta', Wc K s se' ta' ∧ WQ lt (EdS t fun _ => true) bf (fun _ => True) i se ta se' ta' by
  obtain ⟨v, z', h1, h2, rfl, se', ta', h3, h4⟩ := zN.mut (Q := fun v s => v = .tuple ⟨[]⟩ ∧ ∃ se' ta', Wc K s se' ta' ∧ WQ lt (EdS t fun _ => true) bf (fun _ => True) i se ta se' ta') hmain (by rintro v s m ⟨rfl, se', ta', q1, q2⟩; exact ⟨rfl, se', ta', q1.low m, q2⟩)
  exact ⟨z', se', ta', h1, h2, h3, h4⟩
 have w0 : Wc K z.re se ta := hw.leT (le0 z)
 obtain ⟨z1, st1, w1, k1, l1⟩ := w0.see ok (k := i) (by omega)
 have hBs := hw.os.lt
 obtain ⟨fa, hfa, r0, q, c, hr0, hld, hI⟩ := M.rows.row hi
 rw [folR_at hi] at hr0
 cases hr0
 rw [zDT] at hI hld
 have hl12 := folL_len (t := t) (i := i) (n := lt)
 obtain ⟨len, hlen⟩ : ∃ len, len = (zHY t i lt).length := ⟨_, rfl⟩
 rw [← hlen] at hI hld hl12
 have q4 : (yB t pe le ce pt lt ct ++ [.slice pf lt cf, .slice (some ⟨bn, 0, none⟩) lt cn, .slice (some ⟨bb, 0, none⟩) lt cb])[4]? = some (.slice (some fa) lt cf) := by rw [hfa]; rfl
 have q6 : (yB t pe le ce pt lt ct ++ [.slice pf lt cf, .slice (some ⟨bn, 0, none⟩) lt cn, .slice (some ⟨bb, 0, none⟩) lt cb])[6]? = some (.slice (some ⟨bb, 0, none⟩) lt cb) := rfl
 have lf := (M.om.le w1.le).ldI (P := Pg) (t := 22) (i := 4) zAN q4
 have lp := w1.op.ldI (P := Pg) (t := 81) (i := 0) agg81 rfl
 refine Cover1_ra (P0 := fun τ => τ.low < z.next ∧ Only K.W z.re τ ∧ ∃ se' ta', Wc K τ se' ta' ∧ WQ lt (EdS t fun _ => true) bf (fun _ => True) i se ta se' ta') st1 lp (by simpa [zH] using lf) (hld _ w1.le) ?_ (fun τ h => Cover1_t1x0a ⟨h.2.1, .inl h.1, rfl, h.2.2⟩) (by omega) (by omega)
 refine Cover1_loop1 (Inv := fun m' ij τ => ∃ j : Nat, ij = j ∧ j + m' = len ∧ τ.low < z.next ∧ Only K.W z.re τ ∧ ∃ se' ta', Wc K τ se' ta' ∧ WQ lt (EdS t fun _ => true) bf (fun k => k ∈ (zHY t i lt).take j) i se ta se' ta') ?_ len 0 z1
  ⟨0, rfl, by omega, by omega, k1, _, _, w1, WQ.start.skip (fun k hk => by simp at hk)⟩
 rintro m' ij τ ⟨j, rfl, hj, hlow, kτ, se', ta', w, Q⟩
 by_cases hjl : j < len
 rotate_left
 ·have : j = len := by omega
  subst this
  refine Cover1_s1e ⟨hlow, kτ, se', ta', w, ?_⟩ (by omega)
  rw [List.take_of_length_le (by omega)] at Q
  refine ⟨Q.s1, Q.si, Q.t1, Q.cl, fun k hk _ he => Q.ci k hk (mem_folL.2 ⟨hk, he.1⟩) he, Q.bk, Q.sub⟩
 obtain ⟨qa, rfl, x, hx, hlx⟩ := vP (SlV.le hI w.le) hjl
 obtain ⟨k, hk, rfl⟩ := natI_get hx
 obtain ⟨hkn, hmay⟩ := mem_folL.1 (List.mem_of_getElem? hk)
 have htake : ∀ k', k' ∈ (zHY t i lt).take (j + 1) → k' ∈ (zHY t i lt).take j ∨ k' = k := by
  intro k' h'
  rw [uS hk] at h'
  simpa using h'
 have lT := zEC w.ot (P := Pg) (t := 4) (i := k) agg4 (by omega)
 have hE : EdS t (fun _ => true) i k := ⟨hmay, rfl, rfl⟩
 cases hT : ta' k with
 | true =>
  rw [hT] at lT
  exact Cover1_s1a hlx lT ⟨m' - 1, by omega, j + 1, by omega, by omega, hlow, kτ, se', ta', w, Q.skip (fun k' h' => by
   rcases htake k' h' with h | rfl
   ·exact .inl h
   ·exact .inr hT)⟩ (by omega) (by omega) (by omega)
 | false =>
 rw [hT] at lT
 obtain ⟨z4, st4, w4, k4, hlow4⟩ := w.take ok (k := k) (by omega)
 have kz4 := wtr2 kτ k4
 have lp4 := w4.op.ldI (P := Pg) (t := 81) (i := 0) agg81 rfl
 have lb4 := (M.om.le w4.le).ldI (P := Pg) (t := 41) (i := 6) zBU q6
 have lk4 := ldV (M.ob.le w4.le) (P := Pg) (t := 3) yD hkn
 by_cases hb : bf k = -1
 ·exact Cover1_s1d hlx lT st4 lp4 (by simpa [zH] using lb4) (by simpa [zH] using lk4) ⟨m' - 1, by omega, j + 1, by omega, by omega, by omega, kz4, se', _, w4, (Q.take hi hkn hE (fun y hy => by omega)).skip (fun k' h' => .inl (htake k' h'))⟩ (by omega) (by omega) (by omega) (by omega) hb (by omega)
 obtain ⟨y, hy, e1, e2, _⟩ := hM.b1 k hkn hb
 have lS := zEC w4.os (P := Pg) (t := 4) (i := y) agg4 (by omega)
 rw [← e1] at lS
 cases hS : se' y with
 | true =>
  rw [hS] at lS
  have hQ := Q.take hi hkn hE (fun y' hy' => by
   have : y' = y := by omega
   subst this; exact hS)
  exact Cover1_s1b hlx lT st4 lp4 (by simpa [zH] using lb4) (by simpa [zH] using lk4) lS ⟨m' - 1, by omega, j + 1, by omega, by omega, by omega, kz4, se', _, w4, hQ.skip (fun k' h' => .inl (htake k' h'))⟩ (by omega) (by omega) (by omega) (by omega) hb (by omega) (by omega)
 | false =>
 rw [hS] at lS
 have hcnt : yZ lt (fun x => !se' x) < m := by
  have h1 := zDK (m := lt) (Q := fun x => !se x) hi (by simp [hsi])
  have h2 : yZ lt (fun x => !se' x) ≤ yZ lt (fun x => !se x && !Nat.beq x i) := cntN_le fun x hx hh => by
   have hh' : se' x = false := by simpa using hh
   have hne : x ≠ i := by rintro rfl; rw [Q.si] at hh'; cases hh'
   have hb' : Nat.beq x i = false := by rw [Bool.eq_false_iff]; intro e; exact hne (Nat.eq_of_beq_eq_true e)
   cases hx2 : se x with
   | false => rw [hb']; rfl
   | true => rw [Q.s1 x hx2] at hh'; cases hh'
  omega
 obtain ⟨z5, se2, ta2, hc, k5, w5, q⟩ := ih _ hcnt z4 y se' (vI ta' k) (Nat.le_refl _) w4 hy hS
 have lw4 := w4.ow.ldI (P := Pg) (t := 108) (i := 0) agg108 rfl
 have hlow5 := callsA_low hc
 rw [← e1] at hc
 exact Cover1_s1c hlx lT st4 lp4 (by simpa [zH] using lb4) (by simpa [zH] using lk4) lS lw4 hc ⟨m' - 1, by omega, j + 1, by omega, by omega, by omega, wtr2 kz4 k5, se2, ta2, w5, (Q.go hi hkn hy hE e1 hS hT q).skip (fun k' h' => .inl (htake k' h'))⟩ (by omega) (by omega) (by omega) (by omega) hb (by omega) (by omega)
end
end Go.Proofs.Ytmdopblmkkameaa
