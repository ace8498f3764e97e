
import Derived.Test.YtmdopblmkkameaaRI
namespace Go.Proofs.Ytmdopblmkkameaa
open Go Go.Lay
open Try renaming prog → Pg
set_option linter.unusedVariables false
set_option linter.unusedSimpArgs false
set_option maxRecDepth 20000
section
variable {σ : St} {t : Tab} {pe pt : Option Addr} {le ce lt ct : Nat}
theorem boolL_agg {z : St} {b : Nat} {f : Nat → Bool} (h : Own z b (yL 12 f) 1) : zB Pg z 84 ⟨b, 0, none⟩ = some (.agg ⟨yL 12 f⟩) :=
 h.ldN (P := Pg) (t := 84) agg84 size84 (k := 0) (by rw [List.drop_zero, List.take_of_length_le (by rw [wD]; omega)]) wD (by rw [wD]; omega)
theorem boolL_st {z : St} {b : Nat} {f g : Nat → Bool} (h : Own z b (yL 12 f) 1) : zX Pg (evL [.pointer (some ⟨b, 0, none⟩), .agg ⟨yL 12 g⟩]) z (.store 84 (.tmp 0) (.tmp 1)) = some (undef, z.own b (yL 12 g) 1) :=
 h.store (P := Pg) (k := 0) (t := 84) (v := .agg ⟨yL 12 g⟩) (vs := yL 12 g) (ds := yL 12 g) rfl (by rw [wD]; exact size84) boolL_cells (by rw [wD, wD]; omega) (by
   rw [wD, List.drop_of_length_le (by rw [wD]; omega)]; simp)
structure MatchP (z : St) (bm bn bb : Nat) (t : Tab) (pe : Option Addr) (le ce : Nat) (pt : Option Addr) (lt ct : Nat) (pf : Option Addr) (cf cn cb : Nat) (nx bf : Nat → Int) : Prop where
 om : Own z bm (yB t pe le ce pt lt ct ++ [.slice pf lt cf, .slice (some ⟨bn, 0, none⟩) lt cn, .slice (some ⟨bb, 0, none⟩) lt cb]) 7
 on : Own z bn (zAO lt nx) 1
 ob : Own z bb (zAO lt bf) 1
 rows : wU z pf lt (folR t lt)
theorem MatchP.leT {z z' : St} {bm bn bb : Nat} {pf : Option Addr} {cf cn cb : Nat} {nx bf : Nat → Int} (h : MatchP z bm bn bb t pe le ce pt lt ct pf cf cn cb nx bf) (k : Le z z') : MatchP z' bm bn bb t pe le ce pt lt ct pf cf cn cb nx bf :=
 ⟨h.om.le k, h.on.le k, h.ob.le k, h.rows.le k⟩
theorem match_lay {σ8 : St} {M C F G : List Value} {P : List Value} (σA : St) (hσA : σA = (((((σ8.row M 7).row P 1).own (σ8.next + 1) C 1).row F 1).row G 1).own (σ8.next + 3) [.func (.func 80) ⟨[]⟩ ⟨[.pointer (some ⟨σ8.next + 1, 0, none⟩), .pointer (some ⟨σ.next + 1, 0, none⟩), .pointer (some ⟨σ8.next + 2, 0, none⟩), .pointer (some ⟨σ8.next + 3, 0, none⟩)]⟩] 1) :
  New σ8 σA ∧ Own σA σ8.next M 7 ∧ Own σA (σ8.next + 1) C 1 ∧ Own σA (σ8.next + 2) F 1 ∧ Own σA (σ8.next + 3) [.func (.func 80) ⟨[]⟩ ⟨[.pointer (some ⟨σ8.next + 1, 0, none⟩), .pointer (some ⟨σ.next + 1, 0, none⟩), .pointer (some ⟨σ8.next + 2, 0, none⟩), .pointer (some ⟨σ8.next + 3, 0, none⟩)]⟩] 1 := by
 generalize hD : [Value.func (.func 80) ⟨[]⟩ ⟨[.pointer (some ⟨σ8.next + 1, 0, none⟩), .pointer (some ⟨σ.next + 1, 0, none⟩), .pointer (some ⟨σ8.next + 2, 0, none⟩), .pointer (some ⟨σ8.next + 3, 0, none⟩)]⟩] = D at hσA ⊢
 clear hD
 obtain ⟨sa, ha⟩ : ∃ sa, sa = σ8.row M 7 := ⟨_, rfl⟩
 obtain ⟨sb, hb⟩ : ∃ sb, sb = sa.row P 1 := ⟨_, rfl⟩
 obtain ⟨sc, hc⟩ : ∃ sc, sc = sb.own (σ8.next + 1) C 1 := ⟨_, rfl⟩
 obtain ⟨sd, hd⟩ : ∃ sd, sd = sc.row F 1 := ⟨_, rfl⟩
 obtain ⟨se, he⟩ : ∃ se, se = sd.row G 1 := ⟨_, rfl⟩
 rw [← ha, ← hb, ← hc, ← hd, ← he] at hσA
 have na : sa.next = σ8.next + 1 := by rw [ha]; rfl
 have nb : sb.next = σ8.next + 2 := by rw [hb]; show sa.next + 1 = _; omega
 have nc : sc.next = σ8.next + 2 := by rw [hc]; exact nb
 have nd : sd.next = σ8.next + 3 := by rw [hd]; show sc.next + 1 = _; omega
 have ne : se.next = σ8.next + 4 := by rw [he]; show sd.next + 1 = _; omega
 have Na : New σ8 sa := by rw [ha]; exact New.row _ _ _
 have Nb : New sa sb := by rw [hb]; exact New.row _ _ _
 have kc : Only (· = σ8.next + 1) sb sc := by rw [hc]; exact Only.own (.inr rfl)
 have Nd : New sc sd := by rw [hd]; exact New.row _ _ _
 have Ne : New sd se := by rw [he]; exact New.row _ _ _
 have kA : Only (· = σ8.next + 3) se σA := by rw [hσA]; exact Only.own (.inr rfl)
 have oa : Own sa σ8.next M 7 := by rw [ha]; exact zC _ _ _
 have ob : Own sb (σ8.next + 1) P 1 := by rw [hb, ← na]; exact zC _ _ _
 have oc : Own sc (σ8.next + 1) C 1 := by rw [hc]; exact ob.put
 have od : Own sd (σ8.next + 2) F 1 := by rw [hd, ← nc]; exact zC _ _ _
 have oe : Own se (σ8.next + 3) G 1 := by rw [he, ← nd]; exact zC _ _ _
 have oA : Own σA (σ8.next + 3) D 1 := by rw [hσA]; exact oe.put
 refine ⟨((((Na.trans Nb).of_only kc (by rintro b rfl; omega)).trans Nd).trans Ne).of_only kA (by rintro b rfl; omega), kA.own' (((kc.own' (oa.le Nb.le) (by omega)).le Nd.le).le Ne.le) (by omega), kA.own' ((oc.le Nd.le).le Ne.le) (by omega), kA.own' (od.le Ne.le) (by omega), oA⟩
theorem belowB_m {n bn bb : Nat} {t : Tab} {pe pt pf : Option Addr} {le ce lt ct cf cn cb : Nat} (h1 : ∀ a, pe = some a → a.block < n) (h2 : ∀ a, pt = some a → a.block < n) (h3 : ∀ a, pf = some a → a.block < n) (h4 : bn < n) (h5 : bb < n) :
  xF RD n (.agg ⟨yB t pe le ce pt lt ct ++ [.slice pf lt cf, .slice (some ⟨bn, 0, none⟩) lt cn, .slice (some ⟨bb, 0, none⟩) lt cb]⟩) = true := by
 cases pe with
 | none => cases pt with
  | none => cases pf with
   | none => show (true && (true && (true && (true && (true && (Nat.blt bn n && (Nat.blt bb n && true))))))) = true; rw [(yO _ _).2 h4, (yO _ _).2 h5]; rfl
   | some c => show (true && (true && (true && (true && (Nat.blt c.block n && (Nat.blt bn n && (Nat.blt bb n && true))))))) = true; rw [(yO _ _).2 (h3 c rfl), (yO _ _).2 h4, (yO _ _).2 h5]; rfl
  | some b => cases pf with
   | none => show (true && (true && (true && (Nat.blt b.block n && (true && (Nat.blt bn n && (Nat.blt bb n && true))))))) = true; rw [(yO _ _).2 (h2 b rfl), (yO _ _).2 h4, (yO _ _).2 h5]; rfl
   | some c => show (true && (true && (true && (Nat.blt b.block n && (Nat.blt c.block n && (Nat.blt bn n && (Nat.blt bb n && true))))))) = true; rw [(yO _ _).2 (h2 b rfl), (yO _ _).2 (h3 c rfl), (yO _ _).2 h4, (yO _ _).2 h5]; rfl
 | some a => cases pt with
  | none => cases pf with
   | none => show (true && (true && (Nat.blt a.block n && (true && (true && (Nat.blt bn n && (Nat.blt bb n && true))))))) = true; rw [(yO _ _).2 (h1 a rfl), (yO _ _).2 h4, (yO _ _).2 h5]; rfl
   | some c => show (true && (true && (Nat.blt a.block n && (true && (Nat.blt c.block n && (Nat.blt bn n && (Nat.blt bb n && true))))))) = true; rw [(yO _ _).2 (h1 a rfl), (yO _ _).2 (h3 c rfl), (yO _ _).2 h4, (yO _ _).2 h5]; rfl
  | some b => cases pf with
   | none => show (true && (true && (Nat.blt a.block n && (Nat.blt b.block n && (true && (Nat.blt bn n && (Nat.blt bb n && true))))))) = true; rw [(yO _ _).2 (h1 a rfl), (yO _ _).2 (h2 b rfl), (yO _ _).2 h4, (yO _ _).2 h5]; rfl
   | some c => show (true && (true && (Nat.blt a.block n && (Nat.blt b.block n && (Nat.blt c.block n && (Nat.blt bn n && (Nat.blt bb n && true))))))) = true; rw [(yO _ _).2 (h1 a rfl), (yO _ _).2 (h2 b rfl), (yO _ _).2 (h3 c rfl), (yO _ _).2 h4, (yO _ _).2 h5]; rfl
theorem match_cN (h : TabP σ pe le pt lt t) (hv : Valid t) (hlt : lt ≤ 12) {S : Nat → Bool} : ∃ bm z' bn bb pf cf cn cb nx bf, zD Pg 48 [.agg ⟨yB t pe le ce pt lt ct⟩, .agg ⟨yL 12 S⟩] σ (.pointer (some ⟨bm, 0, none⟩)) z' ∧ New σ z' ∧ MatchP z' bm bn bb t pe le ce pt lt ct pf cf cn cb nx bf ∧ (σ.next ≤ bm ∧ σ.next ≤ bn ∧ σ.next ≤ bb) ∧ BestTo lt (EdS t S) S lt nx bf := by
 suffices hmain : zN Pg 48 [.agg ⟨yB t pe le ce pt lt ct⟩, .agg ⟨yL 12 S⟩] σ.re fun v s => New σ.re s ∧ ∃ bm bn bb pf cf cn cb nx bf, v = .pointer (some ⟨bm, 0, none⟩) ∧ MatchP s bm bn bb t pe le ce pt lt ct pf cf cn cb nx bf ∧ (σ.next ≤ bm ∧ σ.next ≤ bn ∧ σ.next ≤ bb) ∧ BestTo lt (EdS t S) S lt nx bf by
  obtain ⟨v, σ', h1, h2, bm, bn, bb, pf, cf, cn, cb, nx, bf, rfl, h3, h4⟩ := zN.new hmain
   (by rintro v s s' ⟨bm, bn, bb, pf, cf, cn, cb, nx, bf, rfl, q1, q2⟩ hle; exact ⟨bm, bn, bb, pf, cf, cn, cb, nx, bf, rfl, q1.leT hle, q2⟩) (by rintro v s hr ⟨bm, bn, bb, pf, cf, cn, cb, nx, bf, rfl, _⟩; exact Bool.noConfusion (show false = true from hr))
  exact ⟨bm, σ', bn, bb, pf, cf, cn, cb, nx, bf, h1, h2, h3, h4⟩
 obtain ⟨σ1, hσ1⟩ : ∃ σ1, σ1 = (σ.re.row (yB t pe le ce pt lt ct) 4).row (yL 12 S) 1 := ⟨_, rfl⟩
 have nx1 : σ1.next = σ.next + 2 := by rw [hσ1]; rfl
 have N1 : New σ.re σ1 := by rw [hσ1]; exact (New.row _ _ _).row'
 have ot : Own σ1 σ.next (yB t pe le ce pt lt ct) 4 := by rw [hσ1]; exact (zC σ.re (yB t pe le ce pt lt ct) 4).row
 have oS : Own σ1 (σ.next + 1) (yL 12 S) 1 := by rw [hσ1]; exact zC _ _ _
 have T1 : TabP σ1 pe le pt lt t := (h.le' (le0 σ)).le' N1.le
 obtain ⟨pf, cf, σ2, c1, n2, F2, _⟩ := follows_c (ce := ce) (ct := ct) T1 hv (by omega)
 have r2 : Row (σ2.row [iV (-1)] 1) ⟨σ2.next, 0, none⟩ [wM (-1)] := (zC σ2 [iV (-1)] 1).rw
 have n2' : New σ2 (σ2.row [iV (-1)] 1) := New.row _ _ _
 obtain ⟨bn, cn, σ5, c2, n5, on5, b5⟩ := repeat_c (c := 1) r2 hlt
 have r5 : Row (σ5.row [iV (-1)] 1) ⟨σ5.next, 0, none⟩ [wM (-1)] := (zC σ5 [iV (-1)] 1).rw
 have n5' : New σ5 (σ5.row [iV (-1)] 1) := New.row _ _ _
 obtain ⟨bb, cb, σ8, c3, n8, ob8, b8⟩ := repeat_c (c := 1) r5 hlt
 obtain ⟨σA, hσA⟩ : ∃ σA, σA = (((((σ8.row (yB t pe le ce pt lt ct ++ [.slice pf lt cf, .slice (some ⟨bn, 0, none⟩) lt cn, .slice (some ⟨bb, 0, none⟩) lt cb]) 7).row [.pointer none] 1).own (σ8.next + 1) [.pointer (some ⟨σ8.next, 0, none⟩)] 1).row (yL 12 fun _ => false) 1).row [.nilFunc] 1).own (σ8.next + 3) [.func (.func 80) ⟨[]⟩ ⟨[.pointer (some ⟨σ8.next + 1, 0, none⟩), .pointer (some ⟨σ.next + 1, 0, none⟩), .pointer (some ⟨σ8.next + 2, 0, none⟩), .pointer (some ⟨σ8.next + 3, 0, none⟩)]⟩] 1 := ⟨_, rfl⟩
 have e2 := n2.nx; have e5 := n5.nx; have e8 := n8.nx
 have e2' : (σ2.row [iV (-1)] 1).next = σ2.next + 1 := rfl
 have e5' : (σ5.row [iV (-1)] 1).next = σ5.next + 1 := rfl
 have L2 : Le σ1 σ2 := n2.le
 have L2' : Le σ1 (σ2.row [iV (-1)] 1) := L2.trans n2'.le
 have L5 : Le σ1 σ5 := L2'.trans n5.le
 have L5' : Le σ1 (σ5.row [iV (-1)] 1) := L5.trans n5'.le
 have L8 : Le σ1 σ8 := L5'.trans n8.le
 have L8a : Le σ1 (σ8.row (yB t pe le ce pt lt ct ++ [.slice pf lt cf, .slice (some ⟨bn, 0, none⟩) lt cn, .slice (some ⟨bb, 0, none⟩) lt cb]) 7) := L8.trans (Le.row _ _ _)
 have L8b : Le σ1 ((σ8.row (yB t pe le ce pt lt ct ++ [.slice pf lt cf, .slice (some ⟨bn, 0, none⟩) lt cn, .slice (some ⟨bb, 0, none⟩) lt cb]) 7).row [.pointer none] 1) := L8a.trans (Le.row _ _ _)
 obtain ⟨NA8, omA, opA, otA, ogA⟩ := match_lay (σ := σ) σA hσA
 have NA : New σ.re σA := ((((N1.trans n2).trans n2').trans n5).trans n5').trans (n8.trans NA8)
 have LA : Le σ1 σA := L8.trans NA8.le
 have hbn := on5.lt; have hbb := ob8.lt
 obtain ⟨K, hK⟩ : ∃ K : GK, K = ⟨σ2, σ.next + 1, bn, bb, σ8.next, σ8.next + 1, σ8.next + 2, σ8.next + 3, yB t pe le ce pt lt ct, pf, cf, cn, cb, lt⟩ := ⟨_, rfl⟩
 have ok : K.Ok t := by
  subst hK
  exact ⟨by show σ.next + 1 < bn; omega, by show bn < bb; omega, by show bb < σ8.next; omega, by show σ8.next < σ8.next + 1; omega, by show σ8.next + 1 < σ8.next + 2; omega, by show σ8.next + 2 < σ8.next + 3; omega, by show σ2.next ≤ bn; omega, rfl, h.len.symm, hlt, F2.p⟩
 have W0 : Wk K S σA (fun _ => false) (fun _ => -1) (fun _ => -1) := by
  subst hK
  exact ⟨((n2'.trans n5).trans (n5'.trans n8)).le.trans NA8.le, omA, opA, oS.le LA, otA, ogA, on5.le ((n5'.trans n8).le.trans NA8.le), ob8.le NA8.le⟩
 have hKW : ∀ b, K.W b → σ.next ≤ b := by
  subst hK
  rintro b (e | e | e)
  ·have e : b = σ8.next + 2 := e; omega
  ·have e : b = bn := e; omega
  ·have e : b = bb := e; omega
 have hKn : K.n = lt := by rw [hK]
 have hBs : K.Bs = σ.next + 1 := by rw [hK]
 have hBm : K.Bm = σ8.next + 1 := by rw [hK]
 have hBt : K.Bt = σ8.next + 2 := by rw [hK]
 have hBg : K.Bg = σ8.next + 3 := by rw [hK]
 have hbm : K.bm = σ8.next := by rw [hK]
 have hL : match__L1 (σ.next + 1) (σ8.next + 1) (σ8.next + 2) (σ8.next + 3) lt 0 σA (fun τ => New σ.re τ ∧ ∃ tr nx bf, Wk K S τ tr nx bf ∧ BestTo lt (EdS t S) S lt nx bf) := by
  refine match__loop1 (Inv := fun k i τ => ∃ s : Nat, i = s ∧ s + k = lt ∧ New σ.re τ ∧ ∃ tr nx bf, Wk K S τ tr nx bf ∧ BestTo lt (EdS t S) S s nx bf) ?_ lt 0 σA ⟨0, rfl, by omega, NA, _, _, _, W0, BestTo.start _⟩
  rintro k i τ ⟨s, rfl, hk, hn, tr, nx, bf, w, B⟩
  by_cases hs : s < lt
  rotate_left
  ·have : s = lt := by omega
   subst this
   exact match__s1c ⟨hn, tr, nx, bf, w, B⟩ (by omega)
  obtain ⟨z1, st, w1, o1⟩ : ∃ z1, zX Pg (evL [.pointer (some ⟨σ8.next + 2, 0, none⟩), .agg ⟨yL 12 fun _ => false⟩]) τ (.store 84 (.tmp 0) (.tmp 1)) = some (undef, z1) ∧ Wk K S z1 (fun _ => false) nx bf ∧ Only K.W τ z1 := by
   have st := boolL_st (g := fun _ => false) w.ot
   have kk : Only (· = K.Bt) τ (τ.own K.Bt (yL 12 fun _ => false) 1) := Only.own (.inr rfl)
   obtain ⟨o1, o2, o3, o4, o5, o6, o7, _⟩ := ok
   refine ⟨_, by rw [← hBt]; exact st, ⟨?_, kk.own' w.om (by omega), kk.own' w.op (by omega), kk.own' w.os (by omega), Own.put w.ot, kk.own' w.og (by omega), kk.own' w.on (by omega), kk.own' w.ob (by omega)⟩, kk.mono (fun b _ e => .inl e)⟩
   exact ⟨w.le.next, fun b hb => (kk.get b (Nat.lt_of_lt_of_le hb w.le.next) (by show b ≠ K.Bt; omega)).trans (w.le.get b hb)⟩
  have hn1 := hn.of_only o1 hKW
  have lS := zEC w1.os (P := Pg) (t := 4) (i := s) agg4 (by omega)
  rw [hBs] at lS
  cases hSs : S s with
  | false =>
   rw [hSs] at lS
   exact match__s1b (by rw [falses]; exact st) (by simpa [zH] using lS) ⟨k - 1, by omega, s + 1, by omega, by omega, hn1, _, nx, bf, w1, B.skip hSs⟩ (by omega) (by omega)
  | true =>
   rw [hSs] at lS
   have lg := w1.og.ldI (P := Pg) (t := 93) (i := 0) agg93 rfl
   rw [hBg] at lg
   obtain ⟨r, z5, nx', bf', tr', hc, o5, w5, gq⟩ := give_c ok hv K.n z1 (fun _ => False) s nx bf (fun _ => false) (by
    have := cntN_not (n := K.n) (P := fun _ => false); omega) w1 (by omega) hSs (fun h => h) (by rw [hKn]; exact top_start B.mt (B.rest s hs (Nat.le_refl _)))
   rw [hKn] at gq
   exact match__s1a (by rw [falses]; exact st) (by simpa [zH] using lS) lg hc ⟨k - 1, by omega, s + 1, by omega, by omega, hn1.of_only o5 hKW, _, _, _, w5, B.step hs gq⟩ (by omega) (by omega)
 have A34 : ∀ τ, Le σ1 τ → (((⟨σ.next, 0, none⟩ : Addr).block < τ.next ∧ zJ RD (.agg ⟨yB t pe le ce pt lt ct⟩) = true) ∧ zB Pg τ 34 ⟨σ.next, 0, none⟩ = some (.agg ⟨yB t pe le ce pt lt ct⟩)) := fun τ hl => ⟨⟨(ot.le hl).lt, rfl⟩, (ot.le hl).ldN wB yY (k := 0) rfl rfl (by simp)⟩
 have A32 : ∀ τ, Le σ1 τ → (((⟨σ.next, 3, none⟩ : Addr).block < τ.next ∧ zJ RD (.slice pt lt ct) = true) ∧ zB Pg τ 32 ⟨σ.next, 3, none⟩ = some (.slice pt lt ct)) := fun τ hl => ⟨⟨(ot.le hl).lt, rfl⟩, (ot.le hl).ldI (i := 3) zEB rfl⟩
 have bp : ∀ τ, Le σ1 τ → ∀ a, pt = some a → a.block < τ.next := fun τ hl a e => uI (T1.le' hl).tr a e
 have bq : ∀ τ, Le σ1 τ → ∀ a, pe = some a → a.block < τ.next := fun τ hl a e => (T1.le' hl).em.ltb a e
 have AL : ∀ τ, Le σ1 τ → ((zI τ.next [.slice pt lt ct] ∧ zJ RD (iV ((lt : Nat) : Int)) = true) ∧ Callee.builtin .len = Callee.builtin .len ∧ yN Pg (evL [.slice pt lt ct]) τ (.call { callee := .builtin .len, args := ⟨yI 1⟩, argTypes := ⟨[32]⟩ }) = some (iV ((lt : Nat) : Int))) := fun τ hl => ⟨⟨zF (uX (bp τ hl)) zG, rfl⟩, rfl, rfl⟩
 have AB : ∀ τ, Le σ1 τ → zI τ.next [.slice pt lt ct] := fun τ hl => zF (uX (bp τ hl)) zG
 have AP : ∀ τ, Le σ1 τ → zI τ.next [.pointer (some ⟨σ.next, 3, none⟩)] := fun τ hl => zF (zM (ot.le hl).lt) zG
 have LR := Le.refl σ1
 have hp2 : ∀ a, pf = some a → a.block < σ8.next := fun a e => by
  obtain ⟨vs, h1, _⟩ := F2
  have := uI h1 a e; omega
 have bT1 : zI σ1.next [.agg ⟨yB t pe le ce pt lt ct⟩] := zF (zBX (bq _ LR) (bp _ LR)) zG
 have bM : zI σ8.next [.agg ⟨yB t pe le ce pt lt ct ++ [.slice pf lt cf, .slice (some ⟨bn, 0, none⟩) lt cn, .slice (some ⟨bb, 0, none⟩) lt cb]⟩] := zF (belowB_m (bq _ L8) (bp _ L8) hp2 (by omega) (by omega)) zG
 subst hσ1
 have k0 : ∀ σ', (New σ.re σ' ∧ ∃ tr nx bf, Wk K S σ' tr nx bf ∧ BestTo lt (EdS t S) S lt nx bf) → zJG (σ.next + 1) (σ8.next + 1) (σ8.next + 2) (σ8.next + 3) lt σ' (fun v s => New σ.re s ∧ ∃ bm bn bb pf cf cn cb nx bf, v = .pointer (some ⟨bm, 0, none⟩) ∧ MatchP s bm bn bb t pe le ce pt lt ct pf cf cn cb nx bf ∧ (σ.next ≤ bm ∧ σ.next ≤ bn ∧ σ.next ≤ bb) ∧ BestTo lt (EdS t S) S lt nx bf) := by
  rintro τ ⟨h1, tr, nx, bf, w, B⟩
  have lp := w.op.ldI (P := Pg) (t := 81) (i := 0) agg81 rfl
  rw [hBm, hbm] at lp
  refine match__t1x0a lp ⟨h1, σ8.next, bn, bb, pf, cf, cn, cb, nx, bf, rfl, ?_, ⟨by omega, by omega, by omega⟩, B⟩
  subst hK
  exact ⟨w.om, w.on, w.ob, F2.p.le w.le⟩
 have l50 : zB Pg σA 32 ⟨σ.next, 3, none⟩ = some (.slice pt lt ct) := (A32 _ LA).2
 rw [hσA, ← falses] at hL l50
 refine match__ra c1 (A32 _ L2').2 c2 (A32 _ L5').2 c3 ?_ ?_ ?_ ?_ ?_ ?_ ?_ ?_ ?_ ?_ ?_ ?_ ?_ ?_ ?_ ?_ ?_ ?_ ?_ ?_ ?_ ?_ ?_ ?_ ?_ ?_ ?_ ?_ ?_ ?_ ?_ ?_ ?_ ?_ ?_ ?_ ?_ ?_ ?_ ?_ ?_ ?_ ?_ ?_ l50 hL k0
 all_goals first
  | exact A34 _ L2 | exact A34 _ L2' | exact A34 _ L5 | exact A34 _ L5' | exact A34 _ L8 | exact A34 _ L8a | exact A34 _ L8b
  | exact A32 _ L2 | exact A32 _ L2' | exact A32 _ L5 | exact A32 _ L5' | exact A32 _ L8 | exact A32 _ L8a | exact A32 _ L8b
  | exact AL _ LR | exact AL _ L2 | exact AL _ L2' | exact AL _ L5 | exact AL _ L5' | exact AL _ L8 | exact AL _ L8a | exact AL _ L8b
  | exact (A32 _ LR).2 | exact AB _ L2' | exact AB _ L5' | exact AP _ L2' | exact AP _ L5' | exact bT1 | exact bM
  | exact zF (zFK (by show σ2.next < σ2.next + 1; omega)) (zF rfl zG)
  | exact zF (zFK (by show σ5.next < σ5.next + 1; omega)) (zF rfl zG)
  | exact zF (zM (by show σ8.next + 1 < σ8.next + 2; omega)) (zF (zM (by show σ8.next < σ8.next + 2; omega)) zG)
theorem match_c (h : TabP σ pe le pt lt t) (hv : Valid t) (hlt : lt ≤ 12) {S : Nat → Bool} : ∃ bm z' bn bb pf cf cn cb nx bf, zD Pg 48 [.agg ⟨yB t pe le ce pt lt ct⟩, .agg ⟨yL 12 S⟩] σ (.pointer (some ⟨bm, 0, none⟩)) z' ∧ New σ z' ∧ MatchP z' bm bn bb t pe le ce pt lt ct pf cf cn cb nx bf ∧ BestTo lt (EdS t S) S lt nx bf := by
 obtain ⟨bm, z', bn, bb, pf, cf, cn, cb, nx, bf, h1, h2, h3, _, h4⟩ := match_cN (ce := ce) (ct := ct) h hv hlt (S := S)
 exact ⟨bm, z', bn, bb, pf, cf, cn, cb, nx, bf, h1, h2, h3, h4⟩
end
end Go.Proofs.Ytmdopblmkkameaa
