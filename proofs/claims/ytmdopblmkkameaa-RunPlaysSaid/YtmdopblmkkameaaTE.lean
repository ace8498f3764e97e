
import Derived.Test.YtmdopblmkkameaaTD
import Derived.Test.YtmdopblmkkameaaRT
import Derived.Test.YtmdopblmkkameaaXT
namespace Go.Proofs.Ytmdopblmkkameaa
open Go Go.Lay
set_option linter.unusedVariables false
set_option linter.unusedSimpArgs false
set_option maxRecDepth 20000
section
variable {σ : St} {t : Tab} {pe pt : Option Addr} {le ce lt ct : Nat}
theorem lPlays_top {pb pw : Option Addr} {lb cb lw cw : Nat} {bs : List (List Int)} {ts : List Int} (h : RefP σ pe le pt lt t) (hb : RowsP σ pb lb bs) (hw : IntsP σ pw lw ts) : TopQ Try.prog 17 10 [.agg ⟨tabL t pe le ce pt lt ct⟩, .slice pb lb cb, .slice pw lw cw] σ fun v _ => v = .bool true := by
 have hnt : t.nt = lt := h.len
 obtain ⟨σ1, hσ1⟩ : ∃ σ1, σ1 = σ.row (tabL t pe le ce pt lt ct) 4 := ⟨_, rfl⟩
 have n1 : New σ σ1 := by rw [hσ1]; exact New.row _ _ _
 have o1 : Own σ1 σ.next (tabL t pe le ce pt lt ct) 4 := by rw [hσ1]; exact own_new _ _ _
 have R1 := h.le' n1.le
 have B1 := hb.le n1.le
 have W1 : IntsP σ1 pw lw ts := SlV.le hw n1.le
 rcases thin_c (ce := ce) (ct := ct) R1 with c0 | ⟨hth, c0⟩
 ·exact lPlays_ro (by rw [← hσ1]; exact c0) rfl
 rcases short_cases (c := cb) B1 with c1 | ⟨hlb, hrb, c1⟩
 ·exact lPlays_rn (by rw [← hσ1]; exact c0) (by rw [← hσ1]; exact c1) rfl
 by_cases hlw : lw ≤ 15
 rotate_left
 ·exact lPlays_ra (by rw [← hσ1]; exact c0) (by rw [← hσ1]; exact c1) rfl (by omega)
 have bE : ∀ r ∈ t.empty, r.length ≤ 1073741824 := fun r hr => by have := hth.r r hr; omega
 have bl := hth.e
 have bn := hth.n
 have hbl : bs.length = lb := hb.len
 have hwl : ts.length = lw := hw.len
 obtain ⟨p3, c3, q4, d4, σ7, k3, n7, g7⟩ := table_c (ce := ce) (ct := ct) R1 (by omega) (by omega) bE
 obtain ⟨p8, c8, σ9, k4, n9, g9⟩ := rowsA_c (c := cb) (B1.le n7.le) (by omega) (fun r hr => by have := hrb r hr; omega)
 have M9 := n7.trans n9
 obtain ⟨p10, c10, σ11, k5, n11, I11, _⟩ := list_c (c := cw) (SlV.le W1 M9.le) (by omega)
 have M11 := M9.trans n11
 have hrb' : ∀ r ∈ bs, r.length ≤ 100000 := fun r hr => by have := hrb r hr; omega
 obtain ⟨p12, l12, c12, e13, σ14, k6, n14, hP⟩ := Play_c (ce := c3) (ct := d4) (cw := c10) ((g7.le' n9.le).le' n11.le) (by omega) (by omega) bE (g9.leT n11.le) (by omega) hrb' I11 (by omega)
 have M14 := M11.trans n14
 have ld : ∀ τ, Le σ1 τ → loadA Try.prog τ 25 ⟨σ.next, 0, none⟩ = some (.agg ⟨tabL t pe le ce pt lt ct⟩) := fun τ hn => (o1.le hn).ldN agg25 size25 (k := 0) rfl rfl (by simp)
 have R14 := R1.le' M14.le
 have k8 := fault_c (ce := ce) (ct := ct) R14 (by omega) (by omega)
 rcases hP with ⟨hz, rfl, rfl⟩ | ⟨hz, hbad, rfl, rfl⟩ | ⟨hz, hok, rfl, rfl, hF⟩
 ·subst hσ1
  exact lPlays_rk c0 c1 k3 k4 k5 k6 (ld _ M14.le) k8 rfl
 ·have hv := valid_of hz
  have hn12 : lt ≤ 12 := by
   have hz' := hz
   unfold checkZ at hz'
   by_cases h12 : 12 < t.nt
   ·rw [if_pos h12] at hz'; cases hz'
   ·omega
  rw [hz] at k8
  have k9 := rIsCutting_c (ce := ce) (ct := ct) (cb := cb) R14 hv hn12 (B1.le M14.le) (by omega) hrb'
  have k10 := rFits_c (ce := ce) (ct := ct) (c := cw) R14 (SlV.le W1 M14.le) (by omega) (by omega)
  cases hc : cutB t bs with
  | false =>
   rw [hc] at k9
   subst hσ1
   exact lPlays_rh c0 c1 k3 k4 k5 k6 (ld _ M14.le) k8 k9 rfl
  | true =>
   rw [hc, Bool.true_and] at hbad
   rw [hc] at k9
   rw [hbad] at k10
   subst hσ1
   exact lPlays_re c0 c1 k3 k4 k5 k6 (ld _ M14.le) k8 k9 k10 rfl
 ·have hv := valid_of hz
  have hn12 : lt ≤ 12 := by
   have hz' := hz
   unfold checkZ at hz'
   by_cases h12 : 12 < t.nt
   ·rw [if_pos h12] at hz'; cases hz'
   ·omega
  rw [hz] at k8
  have k9 := rIsCutting_c (ce := ce) (ct := ct) (cb := cb) R14 hv hn12 (B1.le M14.le) (by omega) hrb'
  have k10 := rFits_c (ce := ce) (ct := ct) (c := cw) R14 (SlV.le W1 M14.le) (by omega) (by omega)
  simp only [Bool.and_eq_true] at hok
  rw [hok.1] at k9
  rw [hok.2] at k10
  obtain ⟨hlen, hts⟩ := fits_at hv hok.2
  have hlwt : lw = lt := by omega
  subst hlwt
  have hin := cutB_in hok.1
  have L14 : Le σ1 σ14 := M14.le
  have hL : lPlays_L1 pb l12 cb pw lw cw σ.next p12 l12 c12 0 σ14 (fun _ _ => False) (fun _ => True) := by
   refine lPlays_loop1 (Inv := fun k i τ => ∃ s : Nat, i = s ∧ s + k = l12 ∧ Le σ14 τ) ?_ l12 0 σ14 ⟨0, rfl, by omega, Le.refl _⟩
   rintro k i τ ⟨s, rfl, hk, hle⟩
   by_cases hs : s < l12
   rotate_left
   ·exact lPlays_s1c trivial (by omega)
   have L1 := L14.trans hle
   obtain ⟨a, rfl, r1, q1, d1, hr1, hd1, hi1⟩ := (hF.p.le hle).row hs
   obtain ⟨b, rfl, r2, q2, d2, hr2, hd2, hi2⟩ := (B1.le L1).row hs
   have er : r1 = wI t ts r2 (r2.length - 1) := by
    rw [List.getElem?_map, hr2] at hr1
    exact (Option.some.inj hr1).symm
   subst er
   rw [wI_len] at hd1 hi1
   have hm2 := List.mem_of_getElem? hr2
   have hr15 := hrb r2 hm2
   obtain ⟨p7, c7, σ8, kw, nw, iw⟩ := rWaits_c (ce := ce) (ct := ct) (cb := d2) (cw := cw) (R1.le' L1) hv hi2 (SlV.le W1 L1) (by omega) (by omega) (fun x hx => by have := (hin r2 hm2).2 x hx; omega) hts
   have ki := ints_c (c := d1) (d := c7) (SlV.le hi1 nw.le) iw (by omega)
   rw [decide_eq_true rfl] at ki
   have ra := hF.p.le hle
   have ha : a.block < τ.next := by obtain ⟨vs, g1, _⟩ := ra; exact slv_lt g1 _ rfl
   have hbk : b.block < τ.next := by obtain ⟨vs, g1, _⟩ := B1.le L1; exact slv_lt g1 _ rfl
   have ho : σ.next < τ.next := (o1.le L1).lt
   have hax : a.block < σ8.next := Nat.lt_of_lt_of_le ha nw.le.next
   exact lPlays_s1a (hd1 _ (Le.refl _)) (ld _ L1) (hd2 _ (Le.refl _)) kw ki (belowL_cons (belowB_tab (fun a e => (R1.le' L1).em.ltb a e) (fun a e => slv_lt (R1.le' L1).tr a e)) (belowL_cons (belowB_sl fun a e => slv_lt hi2 a e) (belowL_cons (belowB_sl fun a e => slv_lt (SlV.le W1 L1) a e) belowL_nil)))
    (belowL_cons (belowB_sl fun a e => slv_lt (SlV.le hi1 nw.le) a e) (belowL_cons (belowB_sl fun a e => slv_lt iw a e) belowL_nil)) ⟨⟨hax, rfl⟩, hd1 _ nw.le⟩ ⟨k - 1, by omega, s + 1, by omega, by omega, hle.trans nw.le⟩ (by omega) (by omega) (by omega) (by omega) (by omega)
  subst hσ1
  exact lPlays_rd c0 c1 k3 k4 k5 k6 (ld _ M14.le) k8 k9 k10 hL (fun b τ h => h.elim) (fun τ _ => lPlays_t1x0a rfl)
end
end Go.Proofs.Ytmdopblmkkameaa
