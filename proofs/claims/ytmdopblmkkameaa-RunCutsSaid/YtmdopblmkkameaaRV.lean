
import Derived.Test.YtmdopblmkkameaaRU
import Derived.Test.YtmdopblmkkameaaRO
import Derived.Test.YtmdopblmkkameaaXK
namespace Go.Proofs.Ytmdopblmkkameaa
open Go Go.Lay
set_option linter.unusedVariables false
set_option linter.unusedSimpArgs false
set_option maxRecDepth 20000
section
variable {σ : St} {t : Tab} {pe pt : Option Addr} {le ce lt ct : Nat}
theorem blkI_short {n : Nat} {nx bf : Nat → Int} (hv : Valid t) : ∀ r ∈ blkI t n nx bf, r.length ≤ 100000 := by
 intro r hr
 obtain ⟨l, hl, rfl⟩ := List.mem_map.1 hr
 obtain ⟨s, hs, rfl⟩ := List.mem_map.1 hl
 rw [natI_len]
 have h1 := ch_len nx (rkT t s + 1) s
 have h2 := rkT_le hv s
 unfold cq; omega
theorem allL_full {n : Nat} : allL t (-1) [] n = List.range n := List.filter_eq_self.2 (fun a _ => aB_nil)
theorem buses_all (hnt : t.nt = lt) {m : Nat} (hm : IsMax lt (EdS t fun _ => true) m) : fewN (mayI t) (allL t (-1) [] lt) (allL t (-1) [] lt) (fun _ => false) = lt - m := by
 have e := fewN_eq (n := lt) (E := mayI t) (ls := allL t (-1) [] lt) (by rw [allL_full]; exact List.nodup_range) (fun x hx => by rw [allL_full] at hx; simpa using hx) hm (fun x y => by
  unfold EdS
  rw [allL_full]
  simp only [List.mem_range]
  exact ⟨fun h => ⟨h.1, by have := mayI_lt h.1; omega, by have := mayI_lt h.1; omega⟩, fun h => ⟨h.1, by simp⟩⟩)
 rw [e, allL_full, List.length_range]
theorem lCuts_top {pb : Option Addr} {lb cb : Nat} {bs : List (List Int)} (h : RefP σ pe le pt lt t) (hb : RowsP σ pb lb bs) : TopQ Try.prog 17 3 [.agg ⟨tabL t pe le ce pt lt ct⟩, .slice pb lb cb] σ fun v _ => v = .bool true := by
 have hnt : t.nt = lt := h.len
 obtain ⟨σ1, hσ1⟩ : ∃ σ1, σ1 = σ.row (tabL t pe le ce pt lt ct) 4 := ⟨_, rfl⟩
 have n1 : New σ σ1 := by rw [hσ1]; exact New.row _ _ _
 have o1 : Own σ1 σ.next (tabL t pe le ce pt lt ct) 4 := by rw [hσ1]; exact own_new _ _ _
 have R1 := h.le' n1.le
 have B1 := hb.le n1.le
 rcases few_c (ce := ce) (ct := ct) R1 with c0 | ⟨hth, c0⟩
 ·exact lCuts_rm (by rw [← hσ1]; exact c0) rfl
 rcases short_cases (c := cb) B1 with c1 | ⟨hlb, hrb, c1⟩
 ·exact lCuts_rl (by rw [← hσ1]; exact c0) (by rw [← hσ1]; exact c1) rfl
 have bE : ∀ r ∈ t.empty, r.length ≤ 1073741824 := fun r hr => by have := hth.r r hr; omega
 have bl := hth.e
 have bn := hth.n
 obtain ⟨p6, c6, q6, d6, σ7, k3, n7, g7⟩ := table_c (ce := ce) (ct := ct) R1 (by omega) (by omega) bE
 obtain ⟨pc, lc, cc, ec, σ10, k4, n10, hC⟩ := Cut_c (ce := c6) (ct := d6) g7 (by omega) (by omega) bE
 have M10 := n7.trans n10
 obtain ⟨p16, c16, q16, d16, σ19, k6, n19, g19⟩ := table_c (ce := ce) (ct := ct) (R1.le' M10.le) (by omega) (by omega) bE
 obtain ⟨p20, c20, σ21, k7, n21, g21⟩ := rowsF_c (c := cb) (B1.le (M10.trans n19).le) (by omega) (fun r hr => by have := hrb r hr; omega)
 have hrb' : ∀ r ∈ bs, r.length ≤ 100000 := fun r hr => by have := hrb r hr; omega
 have k8 := ProveCut_c (ce := c16) (ct := d16) (cb := c20) (g19.le' n21.le) (by omega) (by omega) bE g21.p (by omega) hrb'
 have M21 := (M10.trans n19).trans n21
 have ld : ∀ τ, Le σ1 τ → loadA Try.prog τ 25 ⟨σ.next, 0, none⟩ = some (.agg ⟨tabL t pe le ce pt lt ct⟩) := fun τ hn => (o1.le hn).ldN agg25 size25 (k := 0) rfl rfl (by simp)
 have k10 := fault_c (ce := ce) (ct := ct) (R1.le' M21.le) (by omega) (by omega)
 rcases hC with ⟨hz, rfl, rfl⟩ | ⟨hz, rfl, nx, bf, Bm, rfl, hF⟩
 ·rw [decide_eq_false hz] at k8
  subst hσ1
  exact lCuts_rb c0 c1 k3 k4 (ld _ M10.le) k6 k7 k8 (ld _ M21.le) k10 rfl hz rfl (by rfl)
 have hv := valid_of hz
 rw [hz] at k10 k8
 have k8 : CallsA Try.prog 20 [.agg ⟨tabL t p16 le c16 q16 lt d16⟩, .slice p20 lb c20] σ21 (.bool (cutB t bs)) σ21 := k8
 have hn12 : lt ≤ 12 := by
  have hz' := hz
  unfold checkZ at hz'
  by_cases h12 : 12 < t.nt
  ·rw [if_pos h12] at hz'; cases hz'
  ·omega
 have LC : Le σ10 σ21 := (n19.trans n21).le
 have R21 := R1.le' M21.le
 have k11 := rIsCutting_c (ce := ce) (ct := ct) (cb := cc) R21 hv hn12 (hF.p.le LC) (by omega) (blkI_short hv)
 rw [cut_blk hv Bm.mt hnt (fun _ _ h => h)] at k11
 obtain ⟨p29, l29, c29, σ30, k12, n30, I30, f30⟩ := rAll_c (ce := ce) (ct := ct) (kind := -1) (cw := 0) R21 (ints_none (σ := σ21)) (by omega) (by omega)
 have hl29 : (allL t (-1) [] lt).length = l29 := by have := I30.len; rw [natI_len] at this; exact this
 rw [allL_nil] at hl29
 have R30 := R21.le' n30.le
 have k13 := rBuses_c (ce := ce) (ct := ct) (cl := c29) R30 hv I30 (fun i hi => (allL_lt hi).1) (by omega) (by omega)
 have M30 := M21.trans n30
 have k15 := rIsCutting_c (ce := ce) (ct := ct) (cb := cb) R30 hv hn12 (B1.le M30.le) (by omega) hrb'
 have hm := Bm.isMax (fun i k _ _ _ => rfl)
 rw [buses_all hnt hm] at k13
 have bC : ∀ τ, Le σ10 τ → ∀ a, pc = some a → a.block < τ.next := fun τ hl a e => by
  obtain ⟨vs, g1, _⟩ := hF.le hl
  exact slv_lt g1 a e
 have LC30 := LC.trans n30.le
 have bt : ∀ τ, Le σ1 τ → belowB RD τ.next (.agg ⟨tabL t pe le ce pt lt ct⟩) = true := fun τ hl => belowB_tab (fun a e => (R1.le' hl).em.ltb a e) (fun a e => slv_lt (R1.le' hl).tr a e)
 have bs_ : ∀ a, pb = some a → a.block < σ30.next := fun a e => by
  obtain ⟨vs, g1, _⟩ := B1.le M30.le
  exact slv_lt g1 a e
 have bo : ∀ τ, Le σ1 τ → σ.next < τ.next := fun τ hl => (o1.le hl).lt
 have h16 : belowL σ21.next [.pointer (some ⟨σ.next, 0, none⟩)] := belowL_cons (belowB_ptr (bo _ M21.le)) belowL_nil
 have h17 : belowL σ21.next [.agg ⟨tabL t pe le ce pt lt ct⟩, .slice pc (lt - cntN lt (hasB bf)) cc] := belowL_cons (bt _ M21.le) (belowL_cons (belowB_sl (bC _ LC)) belowL_nil)
 have h18 : belowL σ21.next [.slice pc (lt - cntN lt (hasB bf)) cc] := belowL_cons (belowB_sl (bC _ LC)) belowL_nil
 have h19 : belowL σ21.next [.agg ⟨tabL t pe le ce pt lt ct⟩, iV (-1), .slice none 0 0] := belowL_cons (bt _ M21.le) (belowL_cons rfl (belowL_cons rfl belowL_nil))
 have h20 : belowL σ30.next [.agg ⟨tabL t pe le ce pt lt ct⟩, .slice p29 l29 c29] := belowL_cons (bt _ M30.le) (belowL_cons (belowB_sl fun a e => slv_lt I30 a e) belowL_nil)
 have h21 : belowL σ30.next [.pointer (some ⟨σ.next, 0, none⟩)] := belowL_cons (belowB_ptr (bo _ M30.le)) belowL_nil
 have h22 : belowL σ30.next [.agg ⟨tabL t pe le ce pt lt ct⟩, .slice pb lb cb] := belowL_cons (bt _ M30.le) (belowL_cons (belowB_sl bs_) belowL_nil)
 have h23 : ∀ τ, Le σ10 τ → ((belowL τ.next [.slice pc (lt - cntN lt (hasB bf)) cc] ∧ goodB RD (iV (((lt - cntN lt (hasB bf)) : Nat) : Int)) = true) ∧ Callee.builtin .len = Callee.builtin .len ∧ seeOp Try.prog (evL [.slice pc (lt - cntN lt (hasB bf)) cc]) τ (.call { callee := .builtin .len, args := ⟨tmpsTo 1⟩, argTypes := ⟨[22]⟩ }) = some (iV (((lt - cntN lt (hasB bf)) : Nat) : Int))) := fun τ hl => ⟨⟨belowL_cons (belowB_sl (bC _ hl)) belowL_nil, rfl⟩, rfl, rfl⟩
 subst hσ1
 cases hcb : cutB t bs with
 | true =>
  rw [hcb] at k8 k15
  exact lCuts_re c0 c1 k3 k4 (ld _ M10.le) k6 k7 k8 (ld _ M21.le) k10 k11 k12 k13 (ld _ M30.le) k15 h16 h17 h18 h19 h20 h21 h22 (h23 _ LC) (h23 _ LC30) ⟨⟨bo _ M21.le, rfl⟩, ld _ M21.le⟩ ⟨⟨bo _ M30.le, rfl⟩, ld _ M30.le⟩ rfl rfl rfl rfl
 | false =>
  rw [hcb] at k8 k15
  exact lCuts_rh c0 c1 k3 k4 (ld _ M10.le) k6 k7 k8 (ld _ M21.le) k10 k11 k12 k13 (ld _ M30.le) k15 h16 h17 h18 h19 h20 h21 h22 (h23 _ LC) (h23 _ LC30) ⟨⟨bo _ M21.le, rfl⟩, ld _ M21.le⟩ ⟨⟨bo _ M30.le, rfl⟩, ld _ M30.le⟩ rfl rfl rfl rfl
end
end Go.Proofs.Ytmdopblmkkameaa
