
import Derived.Test.YtmdopblmkkameaaRV
import Derived.Test.YtmdopblmkkameaaSK
import Derived.Test.YtmdopblmkkameaaSD
import Derived.Test.YtmdopblmkkameaaSE
import Derived.Test.YtmdopblmkkameaaXS
import Derived.Test.YtmdopblmkkameaaSM
namespace Go.Proofs.Ytmdopblmkkameaa
open Go Go.Lay
set_option linter.unusedVariables false
set_option linter.unusedSimpArgs false
set_option maxRecDepth 20000
section
variable {σ : St} {t : Tab} {pe pt : Option Addr} {le ce lt ct : Nat}
theorem lFewer_top {pb pa pd : Option Addr} {lb cb la ca ld cd : Nat} {bs : List (List Int)} {a d : List Int} (h : RefP σ pe le pt lt t) (hb : RowsP σ pb lb bs) (ha : IntsP σ pa la a) (hd : IntsP σ pd ld d) : TopQ Try.prog 17 13 [.agg ⟨tabL t pe le ce pt lt ct⟩, .slice pb lb cb, .slice pa la ca, .slice pd ld cd] σ fun v _ => v = .bool true := by
 have hnt : t.nt = lt := h.len
 obtain ⟨σ1, hσ1⟩ : ∃ σ1, σ1 = σ.row (tabL t pe le ce pt lt ct) 4 := ⟨_, rfl⟩
 have n1 : New σ σ1 := by rw [hσ1]; exact New.row _ _ _
 have o1 : Own σ1 σ.next (tabL t pe le ce pt lt ct) 4 := by rw [hσ1]; exact own_new _ _ _
 have R1 := h.le' n1.le
 have A1 : IntsP σ1 pa la a := SlV.le ha n1.le
 have D1 : IntsP σ1 pd ld d := SlV.le hd n1.le
 have B1 := hb.le n1.le
 rcases lready_c (ce := ce) (ct := ct) R1 with c0 | ⟨hth, hv, c0⟩
 ·exact lFewer_rm (by rw [← hσ1]; exact c0) rfl
 rcases short_cases (c := cb) B1 with c1 | ⟨hlb, hrb, c1⟩
 ·exact lFewer_rl (by rw [← hσ1]; exact c0) (by rw [← hσ1]; exact c1) rfl
 by_cases hla : la ≤ 15
 rotate_left
 ·exact lFewer_ra (by rw [← hσ1]; exact c0) (by rw [← hσ1]; exact c1) rfl (by omega)
 by_cases hld : ld ≤ 15
 rotate_left
 ·exact lFewer_rb (by rw [← hσ1]; exact c0) (by rw [← hσ1]; exact c1) rfl (by omega) (by omega)
 have bE : ∀ r ∈ t.empty, r.length ≤ 1073741824 := fun r hr => by have := hth.r r hr; omega
 have bl := hth.e
 have bn := hth.n
 have hz : checkZ t = 0 := hv.check
 obtain ⟨p3, c3, q4, d4, σ7, k3, n7, g7⟩ := table_c (ce := ce) (ct := ct) R1 (by omega) (by omega) bE
 obtain ⟨p8, l8, c8, e9, σ10, k4, n10, hC⟩ := Cut_c (ce := c3) (ct := d4) g7 (by omega) (by omega) bE
 have M10 := n7.trans n10
 obtain ⟨p15, c15, q16, d16, σ19, k6, n19, g19⟩ := table_c (ce := ce) (ct := ct) (R1.le' M10.le) (by omega) (by omega) bE
 have M19 := M10.trans n19
 obtain ⟨p20, l20, c20, p21, l21, c21, e22, σ23, k7, n23, hV⟩ := Cover_c (ce := c15) (ct := d16) g19 (by omega) (by omega) bE
 have M23 := M19.trans n23
 rcases hC with ⟨hz', _, _⟩ | ⟨_, rfl, nx, bf, Bm, rfl, hF⟩
 ·exact absurd hz hz'
 rcases hV with ⟨hz', _, _, _⟩ | ⟨_, rfl, nx', bf', se, ta, Bm', wa, i1, i2⟩
 ·exact absurd hz hz'
 have hm := Bm.isMax (fun i k _ _ _ => rfl)
 have hm' := Bm'.isMax (fun i k _ _ _ => rfl)
 have hmm := hm.uniq hm'
 have hl1 := i1.len
 have hl2 := i2.len
 have hcl := cover_len wa Bm'
 have hcn := cntN_le_nn (n := lt) (P := hasB bf)
 obtain ⟨p28, c28, q29, d29, σ32, k9, n32, g32⟩ := table_c (ce := ce) (ct := ct) (R1.le' M23.le) (by omega) (by omega) bE
 have M32 := M23.trans n32
 have hFr : ∀ r ∈ blkI t lt nx bf, r.length ≤ 100000 := blkI_short hv
 obtain ⟨p33, c33, σ34, k10, n34, g34⟩ := rowsF_c (c := c8) (hF.p.le ((n19.trans n23).trans n32).le) (by omega) (fun r hr => by have := hFr r hr; omega)
 have M34 := M32.trans n34
 have k11 := ProveCut_c (ce := c28) (ct := d29) (cb := c33) (g32.le' n34.le) (by omega) (by omega) bE g34.p (by omega) hFr
 rw [decide_eq_true hz, cut_blk hv Bm.mt hnt (fun _ _ h => h)] at k11
 have k11 : CallsA Try.prog 20 [.agg ⟨tabL t p28 le c28 q29 lt d29⟩, .slice p33 (lt - cntN lt (hasB bf)) c33] σ34 (.bool true) σ34 := k11
 obtain ⟨p40, c40, q41, d41, σ44, k13, n44, g44⟩ := table_c (ce := ce) (ct := ct) (R1.le' M34.le) (by omega) (by omega) bE
 have M44 := M34.trans n44
 have L2344 := ((n32.trans n34).trans n44).le
 obtain ⟨p45, c45, σ46, k14, n46, I46, _⟩ := list_c (c := c20) (SlV.le i1 L2344) (by omega)
 obtain ⟨p47, c47, σ48, k15, n48, I48, _⟩ := list_c (c := c21) (SlV.le i2 (Le.trans L2344 n46.le)) (by omega)
 have M48 := (M44.trans n46).trans n48
 have k16 := ProveCover_c (ce := c40) (ct := d41) (ca := c45) (cb := c47) (buses := ((lt - cntN lt (hasB bf) : Nat) : Int)) ((g44.le' n46.le).le' n48.le) (by omega) (by omega) bE (SlV.le I46 n48.le) I48 (by omega) (by omega)
 rw [decide_eq_true hz, cover_is hnt wa, decide_eq_true (show ((lt - cntN lt (hasB bf) : Nat) : Int) ≤ (lt : Int) - l20 - l21 by omega)] at k16
 have k16 : CallsA Try.prog 44 [.agg ⟨tabL t p40 le c40 q41 lt d41⟩, .slice p45 l20 c45, .slice p47 l21 c47, iV ((lt - cntN lt (hasB bf) : Nat) : Int)] σ48 (.bool true) σ48 := k16
 obtain ⟨p54, c54, q55, d55, σ58, k18, n58, g58⟩ := table_c (ce := ce) (ct := ct) (R1.le' M48.le) (by omega) (by omega) bE
 have M58 := M48.trans n58
 have hrb' : ∀ r ∈ bs, r.length ≤ 100000 := fun r hr => by have := hrb r hr; omega
 obtain ⟨p59, c59, σ60, k19, n60, g60⟩ := rowsF_c (c := cb) (B1.le M58.le) (by omega) (fun r hr => by have := hrb r hr; omega)
 have M60 := M58.trans n60
 have k20 := ProveCut_c (ce := c54) (ct := d55) (cb := c59) (g58.le' n60.le) (by omega) (by omega) bE g60.p (by omega) hrb'
 rw [decide_eq_true hz, Bool.true_and] at k20
 obtain ⟨p66, c66, q67, d67, σ70, k22, n70, g70⟩ := table_c (ce := ce) (ct := ct) (R1.le' M60.le) (by omega) (by omega) bE
 have M70 := M60.trans n70
 obtain ⟨p71, c71, σ72, k23, n72, I72, _⟩ := list_c (c := ca) (SlV.le A1 M70.le) (by omega)
 have M72 := M70.trans n72
 obtain ⟨p73, c73, σ74, k24, n74, I74, _⟩ := list_c (c := cd) (SlV.le D1 M72.le) (by omega)
 have k25 := ProveCover_c (ce := c66) (ct := d67) (ca := c71) (cb := c73) (buses := ((lt - cntN lt (hasB bf) : Nat) : Int) + 1) ((g70.le' n72.le).le' n74.le) (by omega) (by omega) bE (SlV.le I72 n74.le) I74 (by omega) (by omega)
 have hla' : a.length = la := ha.len
 have hld' : d.length = ld := hd.len
 have hno : (covB t a d && decide (((lt - cntN lt (hasB bf) : Nat) : Int) + 1 ≤ (lt : Int) - la - ld)) = false := by
  cases hc : covB t a d with
  | false => rfl
  | true =>
   have := cov_max hnt hc hm
   rw [decide_eq_false (by omega)]; rfl
 rw [decide_eq_true hz, hno] at k25
 have k25 : CallsA Try.prog 44 [.agg ⟨tabL t p66 le c66 q67 lt d67⟩, .slice p71 la c71, .slice p73 ld c73, iV (((lt - cntN lt (hasB bf) : Nat) : Int) + 1)] σ74 (.bool false) σ74 := k25
 have ldT : ∀ τ, Le σ1 τ → loadA Try.prog τ 25 ⟨σ.next, 0, none⟩ = some (.agg ⟨tabL t pe le ce pt lt ct⟩) := fun τ hn => (o1.le hn).ldN agg25 size25 (k := 0) rfl rfl (by simp)
 have hbl : bs.length = lb := hb.len
 cases hcb : cutB t bs with
 | true =>
  rw [hcb] at k20
  have hmin := cut_min hnt hcb Bm
  subst hσ1
  exact lFewer_rg c0 c1 k3 k4 (ldT _ M10.le) k6 k7 (ldT _ M23.le) k9 k10 k11 (ldT _ M34.le) k13 k14 k15 k16 (ldT _ M48.le) k18 k19 k20 (ldT _ M60.le) k22 k23 k24 k25 rfl
 | false =>
  rw [hcb] at k20
  subst hσ1
  exact lFewer_ri c0 c1 k3 k4 (ldT _ M10.le) k6 k7 (ldT _ M23.le) k9 k10 k11 (ldT _ M34.le) k13 k14 k15 k16 (ldT _ M48.le) k18 k19 k20 (ldT _ M60.le) k22 k23 k24 k25 rfl
end
end Go.Proofs.Ytmdopblmkkameaa
