
import Derived.Test.YtmdopblmkkameaaRV
import Derived.Test.YtmdopblmkkameaaSK
import Derived.Test.YtmdopblmkkameaaSD
import Derived.Test.YtmdopblmkkameaaSE
import Derived.Test.YtmdopblmkkameaaXS
namespace Go.Proofs.Ytmdopblmkkameaa
open Go Go.Lay
set_option linter.unusedVariables false
set_option linter.unusedSimpArgs false
set_option maxRecDepth 20000
section
variable {σ : St} {t : Tab} {pe pt : Option Addr} {le ce lt ct : Nat}
theorem lCovers_top {pa pb : Option Addr} {la ca lb cb : Nat} {a b : List Int} {buses : Int} (h : RefP σ pe le pt lt t) (ha : yU σ pa la a) (hb : yU σ pb lb b) : TopQ Try.prog 17 12 [.agg ⟨yB t pe le ce pt lt ct⟩, .slice pa la ca, .slice pb lb cb, iV buses] σ fun v _ => v = .bool true := by
 have hnt : t.nt = lt := h.len
 obtain ⟨σ1, hσ1⟩ : ∃ σ1, σ1 = σ.row (yB t pe le ce pt lt ct) 4 := ⟨_, rfl⟩
 have n1 : New σ σ1 := by rw [hσ1]; exact New.row _ _ _
 have o1 : Own σ1 σ.next (yB t pe le ce pt lt ct) 4 := by rw [hσ1]; exact zC _ _ _
 have R1 := h.le' n1.le
 have A1 : yU σ1 pa la a := SlV.le ha n1.le
 have B1 : yU σ1 pb lb b := SlV.le hb n1.le
 rcases few_c (ce := ce) (ct := ct) R1 with c0 | ⟨hth, c0⟩
 ·exact lCovers_rv (by rw [← hσ1]; exact c0) rfl
 by_cases hla : la ≤ 15
 rotate_left
 ·exact lCovers_ra (by rw [← hσ1]; exact c0) rfl (by omega)
 by_cases hlb : lb ≤ 15
 rotate_left
 ·exact lCovers_rb (by rw [← hσ1]; exact c0) rfl (by omega) (by omega)
 have bE : ∀ r ∈ t.empty, r.length ≤ 1073741824 := fun r hr => by have := hth.r r hr; omega
 have bl := hth.e
 have bn := hth.n
 obtain ⟨p4, c4, q5, c5, σ6, k2, n6, g6⟩ := table_c (ce := ce) (ct := ct) R1 (by omega) (by omega) bE
 obtain ⟨p1, l1, c1, p2, l2, c2, e, σ10, k3, n10, hC⟩ := Cover_c (ce := c4) (ct := c5) g6 (by omega) (by omega) bE
 have M10 := n6.trans n10
 obtain ⟨p16, c16, q16, d16, σ19, k5, n19, g19⟩ := table_c (ce := ce) (ct := ct) (R1.le' M10.le) (by omega) (by omega) bE
 have M19 := M10.trans n19
 obtain ⟨p20, c20, σ21, k6, n21, I21, _⟩ := list_c (c := ca) (SlV.le A1 M19.le) (by omega)
 have M21 := M19.trans n21
 obtain ⟨p22, c22, σ23, k7, n23, I23, _⟩ := list_c (c := cb) (SlV.le B1 M21.le) (by omega)
 have M23 := M21.trans n23
 have k8 := ProveCover_c (ce := c16) (ct := d16) (ca := c20) (cb := c22) (buses := buses) ((g19.le' n21.le).le' n23.le) (by omega) (by omega) bE (SlV.le I21 n23.le) I23 (by omega) (by omega)
 have ld : ∀ τ, Le σ1 τ → zB Try.prog τ 25 ⟨σ.next, 0, none⟩ = some (.agg ⟨yB t pe le ce pt lt ct⟩) := fun τ hn => (o1.le hn).ldN wT xJ (k := 0) rfl rfl (by simp)
 have k10 := fault_c (ce := ce) (ct := ct) (R1.le' M23.le) (by omega) (by omega)
 rcases hC with ⟨hz, rfl, rfl, rfl⟩ | ⟨hz, rfl, nx, bf, se, ta, Bm, wa, i1, i2⟩
 ·rw [decide_eq_false hz] at k8
  subst hσ1
  exact lCovers_rd c0 k2 k3 (ld _ M10.le) k5 k6 k7 k8 (ld _ M23.le) k10 rfl
 have hv := valid_of hz
 rw [hz] at k10
 rw [decide_eq_true hz, Bool.true_and] at k8
 have L10 : Le σ10 σ23 := ((n19.trans n21).trans n23).le
 have R23 := R1.le' M23.le
 have hl1 := i1.len
 have hl2 := i2.len
 have hcl := cover_len wa Bm
 have hcn := cntN_le_nn (n := lt) (P := uM bf)
 have k11 := rIsCover_c (ce := ce) (ct := ct) (ca := ca) (cb := cb) R23 hv (SlV.le A1 M23.le) (SlV.le B1 M23.le) (by omega) (by omega) (by omega)
 have k13 := rIsCover_c (ce := ce) (ct := ct) (ca := c1) (cb := c2) R23 hv (SlV.le i1 L10) (SlV.le i2 L10) (by omega) (by omega) (by omega)
 rw [cover_is hnt wa] at k13
 obtain ⟨p29, l29, c29, σ34, k14, n34, I34, f34⟩ := rAll_c (ce := ce) (ct := ct) (kind := -1) (cw := 0) R23 (ints_none (σ := σ23)) (by omega) (by omega)
 have hl29 : (zGD t (-1) [] lt).length = l29 := by have := I34.len; rw [zDT] at this; exact this
 rw [allL_nil] at hl29
 have R34 := R23.le' n34.le
 have k15 := rBuses_c (ce := ce) (ct := ct) (cl := c29) R34 hv I34 (fun i hi => (allL_lt hi).1) (by omega) (by omega)
 have M34 := M23.trans n34
 have hm := Bm.isMax (fun i k _ _ _ => rfl)
 rw [buses_all hnt hm] at k15
 have L34 := L10.trans n34.le
 have bt : ∀ τ, Le σ1 τ → xF RD τ.next (.agg ⟨yB t pe le ce pt lt ct⟩) = true := fun τ hl => zBX (fun a e => (R1.le' hl).em.ltb a e) (fun a e => uI (R1.le' hl).tr a e)
 have bo : ∀ τ, Le σ1 τ → σ.next < τ.next := fun τ hl => (o1.le hl).lt
 have b1 : ∀ τ, Le σ10 τ → xF RD τ.next (.slice p1 l1 c1) = true := fun τ hl => uX fun a e => uI (SlV.le i1 hl) a e
 have b2 : ∀ τ, Le σ10 τ → xF RD τ.next (.slice p2 l2 c2) = true := fun τ hl => uX fun a e => uI (SlV.le i2 hl) a e
 have b3 : ∀ τ, Le σ1 τ → xF RD τ.next (.slice pt lt ct) = true := fun τ hl => uX fun a e => uI (R1.le' hl).tr a e
 have l23 : ∀ τ, Le σ1 τ → zB Try.prog τ 23 ⟨σ.next, 3, none⟩ = some (.slice pt lt ct) := fun τ hn => (o1.le hn).ldI (i := 3) wE rfl
 have h16 : zI σ23.next [.pointer (some ⟨σ.next, 0, none⟩)] := zF (zM (bo _ M23.le)) zG
 have h17 : zI σ23.next [.agg ⟨yB t pe le ce pt lt ct⟩, .slice p1 l1 c1, .slice p2 l2 c2] := zF (bt _ M23.le) (zF (b1 _ L10) (zF (b2 _ L10) zG))
 have h18 : zI σ23.next [.pointer (some ⟨σ.next, 3, none⟩)] := zF (zM (bo _ M23.le)) zG
 have h19 : zI σ23.next [.slice pt lt ct] := zF (b3 _ M23.le) zG
 have h20 : zI σ23.next [.slice p1 l1 c1] := zF (b1 _ L10) zG
 have h21 : zI σ23.next [.slice p2 l2 c2] := zF (b2 _ L10) zG
 have h22 : zI σ23.next [.agg ⟨yB t pe le ce pt lt ct⟩, iV (-1), .slice none 0 0] := zF (bt _ M23.le) (zF rfl (zF rfl zG))
 have h23 : zI σ34.next [.agg ⟨yB t pe le ce pt lt ct⟩, .slice p29 l29 c29] := zF (bt _ M34.le) (zF (uX fun a e => uI I34 a e) zG)
 have h26 : ∀ τ, Le σ1 τ → ((zI τ.next [.slice pt lt ct] ∧ zJ RD (iV ((lt : Nat) : Int)) = true) ∧ Callee.builtin .len = Callee.builtin .len ∧ yN Try.prog (evL [.slice pt lt ct]) τ (.call { callee := .builtin .len, args := ⟨yI 1⟩, argTypes := ⟨[23]⟩ }) = some (iV ((lt : Nat) : Int))) := fun τ hl => ⟨⟨zF (b3 _ hl) zG, rfl⟩, rfl, rfl⟩
 have h28 : ∀ τ, Le σ10 τ → ((zI τ.next [.slice p1 l1 c1] ∧ zJ RD (iV ((l1 : Nat) : Int)) = true) ∧ Callee.builtin .len = Callee.builtin .len ∧ yN Try.prog (evL [.slice p1 l1 c1]) τ (.call { callee := .builtin .len, args := ⟨yI 1⟩, argTypes := ⟨[41]⟩ }) = some (iV ((l1 : Nat) : Int))) := fun τ hl => ⟨⟨zF (b1 _ hl) zG, rfl⟩, rfl, rfl⟩
 have h30 : ∀ τ, Le σ10 τ → ((zI τ.next [.slice p2 l2 c2] ∧ zJ RD (iV ((l2 : Nat) : Int)) = true) ∧ Callee.builtin .len = Callee.builtin .len ∧ yN Try.prog (evL [.slice p2 l2 c2]) τ (.call { callee := .builtin .len, args := ⟨yI 1⟩, argTypes := ⟨[41]⟩ }) = some (iV ((l2 : Nat) : Int))) := fun τ hl => ⟨⟨zF (b2 _ hl) zG, rfl⟩, rfl, rfl⟩
 have h24 : ∀ τ, Le σ1 τ → (((⟨σ.next, 3, none⟩ : Addr).block < τ.next ∧ zJ RD (.slice pt lt ct) = true) ∧ zB Try.prog τ 23 ⟨σ.next, 3, none⟩ = some (.slice pt lt ct)) := fun τ hl => ⟨⟨bo _ hl, rfl⟩, l23 _ hl⟩
 have h32 : ∀ τ, Le σ1 τ → (((⟨σ.next, 0, none⟩ : Addr).block < τ.next ∧ zJ RD (.agg ⟨yB t pe le ce pt lt ct⟩) = true) ∧ zB Try.prog τ 25 ⟨σ.next, 0, none⟩ = some (.agg ⟨yB t pe le ce pt lt ct⟩)) := fun τ hl => ⟨⟨bo _ hl, rfl⟩, ld _ hl⟩
 have hu : ((lt : Int) - (l1 : Int)) - (l2 : Int) = ((lt - yZ lt (uM bf) : Nat) : Int) := by omega
 cases hcb : covB t a b with
 | false =>
  rw [hcb] at k8 k11
  subst hσ1
  exact lCovers_rr c0 k2 k3 (ld _ M10.le) k5 k6 k7 k8 (ld _ M23.le) k10 k11 k13 (l23 _ M23.le) k14 k15 h16 h17 h18 h19 h20 h21 h22 h23 (h24 _ M23.le) (h24 _ M34.le) (h26 _ M23.le) (h26 _ M34.le) (h28 _ L10) (h28 _ L34) (h30 _ L10) (h30 _ L34) (h32 _ M23.le) (h32 _ M34.le) rfl
 | true =>
  rw [hcb, Bool.true_and] at k8
  rw [hcb] at k11
  by_cases hbz : buses ≤ (lt : Int) - la - lb
  ·rw [decide_eq_true hbz] at k8
   subst hσ1
   exact lCovers_rg c0 k2 k3 (ld _ M10.le) k5 k6 k7 k8 (ld _ M23.le) k10 k11 (l23 _ M23.le) k13 k14 k15 h16 h17 h18 h19 h20 h21 h22 h23 (h24 _ M23.le) (h24 _ M34.le) (h26 _ M23.le) (h26 _ M34.le) (h28 _ L10) (h28 _ L34) (h30 _ L10) (h30 _ L34) (h32 _ M23.le) (h32 _ M34.le) rfl
  ·rw [decide_eq_false hbz] at k8
   subst hσ1
   exact lCovers_rm c0 k2 k3 (ld _ M10.le) k5 k6 k7 k8 (ld _ M23.le) k10 k11 (l23 _ M23.le) k13 k14 k15 h16 h17 h18 h19 h20 h21 h22 h23 (h24 _ M23.le) (h24 _ M34.le) (h26 _ M23.le) (h26 _ M34.le) (h28 _ L10) (h28 _ L34) (h30 _ L10) (h30 _ L34) (h32 _ M23.le) (h32 _ M34.le) rfl
end
end Go.Proofs.Ytmdopblmkkameaa
