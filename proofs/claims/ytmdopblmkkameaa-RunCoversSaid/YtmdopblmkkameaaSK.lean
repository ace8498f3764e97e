
import Derived.Test.YtmdopblmkkameaaSJ
namespace Go.Proofs.Ytmdopblmkkameaa
open Go Go.Lay
set_option linter.unusedVariables false
set_option linter.unusedSimpArgs false
set_option maxRecDepth 20000
section
variable {σ : St} {t : Tab} {pe pt : Option Addr} {le ce lt ct : Nat}
theorem ProveCover_c {pa pb : Option Addr} {la ca lb cb : Nat} {a b : List Int} {buses : Int} (h : TabP σ pe le pt lt t) (hle : le ≤ 1073741824) (hlt : lt ≤ 100000) (hre : ∀ r ∈ t.empty, r.length ≤ 1073741824) (ha : yU σ pa la a) (hb : yU σ pb lb b) (hla : la ≤ 100000) (hlb : lb ≤ 100000) :
  zD Try.prog 44 [.agg ⟨yB t pe le ce pt lt ct⟩, .slice pa la ca, .slice pb lb cb, iV buses] σ (.bool (decide (vS t = 0) && (covB t a b && decide (buses ≤ (lt : Int) - la - lb)))) σ := by
 suffices hmain : zN Try.prog 44 [.agg ⟨yB t pe le ce pt lt ct⟩, .slice pa la ca, .slice pb lb cb, iV buses] σ.re fun v s => v = .bool (decide (vS t = 0) && (covB t a b && decide (buses ≤ (lt : Int) - la - lb))) ∧ σ.next ≤ s.low from zN.pure hmain
 have hnt : t.nt = lt := h.len
 obtain ⟨σ1, hσ1⟩ : ∃ σ1, σ1 = ((σ.re.row (yB t pe le ce pt lt ct) 4).row [.slice pa la ca] 1).row [.slice pb lb cb] 1 := ⟨_, rfl⟩
 have n1 : New σ.re σ1 := by rw [hσ1]; exact (New.row _ _ _).row'.row'
 have nx1 : σ1.next = σ.next + 3 := by rw [hσ1]; rfl
 have h1 : TabP σ1 pe le pt lt t := (h.le' (le0 σ)).le' n1.le
 have ha1 : yU σ1 pa la a := SlV.le (SlV.le ha (le0 σ)) n1.le
 have hb1 : yU σ1 pb lb b := SlV.le (SlV.le hb (le0 σ)) n1.le
 have ck := check_c (ce := ce) (ct := ct) h1 hle (by omega) hre
 by_cases hz : vS t = 0
 rotate_left
 ·subst hσ1
  exact vProveCover_ra ck ⟨by rw [decide_eq_false hz]; rfl, n1.lw⟩ hz
 have hv := valid_of hz
 rw [hz] at ck
 rw [decide_eq_true hz, Bool.true_and]
 unfold covB
 rw [hnt]
 have r1 := rising_c (t := t) (pe := pe) (pt := pt) (le := le) (ce := ce) (ct := ct) (c := ca) hlt ha1 hla
 have r2 := rising_c (t := t) (pe := pe) (pt := pt) (le := le) (ce := ce) (ct := ct) (c := cb) hlt hb1 hlb
 cases hA : zAD lt (-1) a with
 | false =>
  rw [hA] at r1
  subst hσ1
  exact vProveCover_rd ck r1 ⟨rfl, n1.lw⟩ rfl
 | true =>
 rw [hA] at r1
 cases hB : zAD lt (-1) b with
 | false =>
  rw [hB] at r2
  subst hσ1
  exact vProveCover_rc ck r1 r2 ⟨rfl, n1.lw⟩ rfl
 | true =>
 rw [hB] at r2
 rw [Bool.true_and, Bool.true_and]
 obtain ⟨σ2, hσ2⟩ : ∃ σ2, σ2 = (σ1.row [.bool false] 1).own (σ.next + 3) [.bool true] 1 := ⟨_, rfl⟩
 have n2 : New σ1 σ2 := by rw [hσ2]; exact (New.row _ _ _).own (by omega)
 have oc2 : Own σ2 (σ.next + 3) [.bool true] 1 := by rw [hσ2, ← nx1]; exact (zC _ _ _).put
 have ot1 : Own σ1 σ.next (yB t pe le ce pt lt ct) 4 := by rw [hσ1]; exact ((zC σ.re (yB t pe le ce pt lt ct) 4).row).row
 have oa1 : Own σ1 (σ.next + 1) [.slice pa la ca] 1 := by rw [hσ1]; exact (zC (σ.re.row (yB t pe le ce pt lt ct) 4) [.slice pa la ca] 1).row
 have ob1 : Own σ1 (σ.next + 2) [.slice pb lb cb] 1 := by rw [hσ1]; exact zC ((σ.re.row (yB t pe le ce pt lt ct) 4).row [.slice pa la ca] 1) [.slice pb lb cb] 1
 obtain ⟨a1, σ4, c1, n4, oa⟩ := pairs_own (σ := σ2) (t := t) (pe := pe) (le := le) (ce := ce) (pt := pt) (lt := lt) (ct := ct)
 have n24 := n2.trans n4
 have N4 : New σ.re σ4 := n1.trans n24
 have wt := ot1.le n24.le
 have wa := oa1.le n24.le
 have wb := ob1.le n24.le
 have wc := oc2.le n4.le
 have hc := oc2.lt
 have ha1' : a1 ≠ σ.next + 3 := fun e => by
  have h1 := oa.get; have h2 := wc.get
  rw [e, h2] at h1; cases h1
 have fin : ∀ z : St, yE z.heap σ4.next = some .defd → (∀ m, m ≤ σ.next → m ≤ σ4.low → m ≤ z.low) → ∃ s_end, ShutR [σ4.next] z s_end ∧ σ.next ≤ s_end.low := fun z hd hlow => by
  obtain ⟨s_end, e1, e2, e3, e4⟩ := shut_all (σ := z) (ms := [σ4.next]) (fun m hm => by rw [List.mem_singleton] at hm; subst hm; exact hd) (by simp)
  refine ⟨s_end, e1, e4 _ (hlow _ (Nat.le_refl _) (N4.low _ (Nat.le_refl _) (Nat.le_refl _))) (fun d hd => ?_)⟩
  rw [List.mem_singleton] at hd; subst hd
  have := N4.nx; exact this
 have e3 := (ot1.le n2.le).ldN (P := Try.prog) (t := 34) wB yY (k := 0) rfl rfl (by simp)
 subst hσ1
 subst hσ2
 refine vProveCover_rb (Pn := fun z => Le σ.re z ∧ Own z σ.next (yB t pe le ce pt lt ct) 4 ∧ Own z (σ.next + 1) [.slice pa la ca] 1 ∧ Own z (σ.next + 2) [.slice pb lb cb] 1 ∧ Own z (σ.next + 3) [.bool true] 1 ∧ covP t a b = true ∧ yE z.heap σ4.next = some .defd ∧ ∀ m, m ≤ σ.next → m ≤ σ4.low → m ≤ z.low) (P0 := fun z => Own z (σ.next + 3) [.bool false] 1 ∧ covP t a b = false ∧ yE z.heap σ4.next = some .defd ∧ ∀ m, m ≤ σ.next → m ≤ σ4.low → m ≤ z.low) ck r1 r2 c1
  (cov_range (σ0 := σ.re) (a1 := a1) (ca := ca) (cb := cb) (ce := ce) (ct := ct) (le := le) (pe := pe) (pt := pt) (t := t) (a := a) (b := b) (h.le' (le0 σ)) hv hlt (SlV.le ha (le0 σ)) (SlV.le hb (le0 σ)) hla hlb (n0 := σ.next) rfl N4.le oa wt wa wb wc (by omega) (by omega) (by omega) ha1' (by omega) _ _ (fun z z1 z2 z3 z4 z5 z6 z7 _ z8 => ⟨z1, z2, z3, z4, z5, z6, z7, z8⟩) (fun z _ z2 z3 z4 _ z5 => ⟨z2, z3, z4, z5⟩)) ?_ ?_ rfl
 ·rintro z ⟨z1, z2, z3, z4, z5, z6, z7, z8⟩
  obtain ⟨s_end, e1, e2⟩ := fin z z7 z8
  have l2 : zB Try.prog z 32 ⟨σ.next, 3, none⟩ = some (.slice pt lt ct) := z2.ldI (i := 3) zEB rfl
  rw [z6, Bool.true_and]
  by_cases hbz : buses ≤ (lt : Int) - la - lb
  ·exact vProveCover_t1xna (z5.ldI (i := 0) agg4 rfl) l2 (z3.ldI (i := 0) zBU rfl) (z4.ldI (i := 0) zBU rfl) e1 ⟨by rw [decide_eq_true hbz], e2⟩ (by omega) (by omega) hbz
  ·exact vProveCover_t1xnb (z5.ldI (i := 0) agg4 rfl) l2 (z3.ldI (i := 0) zBU rfl) (z4.ldI (i := 0) zBU rfl) e1 ⟨by rw [decide_eq_false hbz], e2⟩ (by omega) (by omega) hbz
 ·rintro z ⟨z1, z2, z3, z4⟩
  obtain ⟨s_end, e1, e2⟩ := fin z z3 z4
  exact vProveCover_t1x0c (z1.ldI (i := 0) agg4 rfl) e1 ⟨by rw [z2]; rfl, e2⟩
end
end Go.Proofs.Ytmdopblmkkameaa
