
import Derived.Test.YtmdopblmkkameaaRG
import Derived.Test.YtmdopblmkkameaaRW
import Derived.Test.YtmdopblmkkameaaPO
import Derived.Test.YtmdopblmkkameaaXN
namespace Go.Proofs.Ytmdopblmkkameaa
open Go Go.Lay
open Try renaming prog → Pg
set_option linter.unusedVariables false
set_option linter.unusedSimpArgs false
set_option maxRecDepth 20000
section
variable {t x : Tab} {lt : Nat}
theorem mem_folL' {i n k : Nat} : k ∈ folL t i n ↔ k < n ∧ mayI t i k = true := by simp [folL]
theorem easier_L1 {z : St} {n1 n2 : Nat} {pf pg : Option Addr} {cf cg : Nat} (hlt : lt ≤ 15) (hF : RowsF z n1 pf lt (folR t lt)) (hG : RowsF z n2 pg lt (folR x lt)) (hm : ∀ i k, mayI t i k = true → mayI x i k = true) :
  lEasier_L1 pf lt cf pg lt cg 0 z (fun _ => True) (fun _ _ => False) := by
 refine lEasier_loop1 (Inv := fun k i τ => ∃ s : Nat, i = s ∧ s + k = lt ∧ τ = z) ?_ lt 0 z ⟨0, rfl, by omega, rfl⟩
 rintro k i τ ⟨s, rfl, hk, rfl⟩
 by_cases hs : s < lt
 rotate_left
 ·exact lEasier_s1b trivial (by omega)
 obtain ⟨fa, rfl, r, q, c, hr, hl1, hI⟩ := hF.p.row hs
 obtain ⟨ga, rfl, r', q', c', hr', hl1', hI'⟩ := hG.p.row hs
 rw [folR_get hs] at hr hr'
 cases hr; cases hr'
 have lf := hl1 τ (Le.refl _)
 have lg := hl1' τ (Le.refl _)
 rw [natI_len] at hI hI' lf lg
 have bf := folL_len (t := t) (i := s) (n := lt)
 have bg := folL_len (t := x) (i := s) (n := lt)
 refine lEasier_s1a (P3 := fun τ' => τ' = τ) (Pr := fun _ _ => False) (lEasier_loop2 (Inv := fun m j τ' => ∃ u : Nat, j = u ∧ u + m = (folL t s lt).length ∧ τ' = τ) ?_ (folL t s lt).length 0 τ ⟨0, rfl, by omega, rfl⟩) ?_ (fun _ _ h => h.elim) (by omega)
 rotate_left
 ·rintro τ' rfl
  exact lEasier_t2x3a ⟨k - 1, by omega, s + 1, by omega, by omega, rfl⟩ (by omega)
 rintro m j τ' ⟨u, rfl, hu, rfl⟩
 by_cases huf : u < (folL t s lt).length
 rotate_left
 ·exact lEasier_s2b lf rfl (by omega) (by omega)
 obtain ⟨qa, rfl, v, hv, ldv⟩ := slv_at hI huf
 obtain ⟨k0, hk0, rfl⟩ := natI_get hv
 have hk0m := mem_folL'.1 (List.mem_of_getElem? hk0)
 have hmem : k0 ∈ folL x s lt := mem_folL'.2 ⟨hk0m.1, hm _ _ hk0m.2⟩
 refine lEasier_s2a lf (P5 := fun b τ1 => b = true ∧ τ1 = τ') (lEasier_loop3 (Inv := fun m b j τ1 => ∃ w : Nat, j = w ∧ w + m = (folL x s lt).length ∧ b = ((folL x s lt).take w).any (fun y => decide (y = k0)) ∧ τ1 = τ') ?_ (folL x s lt).length false 0 τ' ⟨0, rfl, by omega, by simp, rfl⟩) ?_ (by omega) (by omega)
 rotate_left
 ·rintro b τ1 ⟨rfl, rfl⟩
  exact lEasier_t3x5a ⟨m - 1, by omega, u + 1, by omega, by omega, rfl⟩ (by omega)
 rintro m' b j τ1 ⟨w, rfl, hw, rfl, rfl⟩
 by_cases hwg : w < (folL x s lt).length
 rotate_left
 ·refine lEasier_s3d lg ⟨?_, rfl⟩ (by omega) (by omega)
  rw [List.take_of_length_le (by omega)]
  exact List.any_eq_true.2 ⟨k0, hmem, by simp⟩
 obtain ⟨qb, rfl, v', hv', ldv'⟩ := slv_at hI' hwg
 obtain ⟨k1, hk1, rfl⟩ := natI_get hv'
 have e1 : ((folL x s lt).take (w + 1)).any (fun y => decide (y = k0)) = (((folL x s lt).take w).any (fun y => decide (y = k0)) || decide (k1 = k0)) := by rw [take_snoc hk1]; simp
 cases hb : ((folL x s lt).take w).any (fun y => decide (y = k0)) with
 | true => exact lEasier_s3a lg ⟨m' - 1, by omega, w + 1, by omega, by omega, by rw [e1, hb]; rfl, rfl⟩ (by omega) (by omega) (by omega)
 | false =>
  by_cases hkk : k1 = k0
  ·exact lEasier_s3b lg ldv' lf ldv ⟨m' - 1, by omega, w + 1, by omega, by omega, by rw [e1, hb, hkk]; simp, rfl⟩ (by omega) (by omega) (by omega) (by omega) (by omega) (by omega) (by omega)
  ·exact lEasier_s3c lg ldv' lf ldv ⟨m' - 1, by omega, w + 1, by omega, by omega, by rw [e1, hb]; simp [hkk], rfl⟩ (by omega) (by omega) (by omega) (by omega) (by omega) (by omega) (by omega)
theorem easier_calls {z : St} {B1 B2 : Nat} {pe pt pe' pt' : Option Addr} {le ce ct ce' ct' : Nat} (hth : ThinT t le lt) (hthx : ∀ r ∈ x.empty, r.length ≤ 15) (hv : Valid t) (hx : checkZ x = 0) (w1 : Own z B1 (tabL t pe le ce pt lt ct) 4) (w2 : Own z B2 (tabL x pe' le ce' pt' lt ct') 4) (Rt : RefP z pe le pt lt t) (Rx : RefP z pe' le pt' lt x) (hm : ∀ i k, mayI t i k = true → mayI x i k = true) :
  ∃ p1 c1 q1 d1 s1 pf cf s2 p3 c3 q3 d3 s3 pg cg s4 p5 c5 q5 d5 s5 pc lc cc s6 p7 c7 q7 d7 s7 pd ld cd s8,
   CallsA Pg 19 [.agg ⟨tabL t pe le ce pt lt ct⟩] z (.agg ⟨tabL t p1 le c1 q1 lt d1⟩) s1 ∧ CallsA Pg 32 [.agg ⟨tabL t p1 le c1 q1 lt d1⟩] s1 (.tuple ⟨[.slice pf lt cf, iV 0]⟩) s2 ∧
   loadA Pg s2 25 ⟨B2, 0, none⟩ = some (.agg ⟨tabL x pe' le ce' pt' lt ct'⟩) ∧ CallsA Pg 19 [.agg ⟨tabL x pe' le ce' pt' lt ct'⟩] s2 (.agg ⟨tabL x p3 le c3 q3 lt d3⟩) s3 ∧ CallsA Pg 32 [.agg ⟨tabL x p3 le c3 q3 lt d3⟩] s3 (.tuple ⟨[.slice pg lt cg, iV 0]⟩) s4 ∧
   loadA Pg s4 25 ⟨B1, 0, none⟩ = some (.agg ⟨tabL t pe le ce pt lt ct⟩) ∧ CallsA Pg 19 [.agg ⟨tabL t pe le ce pt lt ct⟩] s4 (.agg ⟨tabL t p5 le c5 q5 lt d5⟩) s5 ∧ CallsA Pg 18 [.agg ⟨tabL t p5 le c5 q5 lt d5⟩] s5 (.tuple ⟨[.slice pc lc cc, iV 0]⟩) s6 ∧
   loadA Pg s6 25 ⟨B2, 0, none⟩ = some (.agg ⟨tabL x pe' le ce' pt' lt ct'⟩) ∧ CallsA Pg 19 [.agg ⟨tabL x pe' le ce' pt' lt ct'⟩] s6 (.agg ⟨tabL x p7 le c7 q7 lt d7⟩) s7 ∧ CallsA Pg 18 [.agg ⟨tabL x p7 le c7 q7 lt d7⟩] s7 (.tuple ⟨[.slice pd ld cd, iV 0]⟩) s8 ∧
   loadA Pg s8 23 ⟨B1, 3, none⟩ = some (.slice pt lt ct) ∧ lEasier_L1 pf lt cf pg lt cg 0 s8 (fun _ => True) (fun _ _ => False) ∧ ld ≤ lc := by
 have bE : ∀ r ∈ t.empty, r.length ≤ 1073741824 := fun r hr => by have := hth.r r hr; omega
 have bX : ∀ r ∈ x.empty, r.length ≤ 1073741824 := fun r hr => by have := hthx r hr; omega
 have bl := hth.e
 have bn := hth.n
 have ldt : ∀ τ', Le z τ' → loadA Pg τ' 25 ⟨B1, 0, none⟩ = some (.agg ⟨tabL t pe le ce pt lt ct⟩) := fun τ' hl => (w1.le hl).ldN agg25 size25 (k := 0) rfl rfl (by simp)
 have ldx : ∀ τ', Le z τ' → loadA Pg τ' 25 ⟨B2, 0, none⟩ = some (.agg ⟨tabL x pe' le ce' pt' lt ct'⟩) := fun τ' hl => (w2.le hl).ldN agg25 size25 (k := 0) rfl rfl (by simp)
 obtain ⟨p1, c1, q1, d1, s1, k1, n1, g1⟩ := table_c (ce := ce) (ct := ct) Rt (by omega) (by omega) bE
 obtain ⟨pf, lf, cf, ef, s2, k2, n2, hf⟩ := Follows_c (ce := c1) (ct := d1) g1 (by omega) (by omega) bE
 rcases hf with ⟨hne, _⟩ | ⟨_, rfl, rfl, hF⟩
 ·exact absurd hv.check hne
 have M2 := n1.trans n2
 obtain ⟨p3, c3, q3, d3, s3, k3, n3, g3⟩ := table_c (ce := ce') (ct := ct') (Rx.le' M2.le) (by omega) (by omega) bX
 obtain ⟨pg, lg, cg, eg, s4, k4, n4, hg⟩ := Follows_c (ce := c3) (ct := d3) g3 (by omega) (by omega) bX
 rcases hg with ⟨hne, _⟩ | ⟨_, rfl, rfl, hG⟩
 ·exact absurd hx hne
 have M4 := (M2.trans n3).trans n4
 obtain ⟨p5, c5, q5, d5, s5, k5, n5, g5⟩ := table_c (ce := ce) (ct := ct) (Rt.le' M4.le) (by omega) (by omega) bE
 obtain ⟨pc, lc, cc, ec, s6, k6, n6, hc⟩ := Cut_c (ce := c5) (ct := d5) g5 (by omega) (by omega) bE
 rcases hc with ⟨hne, _⟩ | ⟨_, rfl, nx, bf, Bc, hlc, hC⟩
 ·exact absurd hv.check hne
 have M6 := (M4.trans n5).trans n6
 obtain ⟨p7, c7, q7, d7, s7, k7, n7, g7⟩ := table_c (ce := ce') (ct := ct') (Rx.le' M6.le) (by omega) (by omega) bX
 obtain ⟨pd, ld, cd, ed, s8, k8, n8, hd⟩ := Cut_c (ce := c7) (ct := d7) g7 (by omega) (by omega) bX
 rcases hd with ⟨hne, _⟩ | ⟨_, rfl, nx', bf', Bd, hld, hD⟩
 ·exact absurd hx hne
 have M8 := (M6.trans n7).trans n8
 have i1 := Bc.isMax (fun i k _ _ _ => rfl)
 have i2 := Bd.isMax (fun i k _ _ _ => rfl)
 have hle := i1.mono i2 (fun i k _ _ h => ⟨hm i k h.1, h.2⟩)
 exact ⟨p1, c1, q1, d1, s1, pf, cf, s2, p3, c3, q3, d3, s3, pg, cg, s4, p5, c5, q5, d5, s5, pc, lc, cc, s6, p7, c7, q7, d7, s7, pd, ld, cd, s8, k1, k2, ldx _ M2.le, k3, k4, ldt _ M4.le, k5, k6, ldx _ M6.le, k7, k8, (w1.le M8.le).ldI (i := 3) agg23 rfl,
  easier_L1 bn (hF.le (((((n3.trans n4).trans n5).trans n6).trans n7).trans n8).le) (hG.le (((n5.trans n6).trans n7).trans n8).le) hm, by omega⟩
end
end Go.Proofs.Ytmdopblmkkameaa
