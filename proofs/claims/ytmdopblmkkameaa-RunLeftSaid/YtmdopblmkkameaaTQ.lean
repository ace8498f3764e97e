
import Derived.Test.YtmdopblmkkameaaTO
import Derived.Test.YtmdopblmkkameaaRP
import Derived.Test.YtmdopblmkkameaaTy
import Derived.Test.YtmdopblmkkameaaPS
import Derived.Test.YtmdopblmkkameaaRO
import Derived.Test.YtmdopblmkkameaaSA
import Derived.Test.YtmdopblmkkameaaRW
import Derived.Test.YtmdopblmkkameaaXZ1
namespace Go.Proofs.Ytmdopblmkkameaa
open Go Go.Lay
open Try renaming prog → Pg
set_option linter.unusedVariables false
set_option linter.unusedSimpArgs false
set_option maxRecDepth 20000
section
variable {t : Tab}
theorem fw_need (hv : Valid t) {ws : List Int} {k : Nat} {v : Int} (h : Fw t ws t.nt k v) : v = yG t (aB t (-1) ws) k := by
 obtain ⟨m, h1, rfl⟩ := h
 obtain ⟨b, hb⟩ := zJD t.nt (fun x y => EdS t (aB t (-1) ws) x y ∧ kdT t x = (k : Int))
 have e := names_k hv (by omega) h1 hb
 subst e
 rw [needN_eq hv hb]
 have : (zFH t k ws t.nt).length = yR t.nt (kS t (aB t (-1) ws) k) := by
  unfold zFH
  rw [zFP]
  refine xT fun i hi => ?_
  unfold kS
  rw [aB_all]
  unfold aB
  rw [kindB_eq (by omega) hi, Bool.and_comm]
 rw [this]
theorem ris_ri {n : Nat} : ∀ {x : List Nat} {m : Nat}, riN n m x → risF n ((m : Int) - 1) (wI x) = true
 | [], _, _ => rfl
 | a :: x, m, h => by
  show (inB (a : Int) (((m : Int) - 1) + 1) ((n : Int) - 1) && risF n (a : Int) (wI x)) = true
  have ih := ris_ri h.2.2
  have e : ((a + 1 : Nat) : Int) - 1 = (a : Int) := by omega
  rw [e] at ih
  rw [vO.2 ⟨by have := h.1; omega, by have := h.2.1; omega⟩, ih]; rfl
theorem ri_ris {n : Nat} : ∀ {ws : List Int} {m : Nat}, risF n ((m : Int) - 1) ws = true → ∃ x, ws = wI x ∧ riN n m x
 | [], _, _ => ⟨[], rfl, trivial⟩
 | w :: ws, m, h => by
  have h : (inB w (((m : Int) - 1) + 1) ((n : Int) - 1) && risF n w ws) = true := h
  simp only [Bool.and_eq_true] at h
  have hb := vO.1 h.1
  obtain ⟨a, rfl⟩ : ∃ a : Nat, w = a := ⟨w.toNat, by omega⟩
  have e : (a : Int) = ((a + 1 : Nat) : Int) - 1 := by omega
  rw [e] at h
  obtain ⟨x, rfl, hx⟩ := ri_ris h.2
  exact ⟨a :: x, rfl, by omega, by omega, hx⟩
theorem en_le {f g : List Int} {S : Nat → Bool} (h : ∀ k, k < 3 → f.getD k 0 ≤ g.getD k 0) (he : enS t f S = true) : enS t g S = true := by
 unfold enS at he ⊢
 simp only [Bool.and_eq_true, decide_eq_true_eq] at he ⊢
 have h0 := h 0 (by omega); have h1 := h 1 (by omega); have h2 := h 2 (by omega)
 exact ⟨⟨by omega, by omega⟩, by omega⟩
theorem en_iff {f : List Int} {S : Nat → Bool} : enS t f S = true ↔ (yG t S 0 : Int) ≤ f.getD 0 0 ∧ (yG t S 1 : Int) ≤ f.getD 1 0 ∧ (yG t S 2 : Int) ≤ f.getD 2 0 := by
 unfold enS; simp only [Bool.and_eq_true, decide_eq_true_eq, and_assoc]
theorem zJB {x : List Nat} {k : Int} : yG t (aB t (-1) (wI x)) k = yG t (mns (fun _ => true) x) k := zFM fun i _ => aB_mns
end
section
variable {σ : St} {t : Tab} {pe pt : Option Addr} {le ce lt ct : Nat}
theorem ints_own {z : St} {b : Nat} {xs : List Int} (o : Own z b (xs.map xK) 1) : yZ z (some ⟨b, 0, none⟩) xs.length xs :=
 ⟨⟨by rw [zGV]; simp, by rw [zGV]; exact o.rw⟩, by simp, fun v hv => by obtain ⟨x, _, rfl⟩ := List.mem_map.1 hv; exact zCH x⟩
theorem lLeft_top {pw : Option Addr} {lw cw : Nat} {ws : List Int} {g0 g1 g2 kd : Int} (h : RefP σ pe le pt lt t) (hg : (0 ≤ g0 ∧ g0 ≤ 255) ∧ (0 ≤ g1 ∧ g1 ≤ 255) ∧ (0 ≤ g2 ∧ g2 ≤ 255)) (hkd : 0 ≤ kd ∧ kd ≤ 255) (hw : yZ σ pw lw ws) : TopQ Pg 17 6 [.agg ⟨yE t pe le ce pt lt ct⟩, .agg ⟨[.int .u8 g0, .int .u8 g1, .int .u8 g2]⟩, .int .u8 kd, .slice pw lw cw] σ fun v _ => v = .bool true := by
 have hnt : t.nt = lt := h.len
 obtain ⟨σ1, hσ1⟩ : ∃ σ1, σ1 = (σ.row (yE t pe le ce pt lt ct) 4).row [.int .u8 g0, .int .u8 g1, .int .u8 g2] 1 := ⟨_, rfl⟩
 have n1 : New σ σ1 := by rw [hσ1]; exact (New.row _ _ _).row'
 have nx1 : σ1.next = σ.next + 2 := by rw [hσ1]; rfl
 have o1 : Own σ1 σ.next (yE t pe le ce pt lt ct) 4 := by rw [hσ1]; exact (zC σ (yE t pe le ce pt lt ct) 4).row
 have R1 := h.le' n1.le
 have W1 : yZ σ1 pw lw ws := SlV.le hw n1.le
 rcases lready_c (ce := ce) (ct := ct) R1 with c0 | ⟨hth, hv, c0⟩
 ·exact lLeft_ro (by rw [← hσ1]; exact c0) rfl
 by_cases hlw : lw ≤ 15
 rotate_left
 ·exact lLeft_ra (by rw [← hσ1]; exact c0) rfl (by omega)
 have bE : ∀ r ∈ t.empty, r.length ≤ 1073741824 := fun r hr => by have := hth.r r hr; omega
 have bl := hth.e
 have bn := hth.n
 have hz : xR t = 0 := hv.check
 have hn12 : lt ≤ 12 := by
  have hz' := hz
  unfold xR at hz'
  by_cases h12 : 12 < t.nt
  ·rw [if_pos h12] at hz'; cases hz'
  ·omega
 have m13 : ∀ x : Int, 0 ≤ x → 0 ≤ Int.tmod x 13 ∧ Int.tmod x 13 ≤ 12 := fun x hx => by rw [Int.tmod_eq_emod_of_nonneg hx]; omega
 obtain ⟨f0, hf0⟩ : ∃ f0, f0 = Int.tmod g0 13 := ⟨_, rfl⟩
 obtain ⟨f1, hf1⟩ : ∃ f1, f1 = Int.tmod g1 13 := ⟨_, rfl⟩
 obtain ⟨f2, hf2⟩ : ∃ f2, f2 = Int.tmod g2 13 := ⟨_, rfl⟩
 have b0 := m13 g0 hg.1.1; have b1 := m13 g1 hg.2.1.1; have b2 := m13 g2 hg.2.2.1
 rw [← hf0] at b0; rw [← hf1] at b1; rw [← hf2] at b2
 obtain ⟨kk, hkk⟩ : ∃ kk : Nat, Int.tmod kd 3 = kk := ⟨(Int.tmod kd 3).toNat, by rw [Int.tmod_eq_emod_of_nonneg hkd.1]; omega⟩
 have hk3 : kk < 3 := by rw [Int.tmod_eq_emod_of_nonneg hkd.1] at hkk; omega
 obtain ⟨f, hf⟩ : ∃ f : List Int, f = [f0, f1, f2] := ⟨_, rfl⟩
 have hflen : f.length = 3 := by rw [hf]; rfl
 have hfb : zBH f = true := by
  rw [hf]; unfold zBH
  simp [inB, b0, b1, b2]
 have hgd : f.getD 0 0 = f0 ∧ f.getD 1 0 = f1 ∧ f.getD 2 0 = f2 := by rw [hf]; exact ⟨rfl, rfl, rfl⟩
 obtain ⟨s2, hs2⟩ : ∃ s2, s2 = σ1.row [iV f0, iV f1, iV f2] 1 := ⟨_, rfl⟩
 have n2 : New σ1 s2 := by rw [hs2]; exact New.row _ _ _
 have of2 : Own s2 (σ.next + 2) (f.map xK) 1 := by rw [hs2, ← nx1, hf]; exact zC _ _ _
 have if2 : yZ s2 (some ⟨σ.next + 2, 0, none⟩) 3 f := by have := ints_own of2; rw [hflen] at this; exact this
 obtain ⟨p2, c2, σ3, k2, n3, a3⟩ := list_a (c := 3) if2 (by omega)
 have i3 : yZ σ3 p2 3 f := by have := app_i (r := f) (c := c2) (p := p2) (by rw [hflen]; exact a3); rw [hflen] at this; exact this
 obtain ⟨x, hx⟩ : ∃ x, f[kk]? = some x := ⟨f[kk]'(by omega), by simp⟩
 obtain ⟨q2, rfl, x', hx', l3⟩ := uX i3 hk3
 rw [hx] at hx'; cases hx'
 have hxb : 0 ≤ x ∧ x ≤ 12 := by
  unfold zBH at hfb
  simp only [Bool.and_eq_true] at hfb
  exact vO.1 (List.all_eq_true.1 hfb.2 x (List.mem_of_getElem? hx))
 obtain ⟨σ6, st6, a6, k6⟩ := app_st (P := Pg) (t := 3) (v := iV (min 12 (x + 1))) (i := kk) a3 rfl size3 rfl hk3
 have hq2 : s2.next ≤ q2.block := a3.ge q2 rfl
 obtain ⟨g, hgm⟩ : ∃ g : List Int, g = f.set kk (min 12 (x + 1)) := ⟨_, rfl⟩
 have hglen : g.length = 3 := by rw [hgm, List.length_set]; exact hflen
 have i6 : yZ σ6 (some q2) 3 g := by
  have e : (f.map xK).set kk (iV (min 12 (x + 1))) = g.map xK := by rw [hgm, List.map_set]
  rw [e] at a6
  have := app_i (r := g) (c := c2) (p := some q2) (by rw [hglen]; exact a6); rw [hglen] at this; exact this
 have hge : ∀ k, k < 3 → f.getD k 0 ≤ g.getD k 0 := fun k hk => by
  rw [hgm, List.getD_eq_getElem?_getD, List.getD_eq_getElem?_getD]
  by_cases e : kk = k
  ·subst e
   rw [List.getElem?_set_self (by omega), hx]
   show x ≤ min 12 (x + 1)
   omega
  ·rw [List.getElem?_set_ne e]; omega
 have hgb : zBH g = true := by
  unfold zBH
  rw [decide_eq_true hglen, Bool.true_and]
  unfold zBH at hfb
  simp only [Bool.and_eq_true] at hfb
  refine List.all_eq_true.2 fun y hy => ?_
  rw [hgm] at hy
  rcases List.mem_or_eq_of_mem_set hy with hy | rfl
  ·exact List.all_eq_true.1 hfb.2 y hy
  ·exact vO.2 ⟨by omega, by omega⟩
 have N3 := n2.trans n3
 have n36 : New σ1 σ6 := N3.of_only k6 (by rintro b rfl; have := n2.nx; omega)
 have R6 := R1.le' n36.le
 have ld25 : ∀ u, Le σ1 u → zB Pg u 25 ⟨σ.next, 0, none⟩ = some (.agg ⟨yE t pe le ce pt lt ct⟩) := fun u hu => (o1.le hu).ldN zAP wV (k := 0) rfl rfl (by simp)
 have of3 := of2.le n3.le
 have hs3 : s2.next = σ.next + 3 := by
  rw [hs2]
  show σ1.next + 1 = _
  omega
 have hne6 : σ.next + 2 ≠ q2.block := by omega
 have of6 : Own σ6 (σ.next + 2) (f.map xK) 1 := k6.own' of3 hne6
 have if6 : ∀ u, Le σ6 u → yZ u (some ⟨σ.next + 2, 0, none⟩) 3 f := fun u hu => by have := ints_own (of6.le hu); rw [hflen] at this; exact this
 obtain ⟨p11, c11, q13, d13, σ15, k7, n15, g15⟩ := table_c (ce := ce) (ct := ct) R6 (by omega) (by omega) bE
 obtain ⟨p16, c16, σ17, k8, n17, I17, _⟩ := list_c (c := 3) (if6 _ n15.le) (by omega)
 obtain ⟨p18, l18, c18, e19, σ20, k9, n20, hC⟩ := Lacks_c (ce := c11) (ct := d13) (cf := c16) (g15.le' n17.le) (by omega) (by omega) bE I17 (by omega)
 have M20 := (n15.trans n17).trans n20
 have N20 := n36.trans M20
 obtain ⟨p25, c25, q27, d27, σ29, k11, n29, g29⟩ := table_c (ce := ce) (ct := ct) (R1.le' N20.le) (by omega) (by omega) bE
 have M29 := M20.trans n29
 obtain ⟨p30, l30, c30, e31, σ32, k12, n32, hD⟩ := Lacks_c (ce := c25) (ct := d27) (cf := c2) g29 (by omega) (by omega) bE (SlV.le i6 M29.le) (by omega)
 have M32 := M29.trans n32
 have N32 := n36.trans M32
 rcases hC with ⟨hz', _⟩ | ⟨_, hb', _⟩ | ⟨_, _, rfl, xl, hxl, hl⟩
 ·exact absurd hz hz'
 ·rw [hfb] at hb'; cases hb'
 rcases hD with ⟨hz', _⟩ | ⟨_, hb', _⟩ | ⟨_, _, rfl, yl, hyl, hm⟩
 ·exact absurd hz hz'
 ·rw [hgb] at hb'; cases hb'
 have hl18 := hxl.len; rw [zBL] at hl18
 have hl30 := hyl.len; rw [zBL] at hl30
 have hlen := (hm.le xl hl.ri (en_le hge hl.en)).1
 have hl12 : xl.length ≤ 12 := by have := (hl.le _ (riN_range t.nt t.nt 0 (by omega)) (en_all hfb)).1; simp at this; omega
 have R32 := R1.le' N32.le
 have eFw : ∀ {ws : List Int} {k : Nat} {v : Int}, Fw t ws lt k v → v = yG t (aB t (-1) ws) k := fun hh => fw_need hv (by rw [hnt]; exact hh)
 obtain ⟨v, k14, hv3⟩ := fewest_c (ce := ce) (ct := ct) (cw := 0) R32 hv (ints_none (σ := σ32)) (by omega)
 have v0 := eFw (hv3 0 (by omega)); have v1 := eFw (hv3 1 (by omega)); have v2 := eFw (hv3 2 (by omega))
 have hnil : (yG t (mns (fun _ => true) []) 0 : Int) = v 0 ∧ (yG t (mns (fun _ => true) []) 1 : Int) = v 1 ∧ (yG t (mns (fun _ => true) []) 2 : Int) = v 2 := by
  rw [v0, v1, v2]
  exact ⟨by rw [← zJB]; rfl, by rw [← zJB]; rfl, by rw [← zJB]; rfl⟩
 obtain ⟨sA, hsA⟩ : ∃ sA, sA = (σ32.row [iV 0, iV 0, iV 0] 1).own σ32.next [iV (v 0), iV (v 1), iV (v 2)] 1 := ⟨_, rfl⟩
 have nA : New σ32 sA := by rw [hsA]; exact (New.row _ _ _).own (Nat.le_refl _)
 have nxA : sA.next = σ32.next + 1 := by rw [hsA]; rfl
 obtain ⟨sB, hsB⟩ : ∃ sB, sB = (sA.row [.slice none 0 0, .slice none 0 0] 1).own (σ32.next + 1) [.slice p18 l18 c18, .slice pw lw cw] 1 := ⟨_, rfl⟩
 have nB : New sA sB := by rw [hsB]; exact (New.row _ _ _).own (by omega)
 have oB : Own sB (σ32.next + 1) [.slice p18 l18 c18, .slice pw lw cw] 1 := by rw [hsB, ← nxA]; exact (zC _ _ _).put
 have L6A : Le σ6 sA := (M32.trans nA).le
 have L20A : Le σ20 sA := ((n29.trans n32).trans nA).le
 have LA : Le σ1 sA := (N32.trans nA).le
 have kr := rRising_c (ce := ce) (ct := ct) (c := c18) (R1.le' LA) (SlV.le hxl L20A) (by omega) (by omega)
 have hrx : risF lt (-1) (wI xl) = true := by have := ris_ri hl.ri; rw [hnt] at this; exact this
 rw [hrx] at kr
 have lf : ∀ u, Le σ6 u → ∀ (k : Nat) (y : Int), f[k]? = some y → zB Pg u 3 ⟨σ.next + 2, k, none⟩ = some (iV y) := fun u hu k y hk => by
  have := (of6.le hu).ldI (P := Pg) (t := 3) (i := k) (v := iV y) yB (by rw [List.getElem?_map, hk]; rfl)
  simpa [zK] using this
 have lf0 : ∀ u, Le σ6 u → zB Pg u 3 ⟨σ.next + 2, 0, none⟩ = some (iV f0) := fun u hu => lf u hu 0 f0 (by rw [hf]; rfl)
 have lf1 : ∀ u, Le σ6 u → zB Pg u 3 ⟨σ.next + 2, 1, none⟩ = some (iV f1) := fun u hu => lf u hu 1 f1 (by rw [hf]; rfl)
 have lf2 : ∀ u, Le σ6 u → zB Pg u 3 ⟨σ.next + 2, 2, none⟩ = some (iV f2) := fun u hu => lf u hu 2 f2 (by rw [hf]; rfl)
 have L20B : Le σ20 sB := L20A.trans nB.le
 have L6B := L6A.trans nB.le
 have LB := LA.trans nB.le
 have hL : zGQ pw lw cw σ.next (σ.next + 2) p18 l18 c18 (σ32.next + 1) 0 sB (fun _ _ => False) (fun _ => True) := by
  refine lLeft_loop1 (Inv := fun k i τ => ∃ s : Nat, i = s ∧ s + k = 2 ∧ Le sB τ) ?_ 2 0 sB ⟨0, rfl, rfl, Le.refl _⟩
  rintro k i τ ⟨s, rfl, hk, hle⟩
  by_cases hs : s < 2
  rotate_left
  ·exact lLeft_s1u trivial (by omega)
  have Rτ := R1.le' (LB.trans hle)
  have bo : σ.next < τ.next := (o1.le (LB.trans hle)).lt
  have bo2 : σ32.next + 1 < τ.next := (oB.le hle).lt
  obtain ⟨u, hu⟩ : ∃ u : (Nat → Int) → St, u = fun v => (τ.row [iV 0, iV 0, iV 0] 1).own τ.next [iV (v 0), iV (v 1), iV (v 2)] 1 := ⟨_, rfl⟩
  have nr : Le τ (τ.row [iV 0, iV 0, iV 0] 1) := Le.row _ _ _
  have nu : ∀ v, Le τ (u v) := fun v => by rw [hu]; exact ((New.row _ _ _).own (Nat.le_refl _)).le
  have bt : xO RD τ.next (.agg ⟨yE t pe le ce pt lt ct⟩) = true := uU (fun a e => Rτ.em.ltb a e) (fun a e => xZ Rτ.tr a e)
  have L6τ := L6B.trans hle
  by_cases hs0 : s = 0
  ·subst hs0
   have lB : ∀ z, Le τ z → zB Pg z 41 ⟨σ32.next + 1, 0 + Int.toNat ((0 : Nat) : Int) * 1, none⟩ = some (.slice p18 l18 c18) := fun z hz => ((oB.le hle).le hz).ldI (i := 0) zCB rfl
   have I18 : yZ τ p18 l18 (wI xl) := SlV.le hxl (L20B.trans hle)
   have kr' := rRising_c (ce := ce) (ct := ct) (c := c18) Rτ I18 (by omega) (by omega)
   rw [hrx] at kr'
   obtain ⟨v', k4, hv4⟩ := fewest_c (ce := ce) (ct := ct) (cw := c18) Rτ hv I18 (by omega)
   have e0 := eFw (hv4 0 (by omega)); have e1 := eFw (hv4 1 (by omega)); have e2 := eFw (hv4 2 (by omega))
   rw [zJB] at e0 e1 e2
   have hen := en_iff.1 hl.en
   rw [hgd.1, hgd.2.1, hgd.2.2] at hen
   have e0 : v' 0 = yG t (mns (fun _ => true) xl) 0 := e0
   have e1 : v' 1 = yG t (mns (fun _ => true) xl) 1 := e1
   have e2 : v' 2 = yG t (mns (fun _ => true) xl) 2 := e2
   have l0 := lf0 _ (L6τ.trans (nu v')); have l1 := lf1 _ (L6τ.trans (nu v')); have l2 := lf2 _ (L6τ.trans (nu v'))
   have hn' := nu v'
   rw [hu] at l0 l1 l2 hn'
   exact lLeft_s1c (ld25 τ (LB.trans hle)) (lB τ (Le.refl _)) kr' k4 (zF bt (zF (wT fun a e => xZ I18 a e) zG)) (ld25 _ ((LB.trans hle).trans nr)) (lB _ nr) l0 l1 l2 (fun a e => xZ I18 a e) ⟨k - 1, by omega, 0 + 1, by omega, by omega, hle.trans hn'⟩ (by omega) (by omega) (by omega) (by omega) (by omega) (by omega) (by omega) (by omega) (by omega) (by omega)
  ·have es : s = 1 := by omega
   subst es
   have lB : ∀ z, Le τ z → zB Pg z 41 ⟨σ32.next + 1, 0 + Int.toNat ((1 : Nat) : Int) * 1, none⟩ = some (.slice pw lw cw) := fun z hz => ((oB.le hle).le hz).ldI (i := 1) zCB rfl
   have Iw : yZ τ pw lw ws := SlV.le W1 (LB.trans hle)
   have kr' := rRising_c (ce := ce) (ct := ct) (c := cw) Rτ Iw (by omega) (by omega)
   cases hr : risF lt (-1) ws with
   | false =>
    rw [hr] at kr'
    exact lLeft_s1t (ld25 τ (LB.trans hle)) (lB τ (Le.refl _)) kr' ⟨k - 1, by omega, 1 + 1, by omega, by omega, hle⟩ (by omega) (by omega) (by omega)
   | true =>
   rw [hr] at kr'
   obtain ⟨w, rfl, hwr⟩ := ri_ris (n := lt) (m := 0) hr
   have hwl := Iw.len; rw [zBL] at hwl
   obtain ⟨v', k4, hv4⟩ := fewest_c (ce := ce) (ct := ct) (cw := cw) Rτ hv Iw (by omega)
   have e0 := eFw (hv4 0 (by omega)); have e1 := eFw (hv4 1 (by omega)); have e2 := eFw (hv4 2 (by omega))
   rw [zJB] at e0 e1 e2
   have e0 : v' 0 = yG t (mns (fun _ => true) w) 0 := e0
   have e1 : v' 1 = yG t (mns (fun _ => true) w) 1 := e1
   have e2 : v' 2 = yG t (mns (fun _ => true) w) 2 := e2
   have l0 := lf0 _ (L6τ.trans (nu v')); have l1 := lf1 _ (L6τ.trans (nu v')); have l2 := lf2 _ (L6τ.trans (nu v'))
   have hn' := nu v'
   rw [hu] at l0 l1 l2 hn'
   have bw : zH τ.next [.agg ⟨yE t pe le ce pt lt ct⟩, .slice pw lw cw] := zF bt (zF (wT fun a e => xZ Iw a e) zG)
   have hnx : ∃ k', k' < k ∧ ∃ s : Nat, ((1 : Nat) : Int) + 1 = (s : Int) ∧ s + k' = 2 ∧ Le sB ((fun v : Nat → Int => (τ.row [iV 0, iV 0, iV 0] 1).own τ.next [iV (v 0), iV (v 1), iV (v 2)] 1) v') := ⟨k - 1, by omega, 1 + 1, by omega, by omega, hle.trans hn'⟩
   by_cases q0 : v' 0 ≤ f0
   rotate_left
   ·exact lLeft_s1q (ld25 τ (LB.trans hle)) (lB τ (Le.refl _)) kr' k4 bw (ld25 _ ((LB.trans hle).trans nr)) (lB _ nr) l0 (fun a e => xZ Iw a e) hnx (by omega) (by omega) (by omega) (by omega) (by omega) (by omega) (by omega) (by omega)
   by_cases q1 : v' 1 ≤ f1
   rotate_left
   ·exact lLeft_s1m (ld25 τ (LB.trans hle)) (lB τ (Le.refl _)) kr' k4 bw (ld25 _ ((LB.trans hle).trans nr)) (lB _ nr) l0 l1 (fun a e => xZ Iw a e) hnx (by omega) (by omega) (by omega) (by omega) (by omega) (by omega) (by omega) (by omega) (by omega)
   by_cases q2' : v' 2 ≤ f2
   rotate_left
   ·exact lLeft_s1i (ld25 τ (LB.trans hle)) (lB τ (Le.refl _)) kr' k4 bw (ld25 _ ((LB.trans hle).trans nr)) (lB _ nr) l0 l1 l2 (fun a e => xZ Iw a e) hnx (by omega) (by omega) (by omega) (by omega) (by omega) (by omega) (by omega) (by omega) (by omega) (by omega)
   have hen : enS t f (mns (fun _ => true) w) = true := en_iff.2 (by rw [hgd.1, hgd.2.1, hgd.2.2, ← e0, ← e1, ← e2]; exact ⟨q0, q1, q2'⟩)
   have hmin := (hl.le w (by rw [hnt]; exact hwr) hen).1
   exact lLeft_s1e (ld25 τ (LB.trans hle)) (lB τ (Le.refl _)) kr' k4 bw (ld25 _ ((LB.trans hle).trans nr)) (lB _ nr) l0 l1 l2 (fun a e => xZ Iw a e) hnx (by omega) (by omega) (by omega) (by omega) (by omega) (by omega) (by omega) (by omega) (by omega) (by omega) (by omega)
 have hnil' : ∀ h : (v 0 ≤ f0 ∧ v 1 ≤ f1 ∧ v 2 ≤ f2), l18 = 0 := fun hh => by
  have hen : enS t f (mns (fun _ => true) []) = true := en_iff.2 (by rw [hgd.1, hgd.2.1, hgd.2.2, hnil.1, hnil.2.1, hnil.2.2]; exact hh)
  have := (hl.le [] trivial hen).1
  simp at this; rw [← hl18, this]; rfl
 have hnil2 : l18 = 0 → v 0 ≤ f0 ∧ v 1 ≤ f1 ∧ v 2 ≤ f2 := fun hh => by
  have hx0 : xl = [] := List.eq_nil_of_length_eq_zero (by omega)
  have hen := hl.en
  rw [hx0] at hen
  have := en_iff.1 hen
  rw [hgd.1, hgd.2.1, hgd.2.2, hnil.1, hnil.2.1, hnil.2.2] at this; exact this
 have lA25 := ld25 sA LA
 have la0 := lf0 sA L6A; have la1 := lf1 sA L6A; have la2 := lf2 sA L6A
 have hkdb : -9223372036854775808 ≤ kd ∧ kd ≤ 9223372036854775807 := by omega
 rw [hsB, hsA] at hL
 rw [hsA] at kr lA25 la0 la1 la2
 rw [← hkk] at l3 st6
 rw [hs2, hf0, hf1, hf2] at k2
 rw [hσ1] at c0 k2
 have kr0 : ∀ (b : Bool) (z : St), False → zEW pw lw cw σ.next (σ.next + 2) p18 l18 c18 (σ32.next + 1) b z (fun v _ => v = .bool true) := fun _ _ h => h.elim
 by_cases h18 : l18 = 0
 ·obtain ⟨w0, w1, w2⟩ := hnil2 h18
  rw [hf0] at w0 la0; rw [hf1] at w1 la1; rw [hf2] at w2 la2
  exact lLeft_re c0 k2 l3 min_see st6 (ld25 σ6 n36.le) k7 k8 k9 (ld25 σ20 N20.le) k11 k12 (ld25 σ32 N32.le) k14 lA25 kr la0 la1 la2 hL (fun b z h => h.elim) (fun z _ => zFN rfl)
 ·by_cases w0 : v 0 ≤ f0
  rotate_left
  ·rw [hf0] at w0 la0
   exact lLeft_rl c0 k2 l3 min_see st6 (ld25 σ6 n36.le) k7 k8 k9 (ld25 σ20 N20.le) k11 k12 (ld25 σ32 N32.le) k14 lA25 kr la0 hL (fun b z h => h.elim) (fun z _ => zFN rfl)
  by_cases w1 : v 1 ≤ f1
  rotate_left
  ·rw [hf0] at w0 la0; rw [hf1] at w1 la1
   exact lLeft_rj c0 k2 l3 min_see st6 (ld25 σ6 n36.le) k7 k8 k9 (ld25 σ20 N20.le) k11 k12 (ld25 σ32 N32.le) k14 lA25 kr la0 la1 hL (fun b z h => h.elim) (fun z _ => zFN rfl)
  by_cases w2 : v 2 ≤ f2
  ·exact absurd (hnil' ⟨w0, w1, w2⟩) h18
  ·rw [hf0] at w0 la0; rw [hf1] at w1 la1; rw [hf2] at w2 la2
   exact lLeft_rh c0 k2 l3 min_see st6 (ld25 σ6 n36.le) k7 k8 k9 (ld25 σ20 N20.le) k11 k12 (ld25 σ32 N32.le) k14 lA25 kr la0 la1 la2 hL (fun b z h => h.elim) (fun z _ => zFN rfl)
end
end Go.Proofs.Ytmdopblmkkameaa
