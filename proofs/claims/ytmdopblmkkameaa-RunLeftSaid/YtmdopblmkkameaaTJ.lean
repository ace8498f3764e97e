
import Derived.Test.YtmdopblmkkameaaTI
import Derived.Test.YtmdopblmkkameaaRJ
import Derived.Test.YtmdopblmkkameaaXV
namespace Go.Proofs.Ytmdopblmkkameaa
open Go Go.Lay
open Try renaming prog → Pg
set_option linter.unusedVariables false
set_option linter.unusedSimpArgs false
set_option maxRecDepth 20000
section
variable {σ : St} {t : Tab} {pe pt : Option Addr} {le ce lt ct : Nat}
def cnK (t : Tab) (S : Nat → Bool) (bf : Nat → Int) (s : Nat) (k : Int) : Int := (yR s (fun i => kS t S k i && decide (bf i = -1)) : Nat)
theorem kdT_at {i : Nat} {x : Trip} (h : t.trips[i]? = some x) : kdT t i = x.kind := by unfold kdT vJ; rw [h]; rfl
theorem cnK_step {S : Nat → Bool} {bf : Nat → Int} {s : Nat} {k : Int} : cnK t S bf (s + 1) k = cnK t S bf s k + if S s = true ∧ kdT t s = k ∧ bf s = -1 then 1 else 0 := by
 unfold cnK
 rw [yR]
 unfold kS
 by_cases h1 : S s = true
 ·by_cases h2 : kdT t s = k
  ·by_cases h3 : bf s = -1
   ·simp [h1, h2, h3]
   ·simp [h1, h2, h3]
  ·simp [h1, h2]
 ·simp [h1]
theorem cnK_le {S : Nat → Bool} {bf : Nat → Int} {s : Nat} {k : Int} : 0 ≤ cnK t S bf s k ∧ cnK t S bf s k ≤ s := by
 unfold cnK
 have := cntN_le_n (n := s) (P := fun i => kS t S k i && decide (bf i = -1))
 omega
theorem buses_c (h : TabP σ pe le pt lt t) (hv : Valid t) (hlt : lt ≤ 12) {S : Nat → Bool} : zD Pg 58 [.agg ⟨yE t pe le ce pt lt ct⟩, .agg ⟨yJ 12 S⟩] σ (.agg ⟨[iV (yG t S 0), iV (yG t S 1), iV (yG t S 2)]⟩) σ := by
 have hnt : t.nt = lt := h.len
 suffices hmain : zN Pg 58 [.agg ⟨yE t pe le ce pt lt ct⟩, .agg ⟨yJ 12 S⟩] σ.re fun v s => v = .agg ⟨[iV (yG t S 0), iV (yG t S 1), iV (yG t S 2)]⟩ ∧ σ.next ≤ s.low from zN.pure hmain
 obtain ⟨σ1, hσ1⟩ : ∃ σ1, σ1 = ((σ.re.row (yE t pe le ce pt lt ct) 4).row (yJ 12 S) 1).row [iV 0, iV 0, iV 0] 1 := ⟨_, rfl⟩
 have n1 : New σ.re σ1 := by rw [hσ1]; exact ((New.row _ _ _).row').row'
 have nx1 : σ1.next = σ.next + 3 := by rw [hσ1]; rfl
 have oS : Own σ1 (σ.next + 1) (yJ 12 S) 1 := by rw [hσ1]; exact (zC (σ.re.row (yE t pe le ce pt lt ct) 4) (yJ 12 S) 1).row
 have oO : Own σ1 (σ.next + 2) (wP 3 fun k => cnK t S (fun _ => 0) 0 k) 1 := by
  rw [hσ1]; exact zC ((σ.re.row (yE t pe le ce pt lt ct) 4).row (yJ 12 S) 1) [iV 0, iV 0, iV 0] 1
 have h1 : TabP σ1 pe le pt lt t := (h.le' (le0 σ)).le' n1.le
 have l84 : zB Pg σ1 84 ⟨σ.next + 1, 0, none⟩ = some (.agg ⟨yJ 12 S⟩) := oS.ldN (P := Pg) (t := 84) (by kernel_rfl) (by kernel_rfl : yV Pg 84 = some 12) (k := 0) rfl (by rw [xC]) (by rw [xC]; decide)
 obtain ⟨bm, σ4, bn, bb, pf, cf, cn, cb, nx, bf, c4, n4, M, hge, B⟩ := match_cN (ce := ce) (ct := ct) h1 hv hlt (S := S)
 obtain ⟨ge1, ge2, ge3⟩ := hge
 have N4 := n1.trans n4
 have q6 : (yE t pe le ce pt lt ct ++ [.slice pf lt cf, .slice (some ⟨bn, 0, none⟩) lt cn, .slice (some ⟨bb, 0, none⟩) lt cb])[6]? = some (.slice (some ⟨bb, 0, none⟩) lt cb) := rfl
 have q3 : (yE t pe le ce pt lt ct ++ [.slice pf lt cf, .slice (some ⟨bn, 0, none⟩) lt cn, .slice (some ⟨bb, 0, none⟩) lt cb])[3]? = some (.slice pt lt ct) := rfl
 have l41 := M.om.ldI (P := Pg) (t := 41) (i := 6) zCB q6
 have oS4 := oS.le n4.le
 have oO4 := oO.le n4.le
 have e0 : wP 3 (fun k => cnK t S (fun _ => 0) 0 k) = wP 3 (fun k => cnK t S bf 0 k) := rfl
 have hB : BestTo t.nt (EdS t S) S t.nt nx bf := by rw [hnt]; exact B
 have hL : buses_L1 (σ.next + 1) (σ.next + 2) ⟨bm, 0, none⟩ (some ⟨bb, 0, none⟩) lt cb 0 σ4 (fun τ => New σ.re τ ∧ Own τ (σ.next + 2) (wP 3 fun k => cnK t S bf lt k) 1) := by
  refine buses_loop1 (Inv := fun k i τ => ∃ s : Nat, i = s ∧ s + k = lt ∧ New σ.re τ ∧ Only (· = σ.next + 2) σ4 τ ∧ Own τ (σ.next + 2) (wP 3 fun k => cnK t S bf s k) 1) ?_ lt 0 σ4 ⟨0, rfl, by omega, N4, Only.refl _ _, oO4⟩
  rintro k i τ ⟨s, rfl, hk, hN, ho, oO⟩
  by_cases hs : s < lt
  rotate_left
  ·have : s = lt := by omega
   subst this
   exact buses_s1d ⟨hN, oO⟩ (by omega)
  have ob := ho.own' M.ob (by show bb ≠ σ.next + 2; omega)
  have om := ho.own' M.om (by show bm ≠ σ.next + 2; omega)
  have os := ho.own' oS4 (by show σ.next + 1 ≠ σ.next + 2; omega)
  have ldb := ldV ob (P := Pg) (t := 3) yB hs
  have lS := own_ldB os (P := Pg) (t := 4) (i := s) agg4 (by omega)
  have lS' : zB Pg τ 4 ⟨σ.next + 1, 0 + Int.toNat (s : Int) * 1, none⟩ = some (.bool (S s)) := by simpa [zK] using lS
  have T4 := (h1.le' n4.le)
  obtain ⟨at_, rfl, x, hx, _⟩ := uX T4.tr (i := s) hs
  have hkd := kdT_at hx
  have hxv := hv.trip hx
  have hcong : ∀ b : Bool, S s = b → (b = true → bf s ≠ -1) → wP 3 (fun k => cnK t S bf s k) = wP 3 (fun k => cnK t S bf (s + 1) k) := fun b hb hne => by
   congr 1
   funext k
   rw [cnK_step, if_neg (fun h => hne (by rw [← hb]; exact h.1) h.2.2)]; omega
  cases hS : S s with
  | false =>
   rw [hS] at lS'
   exact buses_s1c ldb lS' ⟨k - 1, by omega, s + 1, by omega, by omega, hN, ho, by rw [← hcong false hS (fun h => by cases h)]; exact oO⟩ (by omega) (by omega) (by omega)
  | true =>
  rw [hS] at lS'
  by_cases hb : bf s = -1
  rotate_left
  ·exact buses_s1b ldb lS' ⟨k - 1, by omega, s + 1, by omega, by omega, hN, ho, by rw [← hcong true hS (fun _ => hb)]; exact oO⟩ (by omega) (by omega) (by omega) hb
  have l3 := om.ldI (P := Pg) (t := 32) (i := 3) zDS q3
  have T5 : SlV Pg τ 79 6 (some at_) lt (t.trips.map xV) := by
   refine ho.slv' T4.tr (fun a e hS => ?_)
   cases e
   have hlt1 := xZ h1.tr at_ rfl
   have hgt := xZ h.tr at_ rfl
   have e : at_.block = σ.next + 2 := hS
   omega
  have hmap : (t.trips.map xV)[s]? = some (xV x) := by rw [List.getElem?_map, hx]; rfl
  have l5 : zB Pg τ 3 (zK at_ ((Int.toNat (s : Int) * 6) + 5)) = some (iV x.kind) := by
   have := slv_fld (t' := 3) T5 (vs := t.trips.map xV) (i := s) (k := 5) (cs := zA x.fr x.to x.st x.least x.most x.kind) hmap rfl yB
   simpa using this
  obtain ⟨kk, hkk⟩ : ∃ kk : Nat, x.kind = kk := ⟨x.kind.toNat, by omega⟩
  have hk3 : kk < 3 := by omega
  rw [hkk] at l5
  have lO := ldV oO (P := Pg) (t := 3) (i := kk) yB hk3
  have st := oO.stI (P := Pg) (t := 3) (v := iV (cnK t S bf s kk + 1)) (i := kk) rfl (by kernel_rfl) rfl (by rw [wK]; exact hk3)
  rw [vecL_set hk3] at st
  have k3 : Only (· = σ.next + 2) τ (τ.own (σ.next + 2) (wP 3 fun s' => if s' = kk then cnK t S bf s kk + 1 else cnK t S bf s s') 1) := Only.own (.inr rfl)
  have ev : (wP 3 fun s' => if s' = kk then cnK t S bf s kk + 1 else cnK t S bf s s') = wP 3 fun k => cnK t S bf (s + 1) k := by
   congr 1
   funext k
   rw [cnK_step]
   by_cases e : k = kk
   ·subst e; rw [if_pos rfl, if_pos ⟨hS, by rw [hkd, hkk], hb⟩]
   ·rw [if_neg e, if_neg (fun h => e (by have := h.2.1; rw [hkd, hkk] at this; omega))]; omega
  have hcl := cnK_le (t := t) (S := S) (bf := bf) (s := s) (k := kk)
  have lO' : zB Pg τ 3 ⟨σ.next + 2, 0 + Int.toNat (kk : Int) * 1, none⟩ = some (iV (cnK t S bf s kk)) := by simpa [zK] using lO
  have st' : zR Pg (evL [.pointer (some ⟨σ.next + 2, 0 + Int.toNat (kk : Int) * 1, none⟩), iV (cnK t S bf s kk + 1)]) τ (.store 3 (.tmp 0) (.tmp 1)) = some (undef, τ.own (σ.next + 2) (wP 3 fun s' => if s' = kk then cnK t S bf s kk + 1 else cnK t S bf s s') 1) := by simpa [zK] using st
  have l3' : zB Pg τ 32 (zK ⟨bm, 0, none⟩ 3) = some (.slice (some at_) lt ct) := by simpa [zK] using l3
  exact buses_s1a ldb lS' l3' l5 lO' st' ⟨k - 1, by omega, s + 1, by omega, by omega, hN.of_only k3 (by rintro b rfl; show σ.next ≤ σ.next + 2; omega), ho.trans' k3 (fun b _ e => .inl e), by rw [ev] at st' ⊢; exact oO.put⟩ (by omega) (by omega) (by omega) hb (by omega) (by omega) (by omega) (by omega)
 have hne : ∀ k : Int, k = 0 ∨ k = 1 ∨ k = 2 → cnK t S bf lt k = yG t S k := fun k hk => by
  unfold cnK
  rw [← need_of hv hB hk, hnt]
 have hend : ∀ τ, (New σ.re τ ∧ Own τ (σ.next + 2) (wP 3 fun k => cnK t S bf lt k) 1) → buses_K1_0 (σ.next + 1) (σ.next + 2) ⟨bm, 0, none⟩ (some ⟨bb, 0, none⟩) lt cb τ (fun v s => v = .agg ⟨[iV (yG t S 0), iV (yG t S 1), iV (yG t S 2)]⟩ ∧ σ.next ≤ s.low) := by
  rintro τ ⟨hN, o⟩
  have ev : (wP 3 fun k => cnK t S bf lt k) = [iV (yG t S 0), iV (yG t S 1), iV (yG t S 2)] := by
   show [Value.int .i64 (cnK t S bf lt 0), iV (cnK t S bf lt 1), iV (cnK t S bf lt 2)] = _
   rw [hne 0 (.inl rfl), hne 1 (.inr (.inl rfl)), hne 2 (.inr (.inr rfl))]
  rw [ev] at o
  have l1 : zB Pg τ 56 ⟨σ.next + 2, 0, none⟩ = some (.agg ⟨[iV (yG t S 0), iV (yG t S 1), iV (yG t S 2)]⟩) := o.ldN (P := Pg) (t := 56) (by kernel_rfl) (by kernel_rfl : yV Pg 56 = some 3) (k := 0) rfl rfl (by simp)
  have st := o.store (P := Pg) (k := 0) (t := 56) (v := .agg ⟨[iV (yG t S 0), iV (yG t S 1), iV (yG t S 2)]⟩) (vs := [iV (yG t S 0), iV (yG t S 1), iV (yG t S 2)]) (ds := [iV (yG t S 0), iV (yG t S 1), iV (yG t S 2)]) rfl (by kernel_rfl) rfl (by simp) rfl
  have o2 := Own.put (ds := [Value.int .i64 (yG t S 0), iV (yG t S 1), iV (yG t S 2)]) o
  have l3 : zB Pg (τ.own (σ.next + 2) [iV (yG t S 0), iV (yG t S 1), iV (yG t S 2)] 1) 56 ⟨σ.next + 2, 0, none⟩ = some (.agg ⟨[iV (yG t S 0), iV (yG t S 1), iV (yG t S 2)]⟩) := o2.ldN (P := Pg) (t := 56) (by kernel_rfl) (by kernel_rfl : yV Pg 56 = some 3) (k := 0) rfl rfl (by simp)
  have k3 : Only (· = σ.next + 2) τ (τ.own (σ.next + 2) [iV (yG t S 0), iV (yG t S 1), iV (yG t S 2)] 1) := Only.own (.inr rfl)
  exact buses_t1x0a l1 st l3 ⟨rfl, (hN.of_only k3 (by rintro b rfl; show σ.next ≤ σ.next + 2; omega)).lw⟩
 subst hσ1
 exact buses_ra l84 c4 (by simpa [zK] using l41) hL hend
end
end Go.Proofs.Ytmdopblmkkameaa
