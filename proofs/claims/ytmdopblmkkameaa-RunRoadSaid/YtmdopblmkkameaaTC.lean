
import Derived.Test.YtmdopblmkkameaaTB
namespace Go.Proofs.Ytmdopblmkkameaa
open Go Go.Lay
set_option linter.unusedVariables false
set_option linter.unusedSimpArgs false
set_option maxRecDepth 20000
theorem RowA.row {τ : St} {n0 l c i : Nat} {p : Option Addr} {rs : List (List Int)} (h : RowA τ n0 p l c rs) (hi : i < l) : ∃ a, p = some a ∧ ∃ r q d, rs[i]? = some r ∧ (∀ z, Le τ z → loadA Try.prog z 41 (aadd a (Int.toNat (i : Int) * 1)) = some (.slice q r.length d)) ∧ App τ n0 1 (.slice q r.length d) r.length (r.map intV) := by
 obtain ⟨h1, vs, h2, h3, h4⟩ := h
 have hs := h2.slv
 obtain ⟨a, rfl, _⟩ := hs.some hi
 obtain ⟨q, d, g1, g2, _⟩ := h3 i rs[i] (by simp)
 exact ⟨a, rfl, rs[i], q, d, by simp, fun z hz => (hs.le hz).at rfl g1, g2⟩
theorem app_tail {z : St} {n1 c : Nat} {p : Option Addr} {r : List Int} (h : App z n1 1 (.slice p r.length c) r.length (r.map intV)) (h0 : 0 < r.length) :
  ∃ a, p = some a ∧ a.block < z.next ∧ ∀ τ, Le z τ → ∃ c', sliceA Try.prog τ 41 (.slice p r.length c) (some (iV 1)) none none = some (.slice (some (aadd a 1)) (r.length - 1) c') := by
 have hu : Try.prog.underlying 41 = some (.slice 3) := by kernel_rfl
 generalize hLr : r.length = L at h h0 ⊢
 generalize hcs : r.map intV = rs at h
 generalize hv : Value.slice p L c = w at h
 cases h with
 | nil => exact absurd h0 (by omega)
 | @more b s nx len cs sp log g1 g2 g3 g4 g5 g6 g7 =>
  cases hv
  refine ⟨_, rfl, g4, fun τ hτ => ?_⟩
  have hg := (hτ.get b g4).trans g1
  have hok : eszOk τ ⟨b, 0, sp⟩ 1 = true := by simp [eszOk, hg, stampOf, extOf, g2]
  have hx : capExact (L + INEX) = false := capExact_inex _
  have hL : capLow (L + INEX) = L := capLow_inex _
  have b1 : boundA (some (iV 1)) 0 L = some 1 := by
   have e1 : leI 0 1 = true := rfl
   have e2 : leI 1 (.ofNat L) = true := (leI_iff _ _).2 (by show (1 : Int) ≤ (L : Int); omega)
   show (bif leI 0 1 && leI 1 (.ofNat L) then some (1 : Int).toNat else none) = some 1
   rw [e1, e2]; rfl
  have b2 : boundA none L L = some L := rfl
  by_cases h1 : L = 1
  ·have e1 : Nat.ble L 1 = true := (ble_iff _ _).2 (by omega)
   have e2 : Nat.beq L 1 = true := by rw [h1]; rfl
   refine ⟨INEX, ?_⟩
   clear hLr
   subst h1
   simp only [sliceA, hu, size3, hok, cond_true, sliceNums, hL, b1, b2, hx, Option.isSome_none, Bool.or_false, cond_false, e1, e2, Bool.and_true, Nat.one_mul]
  ·have e1 : Nat.ble L 1 = false := by rw [Bool.eq_false_iff]; intro e; have := (ble_iff _ _).1 e; omega
   refine ⟨L - 1 + INEX, ?_⟩
   simp only [sliceA, hu, size3, hok, cond_true, sliceNums, hL, b1, b2, hx, Option.isSome_none, Bool.or_false, cond_false, e1, Nat.one_mul]
def gw (t : Tab) (ts : List Int) (bs : List (List Int)) (n k j : Nat) : List Int := if j < n then wI t ts (bs.getD j []) ((bs.getD j []).length - 1) else if j = n then wI t ts (bs.getD n []) k else []
abbrev waL (t : Tab) (ts : List Int) (bs : List (List Int)) : List (List Int) := bs.map fun r => wI t ts r (r.length - 1)
theorem gw_zero {t : Tab} {ts : List Int} {bs : List (List Int)} {j : Nat} : gw t ts bs 0 0 j = [] := by
 unfold gw; rw [if_neg (by omega)]; split <;> rfl
theorem gw_row {t : Tab} {ts : List Int} {bs : List (List Int)} {n j : Nat} : gw t ts bs n ((bs.getD n []).length - 1) j = gw t ts bs (n + 1) 0 j := by
 unfold gw
 by_cases h : j < n
 ·rw [if_pos h, if_pos (by omega)]
 ·rw [if_neg h]
  by_cases h2 : j = n
  ·subst h2; rw [if_pos rfl, if_pos (by omega)]
  ·rw [if_neg h2, if_neg (by omega)]; split <;> rfl
theorem gw_push {t : Tab} {ts : List Int} {bs : List (List Int)} {n k j : Nat} {r : List Int} (h : bs[n]? = some r) : (if j = n then gw t ts bs n k n ++ [wt t ts (r.getD k 0) (r.getD (k + 1) 0)] else gw t ts bs n k j) = gw t ts bs n (k + 1) j := by
 unfold gw
 by_cases hj : j = n
 ·subst hj
  rw [if_pos rfl, if_neg (by omega), if_pos rfl, if_neg (by omega), if_pos rfl, getD_of h, wI_step]
 ·rw [if_neg hj]
  by_cases h2 : j < n
  ·rw [if_pos h2, if_pos h2]
  ·rw [if_neg h2, if_neg h2, if_neg hj, if_neg hj]
theorem gw_all {t : Tab} {ts : List Int} {bs : List (List Int)} : ((List.range bs.length).map fun i => gw t ts bs bs.length 0 i) = waL t ts bs := by
 apply List.ext_getElem?
 intro i
 rw [List.getElem?_map, List.getElem?_map]
 by_cases hi : i < bs.length
 ·rw [List.getElem?_range hi]
  have hb : bs[i]? = some bs[i] := by simp
  unfold gw
  rw [hb]
  simp only [Option.map_some, if_pos hi, getD_of hb]
 ·rw [List.getElem?_eq_none (by simp; omega), List.getElem?_eq_none (by omega)]; rfl
section
variable {σ : St} {t : Tab} {pe pt : Option Addr} {le ce lt ct : Nat}
theorem Play1_c {x : Trip} {B b2 : Nat} {pw : Option Addr} {cw i : Nat} {ts : List Int} {n : Int} (hw : IntsP σ pw lt ts) (o1 : Row σ ⟨B, 0, none⟩ [.slice pw lt cw]) (o2 : Row σ ⟨b2, 0, none⟩ [iV (i : Int)]) (hn : ts[i]? = some n) (hi : i < lt) :
  CallsA Try.prog 66 [tripV x, .pointer (some ⟨B, 0, none⟩), .pointer (some ⟨b2, 0, none⟩)] σ (iV n) σ := by
 refine RunsQ.pure ?_
 have N1 : New σ.re (σ.re.row (tripL x) 6) := New.row _ _ _
 have hle := (le0 σ).trans N1.le
 obtain ⟨a, rfl, n', hn', ld⟩ := slv_at (SlV.le hw hle) hi
 rw [hn] at hn'; cases hn'
 exact Play1_ra (by simpa [aadd] using (o1.le hle).load1 (t := 41) agg41 (k := 0) rfl) (by simpa [aadd] using (o2.le hle).load1 (t := 3) agg3 (k := 0) rfl) ld ⟨rfl, N1.lw⟩ (by omega)
end
end Go.Proofs.Ytmdopblmkkameaa
