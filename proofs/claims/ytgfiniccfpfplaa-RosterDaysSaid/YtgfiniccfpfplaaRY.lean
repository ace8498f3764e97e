
import Derived.Test.YtgfiniccfpfplaaUA
namespace Go.Proofs.Ytgfiniccfpfplaa
section
variable {w : Wk} {l m : Nat}
theorem zGW (h : yY w = 0) : w.N.length ≤ 12 ∧ w.L.length ≤ 6 ∧ wP w = true ∧ (∀ x ∈ w.N, wS w x = true) ∧ ∀ x ∈ w.L, vZ w x = true := by
 unfold yY at h
 split at h
 ·cases h
 ·rename_i h1
  split at h
  ·rename_i h2
   rw [Bool.and_eq_true, Bool.and_eq_true, List.all_eq_true, List.all_eq_true] at h2
   exact ⟨by omega, by omega, h2.1, h2.2.1, h2.2.2⟩
  ·cases h
theorem yCB {i : Nat} (h : i < w.N.length) : dty w i ∈ w.N := by
 unfold dty
 rw [List.getD_eq_getElem?_getD, List.getElem?_eq_getElem h]
 exact List.getElem_mem h
theorem zRD {k : Nat} (h : k < w.L.length) : drv w k ∈ w.L := by
 unfold drv
 rw [List.getD_eq_getElem?_getD, List.getElem?_eq_getElem h]
 exact List.getElem_mem h
theorem zKP (h : wP w = true) : (1 ≤ w.M ∧ w.M ≤ 7) ∧ (0 ≤ w.rest ∧ w.rest ≤ 3000) ∧ (1 ≤ w.run ∧ w.run ≤ 14) ∧ 0 ≤ w.j ∧ w.j ≤ 20000 := by
 unfold wP at h
 simp only [Bool.and_eq_true, wV] at h
 exact h
theorem zKR {d : Dty} (h : wS w d = true) : (0 ≤ d.day ∧ d.day ≤ w.M - 1) ∧ (0 ≤ d.on ∧ d.on ≤ 1439) ∧ (d.on ≤ d.lo ∧ d.lo ≤ d.hi) ∧ d.hi ≤ d.on + 1440 ∧ 0 ≤ d.route ∧ d.route ≤ 15 := by
 unfold wS at h
 simp only [Bool.and_eq_true, wV, Bool.not_eq_true', decide_eq_false_iff_not, Int.not_lt] at h
 exact h
theorem zZE {x : Drv} (h : vZ w x = true) : xY x.J 0 15 = true ∧ xY x.qa 0 (w.M - 1) = true ∧ xY x.qb 0 (w.M - 1) = true ∧ (-10080 ≤ x.off ∧ x.off ≤ 1440) ∧ (0 ≤ x.row ∧ x.row ≤ 14) ∧ 0 ≤ x.used ∧ x.used ≤ w.j := by
 unfold vZ at h
 simp only [Bool.and_eq_true, wV] at h
 exact h
theorem Sane.of (h : yY w = 0) (hsh : zFD w) (hl : w.N.length = l) (hm : w.L.length = m) : Sane w l m := by
 obtain ⟨h1, h2, h3, h4, h5⟩ := zGW h
 obtain ⟨hd, hr, hu, hh⟩ := zKP h3
 refine ⟨by omega, by omega, ?_, ?_, ?_, hr, hu, hh⟩
 ·intro i hi
  have := zKR (h4 _ (yCB (by omega : i < w.N.length)))
  omega
 ·intro k hk
  have := zZE (h5 _ (zRD (by omega : k < w.L.length)))
  omega
 ·intro k hk
  exact hsh _ (zRD (by omega : k < w.L.length))
theorem xFK (h : yY w = 0) : ∃ n : Nat, w.M = (n : Int) ∧ 1 ≤ n ∧ n ≤ 7 ∧ Val w n := by
 obtain ⟨h1, h2, h3, h4, h5⟩ := zGW h
 obtain ⟨hd, hr, hu, hh⟩ := zKP h3
 refine ⟨w.M.toNat, by omega, by omega, by omega, ⟨⟨by omega, ?_⟩, ?_, ?_⟩⟩
 ·intro i hi
  have := zKR (h4 _ (yCB hi))
  omega
 ·intro i hi
  have := zKR (h4 _ (yCB hi))
  omega
 ·intro k hk
  have := zZE (h5 _ (zRD hk))
  omega
end
end Go.Proofs.Ytgfiniccfpfplaa
