
import Derived.Test.YtmdopblmkkameaaRD
namespace Go.Proofs.Ytmdopblmkkameaa
open Go Go.Lay
set_option linter.unusedVariables false
set_option linter.unusedSimpArgs false
set_option maxRecDepth 20000
section
variable {t : Tab}
theorem checkZ_ok {x : Tab} (h1 : x.nt ≤ 12) (h2 : tabB x = true) : checkZ x = 0 := by
 unfold checkZ
 rw [if_neg (by omega), if_pos h2]
theorem Valid.two (hv : Valid t) : t.nt ≤ 12 ∧ tabB t = true := by
 have h := hv.check
 unfold checkZ at h
 by_cases h1 : 12 < t.nt
 ·rw [if_pos h1] at h; cases h
 ·rw [if_neg h1] at h
  by_cases h2 : tabB t = true
  ·exact ⟨by omega, h2⟩
  ·rw [if_neg h2] at h; cases h
theorem mayI_mono {x : Tab} (h : ∀ (i k : Nat) (a b : Trip), t.trips[i]? = some a → t.trips[k]? = some b → mayB t a b = true → ∃ a' b', x.trips[i]? = some a' ∧ x.trips[k]? = some b' ∧ mayB x a' b' = true) : ∀ i k, mayI t i k = true → mayI x i k = true := by
 intro i k hm
 obtain ⟨l1, l2⟩ := mayI_lt hm
 have e1 : t.trips[i]? = some t.trips[i] := by simp
 have e2 : t.trips[k]? = some t.trips[k] := by simp
 rw [mayI_eq e1 e2] at hm
 obtain ⟨a', b', f1, f2, f3⟩ := h i k _ _ e1 e2 hm
 rw [mayI_eq f1 f2]; exact f3
theorem mayB_iff {x : Tab} {a b : Trip} : mayB x a b = true ↔ a.kind = b.kind ∧ a.st + a.most + x.layover + emp x a.to.toNat b.fr.toNat ≤ b.st := by unfold mayB; simp
def lay0 (t : Tab) (n : Int) : Tab := ⟨t.places, max 0 (t.layover - n), t.empty, t.trips⟩
theorem lay0_ok (hv : Valid t) {n : Int} (hn : 0 ≤ n) : checkZ (lay0 t n) = 0 ∧ ∀ i k, mayI t i k = true → mayI (lay0 t n) i k = true := by
 obtain ⟨h1, h2⟩ := hv.two
 have hl := hv.parts.2.1
 refine ⟨checkZ_ok h1 ?_, mayI_mono fun i k a b ha hb hm => ⟨a, b, ha, hb, ?_⟩⟩
 ·unfold tabB at h2 ⊢
  simp only [Bool.and_eq_true] at h2 ⊢
  obtain ⟨⟨⟨⟨⟨a1, a2⟩, a3⟩, a4⟩, a5⟩, a6⟩ := h2
  exact ⟨⟨⟨⟨⟨a1, inB_iff.2 (by show 0 ≤ max 0 _ ∧ max 0 _ ≤ 600; omega)⟩, a3⟩, a4⟩, a5⟩, a6⟩
 ·rw [mayB_iff] at hm ⊢
  refine ⟨hm.1, ?_⟩
  show a.st + a.most + max 0 (t.layover - n) + emp t a.to.toNat b.fr.toNat ≤ b.st
  omega
def emp0 (t : Tab) (j k : Nat) (v : Int) : Tab := ⟨t.places, t.layover, t.empty.set j ((t.empty.getD j []).set k v), t.trips⟩
theorem emp0_at {j k : Nat} {v : Int} {r : List Int} (hr : t.empty[j]? = some r) (hk : k < r.length) (a b : Nat) : emp (emp0 t j k v) a b = if a = j ∧ b = k then v else emp t a b := by
 have hj := (List.getElem?_eq_some_iff.1 hr).1
 have er : t.empty.getD j [] = r := by simp [List.getD_eq_getElem?_getD, hr]
 unfold emp emp0
 simp only [er, List.getD_eq_getElem?_getD]
 by_cases ha : a = j
 ·subst ha
  rw [List.getElem?_set_self hj, hr]
  simp only [Option.getD_some]
  by_cases hb : b = k
  ·subst hb
   rw [List.getElem?_set_self hk]; simp
  ·rw [List.getElem?_set_ne (fun e => hb e.symm), if_neg (fun h => hb h.2)]
 ·rw [List.getElem?_set_ne (fun e => ha e.symm), if_neg (fun h => ha h.1)]
theorem emp0_ok (hv : Valid t) {j k : Nat} {v : Int} {r : List Int} {w : Int} (hr : t.empty[j]? = some r) (hw : r[k]? = some w) (h0 : 0 ≤ v ∧ v ≤ w) : checkZ (emp0 t j k v) = 0 ∧ ∀ i k', mayI t i k' = true → mayI (emp0 t j k v) i k' = true := by
 obtain ⟨h1, h2⟩ := hv.two
 have hk := (List.getElem?_eq_some_iff.1 hw).1
 have ew : emp t j k = w := emp_at hr hw
 have er : t.empty.getD j [] = r := by simp [List.getD_eq_getElem?_getD, hr]
 have hle : ∀ a b, emp (emp0 t j k v) a b ≤ emp t a b := fun a b => by
  rw [emp0_at hr hk]
  split
  ·rename_i h; obtain ⟨rfl, rfl⟩ := h; omega
  ·omega
 have h600 := (hv.parts.2.2.2.1 r (List.mem_of_getElem? hr))
 have hw600 := h600.2 w (List.mem_of_getElem? hw)
 refine ⟨checkZ_ok h1 ?_, mayI_mono fun i k' a b ha hb hm => ⟨a, b, ha, hb, ?_⟩⟩
 ·unfold tabB at h2 ⊢
  simp only [Bool.and_eq_true] at h2 ⊢
  obtain ⟨⟨⟨⟨⟨a1, a2⟩, a3⟩, a4⟩, a5⟩, a6⟩ := h2
  refine ⟨⟨⟨⟨⟨a1, a2⟩, ?_⟩, ?_⟩, ?_⟩, a6⟩
  ·show decide (((t.empty.set j _).length : Int) = t.places) = true
   rw [List.length_set]; exact a3
  ·refine List.all_eq_true.2 fun y hy => ?_
   rcases List.mem_or_eq_of_mem_set hy with h | h
   ·exact List.all_eq_true.1 a4 y h
   ·subst h
    rw [er]
    unfold rowB
    simp only [Bool.and_eq_true, List.length_set]
    have hrB := List.all_eq_true.1 a4 r (List.mem_of_getElem? hr)
    unfold rowB at hrB
    simp only [Bool.and_eq_true] at hrB
    refine ⟨hrB.1, List.all_eq_true.2 fun z hz => ?_⟩
    rcases List.mem_or_eq_of_mem_set hz with h | h
    ·exact List.all_eq_true.1 hrB.2 z h
    ·subst h; exact inB_iff.2 (by omega)
  ·unfold dgB at a5 ⊢
   refine List.all_eq_true.2 fun p hp => ?_
   have := List.all_eq_true.1 a5 p hp
   simp only [decide_eq_true_eq] at this ⊢
   rw [emp0_at hr hk]
   split
   ·rename_i h; obtain ⟨rfl, rfl⟩ := h; omega
   ·exact this
 ·rw [mayB_iff] at hm ⊢
  refine ⟨hm.1, ?_⟩
  have := hle a.to.toNat b.fr.toNat
  show a.st + a.most + t.layover + _ ≤ b.st
  omega
def mo0 (t : Tab) (i : Nat) (v : Int) : Tab := ⟨t.places, t.layover, t.empty, t.trips.set i (match t.trips[i]? with | some y => ⟨y.fr, y.to, y.st, y.least, v, y.kind⟩ | none => ⟨0, 0, 0, 0, 0, 0⟩)⟩
theorem mo0_ok (hv : Valid t) {i : Nat} {v : Int} {y : Trip} (hy : t.trips[i]? = some y) (h0 : y.least ≤ v ∧ v ≤ y.most) : checkZ (mo0 t i v) = 0 ∧ ∀ j k, mayI t j k = true → mayI (mo0 t i v) j k = true := by
 obtain ⟨h1, h2⟩ := hv.two
 have hil := (List.getElem?_eq_some_iff.1 hy).1
 have e : (mo0 t i v).trips = t.trips.set i ⟨y.fr, y.to, y.st, y.least, v, y.kind⟩ := by unfold mo0; rw [hy]
 have hty := hv.trip hy
 have hat : ∀ (j : Nat) (a : Trip), t.trips[j]? = some a → ∃ a', (mo0 t i v).trips[j]? = some a' ∧ a'.fr = a.fr ∧ a'.to = a.to ∧ a'.st = a.st ∧ a'.kind = a.kind ∧ a'.most ≤ a.most := by
  intro j a ha
  rw [e]
  by_cases hj : j = i
  ·subst hj
   rw [hy] at ha; cases ha
   exact ⟨_, List.getElem?_set_self hil, rfl, rfl, rfl, rfl, h0.2⟩
  ·exact ⟨a, by rw [List.getElem?_set_ne (fun e => hj e.symm)]; exact ha, rfl, rfl, rfl, rfl, Int.le_refl _⟩
 refine ⟨checkZ_ok (by show (mo0 t i v).trips.length ≤ 12; rw [e, List.length_set]; exact h1) ?_, mayI_mono fun j k a b ha hb hm => ?_⟩
 ·unfold tabB at h2 ⊢
  simp only [Bool.and_eq_true] at h2 ⊢
  obtain ⟨⟨⟨⟨⟨a1, a2⟩, a3⟩, a4⟩, a5⟩, a6⟩ := h2
  refine ⟨⟨⟨⟨⟨a1, a2⟩, a3⟩, a4⟩, a5⟩, ?_⟩
  refine List.all_eq_true.2 fun z hz => ?_
  rw [e] at hz
  rcases List.mem_or_eq_of_mem_set hz with h | h
  ·exact List.all_eq_true.1 a6 z h
  ·subst h
   unfold tripB
   simp only [Bool.and_eq_true, inB_iff]
   show (((((0 ≤ y.fr ∧ y.fr ≤ t.places - 1) ∧ 0 ≤ y.to ∧ y.to ≤ t.places - 1) ∧ 0 ≤ y.st ∧ y.st ≤ 2000) ∧ 1 ≤ y.least ∧ y.least ≤ v) ∧ 0 ≤ v ∧ v ≤ 600) ∧ 0 ≤ y.kind ∧ y.kind ≤ 2
   omega
 ·obtain ⟨a', f1, g1, g2, g3, g4, g5⟩ := hat j a ha
  obtain ⟨b', f2, k1, k2, k3, k4, k5⟩ := hat k b hb
  refine ⟨a', b', f1, f2, ?_⟩
  rw [mayB_iff] at hm ⊢
  refine ⟨by rw [g4, k4]; exact hm.1, ?_⟩
  show a'.st + a'.most + t.layover + emp t a'.to.toNat b'.fr.toNat ≤ b'.st
  rw [g3, g2, k1, k3]; omega
end
end Go.Proofs.Ytmdopblmkkameaa
