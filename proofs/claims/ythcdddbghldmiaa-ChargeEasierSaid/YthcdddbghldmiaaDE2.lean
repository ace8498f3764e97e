
import Derived.Test.YthcdddbghldmiaaDE
namespace Go.Proofs.Ythcdddbghldmiaa
open Go Go.Lay
set_option linter.unusedVariables false
set_option linter.unusedSimpArgs false
set_option maxRecDepth 20000
set_option maxHeartbeats 1000000
structure Easier (g x : Gar) : Prop where
 ns : x.ns = g.ns
 nb : x.nb = g.nb
 bus : ∀ (i : Nat) (b b' : Bus), g.buses[i]? = some b → x.buses[i]? = some b' → b.rate ≤ b'.rate ∧ needZ b' ≤ needZ b ∧ ∀ s : Nat, thereB b s = true → thereB b' s = true
 pw : ∀ s, pwS g s ≤ pwS x s
 pr : ∀ s, prS x s ≤ prS g s
 v : Valid x
theorem map_mono {α : Type} {xs xs' : List α} {x x' : α} {f : α → Int} (h : Upd xs xs' x x') (hf : f x ≤ f x') (s : Nat) : (xs.map f).getD s 0 ≤ (xs'.map f).getD s 0 := by
 rw [List.getD_eq_getElem?_getD, List.getD_eq_getElem?_getD, List.getElem?_map, List.getElem?_map]
 cases e : xs'[s]? with
 | none =>
  have : xs[s]? = none := by rw [List.getElem?_eq_none_iff] at e ⊢; rw [← h.1]; exact e
  rw [this]; simp
 | some y' =>
  obtain ⟨y, h1, h2⟩ := h.2 s y' e
  rw [h1]
  rcases h2 with rfl | ⟨rfl, rfl⟩
  ·simp
  ·simpa using hf
theorem map_mono' {α : Type} {xs xs' : List α} {x x' : α} {f : α → Int} (h : Upd xs xs' x x') (hf : f x' ≤ f x) (s : Nat) : (xs'.map f).getD s 0 ≤ (xs.map f).getD s 0 := by
 rw [List.getD_eq_getElem?_getD, List.getD_eq_getElem?_getD, List.getElem?_map, List.getElem?_map]
 cases e : xs'[s]? with
 | none =>
  have : xs[s]? = none := by rw [List.getElem?_eq_none_iff] at e ⊢; rw [← h.1]; exact e
  rw [this]; simp
 | some y' =>
  obtain ⟨y, h1, h2⟩ := h.2 s y' e
  rw [h1]
  rcases h2 with rfl | ⟨rfl, rfl⟩
  ·simp
  ·simpa using hf
theorem easier_slot {g : Gar} {sl : List Slot} {x x' : Slot} (hv : Valid g) (h : Upd g.slots sl x x') (hpw : x.pw ≤ x'.pw) (hpr : x'.pr ≤ x.pr) (hx : slotB x' = true) : Easier g ⟨sl, g.buses⟩ := by
 refine ⟨h.1, rfl, fun i b b' h1 h2 => ?_, map_mono h hpw, map_mono' h hpr, ⟨?_, hv.nb, fun s hs => ?_, hv.bus⟩⟩
 ·rw [h1] at h2; cases h2; exact ⟨Int.le_refl _, Int.le_refl _, fun s h => h⟩
 ·show sl.length ≤ 12; rw [h.1]; exact hv.ns
 ·obtain ⟨j, hj⟩ := List.mem_iff_getElem?.1 hs
  obtain ⟨y, h1, h2⟩ := h.2 j s hj
  rcases h2 with rfl | ⟨_, rfl⟩
  ·exact hv.slot _ (List.mem_of_getElem? h1)
  ·exact hx
theorem easier_bus {g : Gar} {bs : List Bus} {x x' : Bus} (hv : Valid g) (h : Upd g.buses bs x x') (hr : x.rate ≤ x'.rate) (hn : needZ x' ≤ needZ x) (ht : ∀ s : Nat, thereB x s = true → thereB x' s = true) (hx : busB x' = true) : Easier g ⟨g.slots, bs⟩ := by
 refine ⟨rfl, h.1, fun i b b' h1 h2 => ?_, fun s => Int.le_refl _, fun s => Int.le_refl _, ⟨hv.ns, ?_, hv.slot, fun b hb => ?_⟩⟩
 ·obtain ⟨y, h3, h4⟩ := h.2 i b' h2
  rw [h1] at h3; cases h3
  rcases h4 with rfl | ⟨rfl, rfl⟩
  ·exact ⟨Int.le_refl _, Int.le_refl _, fun s h => h⟩
  ·exact ⟨hr, hn, ht⟩
 ·show bs.length ≤ 5; rw [h.1]; exact hv.nb
 ·obtain ⟨j, hj⟩ := List.mem_iff_getElem?.1 hb
  obtain ⟨y, h1, h2⟩ := h.2 j b hj
  rcases h2 with rfl | ⟨_, rfl⟩
  ·exact hv.bus _ (List.mem_of_getElem? h1)
  ·exact hx
theorem busB_of {b : Bus} (h : 0 ≤ b.fr ∧ b.fr ≤ b.to ∧ b.to ≤ 12 ∧ 0 ≤ b.rate ∧ b.rate ≤ 1000 ∧ 0 ≤ b.full ∧ b.full ≤ 1000 ∧ 0 ≤ b.floor ∧ b.floor ≤ b.full ∧ 0 ≤ b.hlo ∧ b.hlo ≤ b.hhi ∧ b.hhi ≤ b.full ∧ 0 ≤ b.ulo ∧ b.ulo ≤ b.uhi ∧ b.uhi ≤ b.full - b.floor) : busB b = true := by
 simp only [busB, inB, uptoB, Bool.and_eq_true, decide_eq_true_eq]
 omega
theorem elOk_slotE (s : Slot) : elOk Try.prog 47 2 (slotV s) := .inr ⟨agg47, size47, _, rfl, rfl⟩
theorem elOk_busE (b : Bus) : elOk Try.prog 52 9 (busV b) := .inr ⟨agg52, size52, _, rfl, rfl⟩
section
variable {z : St} {g : Gar} {ps pb : Option Addr} {bs bb : Nat} {aS ab : Addr} {xs : Slot} {xb : Bus} {n : Int} {B1 B2 : Nat}
theorem easier_g3 (hv : Valid g) (hn : 0 ≤ n ∧ n ≤ 19) (k : Int) (hs : PtA z slotV 2 g.slots ps bs aS xs) (hb : PtA z busV 9 g.buses pb bb ab xb) (vs : slotB xs = true) (vb : busB xb = true) (R : RefP z ps g.ns pb g.nb g)
  (d1 : ∀ a, pb = some a → a.block ≠ bs) (d2 : ∀ a, ps = some a → a.block ≠ bb) :
  lEasier_G3 B1 B2 n aS ab k z (fun τ => ∃ x, RefP τ ps g.ns pb g.nb x ∧ Easier g x ∧ Only (fun b => b = bs ∨ b = bb) z τ) := by
 have s2 : ∀ y, (slotV y).cells.toList.length = 2 := fun y => rfl
 have b9 : ∀ y, (busV y).cells.toList.length = 9 := fun y => rfl
 have bi := busB_iff vb
 have si := vs
 simp only [slotB, inB, Bool.and_eq_true, decide_eq_true_eq] at si
 have ds : ∀ {τ : St} {sl : List Slot}, Only (· = bs) z τ → SlV Try.prog τ 47 2 ps g.ns (sl.map slotV) → RefP τ ps g.ns pb g.nb ⟨sl, g.buses⟩ := fun o h => ⟨h, o.slv' R.bu d1⟩
 have db : ∀ {τ : St} {bl : List Bus}, Only (· = bb) z τ → SlV Try.prog τ 52 9 pb g.nb (bl.map busV) → RefP τ ps g.ns pb g.nb ⟨g.slots, bl⟩ := fun o h => ⟨o.slv' R.sl d2, h⟩
 have os : ∀ {τ : St}, Only (· = bs) z τ → Only (fun b => b = bs ∨ b = bb) z τ := fun o => o.mono (fun _ _ h => .inl h)
 have ob : ∀ {τ : St}, Only (· = bb) z τ → Only (fun b => b = bs ∨ b = bb) z τ := fun o => o.mono (fun _ _ h => .inr h)
 by_cases k0 : k = 0
 ·obtain ⟨τ, sl, e1, e2, e3, e4⟩ := hs.put (x' := ⟨min 1000 (xs.pw + n), xs.pr⟩) (k := 0) (t := 3) (v := iV (min 1000 (xs.pw + n))) s2 (by omega) rfl rfl size3 rfl elOk_slotE R.sl
  exact lEasier_s3a (hs.ld (k := 0) s2 (by omega) rfl agg3) min_see e1 ⟨_, ds e2 e4, easier_slot hv e3 (show xs.pw ≤ min 1000 (xs.pw + n) by omega) (Int.le_refl _) (by simp only [slotB, inB, Bool.and_eq_true, decide_eq_true_eq]; omega), os e2⟩
 by_cases k1 : k = 1
 ·obtain ⟨τ, sl, e1, e2, e3, e4⟩ := hs.put (x' := ⟨xs.pw, max 0 (xs.pr - n)⟩) (k := 1) (t := 3) (v := iV (max 0 (xs.pr - n))) s2 (by omega) rfl rfl size3 rfl elOk_slotE R.sl
  exact lEasier_s3b (hs.ld (k := 1) s2 (by omega) rfl agg3) max_see e1 ⟨_, ds e2 e4, easier_slot hv e3 (Int.le_refl _) (show max 0 (xs.pr - n) ≤ xs.pr by omega) (by simp only [slotB, inB, Bool.and_eq_true, decide_eq_true_eq]; omega), os e2⟩
 by_cases k2 : k = 2
 ·obtain ⟨τ, bl, e1, e2, e3, e4⟩ := hb.put (x' := { xb with rate := min 1000 (xb.rate + n) }) (k := 2) (t := 3) (v := iV (min 1000 (xb.rate + n))) b9 (by omega) rfl rfl size3 rfl elOk_busE R.bu
  exact lEasier_s3c (hb.ld (k := 2) b9 (by omega) rfl agg3) min_see e1 ⟨_, db e2 e4, easier_bus hv e3 (show xb.rate ≤ min 1000 (xb.rate + n) by omega) (Int.le_refl _) (fun s h => h) (busB_of (by dsimp only; omega)), ob e2⟩
 by_cases k3 : k = 3
 ·obtain ⟨τ, bl, e1, e2, e3, e4⟩ := hb.put (x' := { xb with fr := max 0 (xb.fr - n) }) (k := 0) (t := 3) (v := iV (max 0 (xb.fr - n))) b9 (by omega) rfl rfl size3 rfl elOk_busE R.bu
  exact lEasier_s3d (hb.ld (k := 0) b9 (by omega) rfl agg3) max_see e1 ⟨_, db e2 e4, easier_bus hv e3 (Int.le_refl _) (Int.le_refl _) (fun s h => by
   simp only [thereB, Bool.and_eq_true, decide_eq_true_eq] at h ⊢; omega) (busB_of (by dsimp only; omega)), ob e2⟩
 by_cases k4 : k = 4
 ·obtain ⟨τ, bl, e1, e2, e3, e4⟩ := hb.put (x' := { xb with to := min 12 (xb.to + n) }) (k := 1) (t := 3) (v := iV (min 12 (xb.to + n))) b9 (by omega) rfl rfl size3 rfl elOk_busE R.bu
  exact lEasier_s3e (hb.ld (k := 1) b9 (by omega) rfl agg3) min_see e1 ⟨_, db e2 e4, easier_bus hv e3 (Int.le_refl _) (Int.le_refl _) (fun s h => by
   simp only [thereB, Bool.and_eq_true, decide_eq_true_eq] at h ⊢; omega) (busB_of (by dsimp only; omega)), ob e2⟩
 by_cases k5 : k = 5
 ·obtain ⟨τ, bl, e1, e2, e3, e4⟩ := hb.put (x' := { xb with hlo := min xb.hhi (xb.hlo + n) }) (k := 5) (t := 3) (v := iV (min xb.hhi (xb.hlo + n))) b9 (by omega) rfl rfl size3 rfl elOk_busE R.bu
  exact lEasier_s3f (hb.ld (k := 6) b9 (by omega) rfl agg3) (hb.ld (k := 5) b9 (by omega) rfl agg3) min_see e1 ⟨_, db e2 e4, easier_bus hv e3 (Int.le_refl _) (by unfold needZ; dsimp only; omega) (fun s h => h) (busB_of (by dsimp only; omega)), ob e2⟩
 ·obtain ⟨τ, bl, e1, e2, e3, e4⟩ := hb.put (x' := { xb with uhi := max xb.ulo (xb.uhi - n) }) (k := 8) (t := 3) (v := iV (max xb.ulo (xb.uhi - n))) b9 (by omega) rfl rfl size3 rfl elOk_busE R.bu
  exact lEasier_s3g (hb.ld (k := 7) b9 (by omega) rfl agg3) (hb.ld (k := 8) b9 (by omega) rfl agg3) max_see e1 ⟨_, db e2 e4, easier_bus hv e3 (Int.le_refl _) (by unfold needZ; dsimp only; omega) (fun s h => h) (busB_of (by dsimp only; omega)), ob e2⟩
end
end Go.Proofs.Ythcdddbghldmiaa
