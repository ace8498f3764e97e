/- Slices of slices; look-ups; all operations that look at memory. -/
import Derived.Test.YthcdddbghldmiaaLayMem
set_option linter.unusedVariables false
set_option linter.unusedSimpArgs false
namespace Go.Lay
open Go
section
variable {P : Program} {ι : Inj} {σ : St} {w : World}

structure OptR (ι : Inj) (o o' : Option Value) : Prop where
  some : ∀ x, o = .some x → ∃ x', o' = .some x' ∧ VR ι x x'
  none : o = .none → o' = .none

theorem bound_cases {o o' : Option Value} {d top n : Nat} (h : boundA o d top = some n) (hr : OptR ι o o') :
    (o = none ∧ o' = none ∧ n = d) ∨ (∃ k i, o = some (.int k i) ∧ o' = some (.int k i) ∧ 0 ≤ i ∧ i ≤ top ∧ n = i.toNat) := boundA_some h hr.some hr.none

theorem sliceNums_run {lo hi mx lo' hi' mx' : Option Value} {len known cap' l h m : Nat} (hn : sliceNums lo hi mx len known = some (l, h, m))
    (h1 : OptR ι lo lo') (h2 : OptR ι hi hi') (h3 : OptR ι mx mx') (hk : known ≤ cap') (b : Bool) (w : World) :
    (Instr.sliceBounds b len cap' lo' hi' mx').run P w = .ok (l, h, if mx.isSome then m else cap') w ∧ l ≤ h ∧ (mx = none → m = known) ∧ m ≤ known := by
  unfold sliceNums at hn
  cases mx with
  | none =>
    have e := h3.none rfl; subst e
    simp only at hn
    cases hb : boundA hi len known with
    | none => simp [hb] at hn
    | some h0 =>
      simp only [hb] at hn
      cases hl : boundA lo 0 h0 with
      | none => simp [hl] at hn
      | some l0 =>
        simp [hl] at hn
        obtain ⟨rfl, rfl, rfl⟩ := hn
        rcases bound_cases hb h2 with ⟨rfl, rfl, rfl⟩ | ⟨k, i, rfl, rfl, a1, a2, rfl⟩
        · rcases bound_cases hl h1 with ⟨rfl, rfl, rfl⟩ | ⟨k', i', rfl, rfl, b1, b2, rfl⟩
          · exact ⟨by simp [Instr.sliceBounds], by omega, fun _ => rfl, Nat.le_refl _⟩
          · exact ⟨by simp [Instr.sliceBounds, Instr.sliceBound, asIntOf, b1, b2], by omega, fun _ => rfl, Nat.le_refl _⟩
        · have a3 : i ≤ (cap' : Int) := by omega
          rcases bound_cases hl h1 with ⟨rfl, rfl, rfl⟩ | ⟨k', i', rfl, rfl, b1, b2, rfl⟩
          · exact ⟨by simp [Instr.sliceBounds, Instr.sliceBound, asIntOf, a1, a3], by omega, fun _ => rfl, Nat.le_refl _⟩
          · have b3 : i' ≤ i := by omega
            exact ⟨by simp [Instr.sliceBounds, Instr.sliceBound, asIntOf, a1, a3, b1, Int.toNat_of_nonneg a1, b3], by omega, fun _ => rfl, Nat.le_refl _⟩
  | some m0 =>
    simp only at hn
    cases hm : boundA (some m0) 0 known with
    | none => simp [hm] at hn
    | some m1 =>
      simp only [hm] at hn
      cases hi with
      | none => simp at hn
      | some hi0 =>
        simp only at hn
        cases hb : boundA (some hi0) 0 m1 with
        | none => simp [hb] at hn
        | some h0 =>
          simp only [hb] at hn
          cases hl : boundA lo 0 h0 with
          | none => simp [hl] at hn
          | some l0 =>
            simp [hl] at hn
            obtain ⟨rfl, rfl, rfl⟩ := hn
            rcases bound_cases hm h3 with ⟨e, _⟩ | ⟨km, im, e, rfl, c1, c2, rfl⟩
            · cases e
            have c3 : im ≤ (cap' : Int) := by omega
            rcases bound_cases hb h2 with ⟨e, _⟩ | ⟨k, i, e, rfl, a1, a2, rfl⟩
            · cases e
            have a3 : i ≤ im := by omega
            rcases bound_cases hl h1 with ⟨rfl, rfl, rfl⟩ | ⟨k', i', rfl, rfl, b1, b2, rfl⟩
            · exact ⟨by simp [Instr.sliceBounds, Instr.sliceBound, asIntOf, a1, c1, c3, Int.toNat_of_nonneg c1, a3], by omega, (by simp), by omega⟩
            · have b3 : i' ≤ i := by omega
              exact ⟨by simp [Instr.sliceBounds, Instr.sliceBound, asIntOf, a1, c1, c3, Int.toNat_of_nonneg c1, a3, b1, Int.toNat_of_nonneg a1, b3], by omega, (by simp), by omega⟩

theorem capR_refl (c : Nat) : capR c c := by unfold capR capLow; split; rfl; split <;> omega
theorem capExact_iff (c : Nat) : capExact c = true ↔ c < INEX := by
  unfold capExact
  cases h : Nat.ble INEX c with
  | true => have := (ble_iff _ _).1 h; simp; omega
  | false => simp; exact Nat.lt_of_not_le fun e => by rw [(ble_iff _ _).2 e] at h; cases h
theorem capLow_le {c c' : Nat} (h : capR c c') : capLow c ≤ c' := by
  unfold capR at h
  split at h
  · rename_i he
    have := (capExact_iff c).1 he
    subst h; unfold capLow; rw [if_neg (by omega)]; exact Nat.le_refl _
  · exact h

theorem boundA_le {o : Option Value} {d top h : Nat} (hb : boundA o d top = some h) : h ≤ max d top := by
  unfold boundA at hb
  split at hb
  · simp at hb; omega
  · rename_i i
    cases hc : leI 0 i && leI i (.ofNat top) with
    | false => rw [hc] at hb; cases hb
    | true =>
      rw [hc] at hb
      simp only [Bool.and_eq_true, leI_iff] at hc
      have h2 : i ≤ (top : Int) := hc.2
      simp at hb; omega
  · cases hb
theorem sliceNums_le {lo hi mx : Option Value} {len known l h m : Nat} (hn : sliceNums lo hi mx len known = some (l, h, m)) : h ≤ max len known := by
  unfold sliceNums at hn
  split at hn
  · split at hn
    · rename_i h0 hb
      split at hn
      · simp at hn; have := boundA_le hb; omega
      · cases hn
    · cases hn
  · split at hn
    · rename_i m0 hm
      split at hn
      · split at hn
        · rename_i h0 hb
          split at hn
          · simp at hn
            have h1 := boundA_le hb
            have h2 := boundA_le hm
            omega
          · cases hn
        · cases hn
      · cases hn
    · cases hn

theorem eszOk_sound {a : Addr} {n : Nat} {L : Loc} (h : eszOk σ a n = true) (hr : Rep ι σ w) (hl : ι.loc a.block (stampOf a) = some L) : L.z = n := by
  unfold eszOk at h
  split at h
  · rename_i cs esz log nx ro hb
    simp only [Bool.and_eq_true] at h
    cases he : extOf log (stampOf a) with
    | none => simp [he] at h
    | some e =>
      cases (hr.blk _ _ hb).2 with
      | cells rows _ _ _ =>
        obtain ⟨_, _, M, hM⟩ := rows _ _ (extOf_mem he)
        have hML : M = L := by have := hM.loc; rw [hl] at this; cases this; rfl
        subst hML
        rw [hM.cz]; exact Nat.eq_of_beq_eq_true h.2
  · cases h

theorem arrOk_sound {a : Addr} {k n : Nat} {L : Loc} (h : arrOk σ a k n = true) (hr : Rep ι σ w) (hl : ι.loc a.block (stampOf a) = some L) (hlo : L.lo ≤ a.off) : L.z = n ∧ L.base + (a.off - L.lo) + k ≤ ι.csz L.c := by
  unfold arrOk at h
  split at h
  · rename_i cs esz log nx ro hb
    simp only [Bool.and_eq_true] at h
    cases he : extOf log (stampOf a) with
    | none => simp [he] at h
    | some e =>
      simp only [he, ble_iff] at h
      cases (hr.blk _ _ hb).2 with
      | cells rows _ _ _ =>
        obtain ⟨_, _, M, hM⟩ := rows _ _ (extOf_mem he)
        have hML : M = L := by have := hM.loc; rw [hl] at this; cases this; rfl
        subst hML
        refine ⟨by rw [hM.cz]; exact Nat.eq_of_beq_eq_true h.2, ?_⟩
        obtain ⟨arr, elem, fr, _, h2, _, h4, _⟩ := hM.row
        have := h.1
        omega
  · cases h

theorem sliceA_sound {t : TypeId} {x x' v : Value} {lo hi mx lo' hi' mx' : Option Value} (h : sliceA P σ t x lo hi mx = some v) (hr : Rep ι σ w) (hx : VR ι x x')
    (h1 : OptR ι lo lo') (h2 : OptR ι hi hi') (h3 : OptR ι mx mx') :
    ∃ v', (Instr.sliceAt t x' lo' hi' mx').run P w = .ok v' w ∧ VR ι v v' := by
  unfold sliceA at h
  split at h
  · rename_i len cap elem hd
    have := hx.slice_none; subst this
    split at h
    · rename_i n hs
      cases hex : capExact cap with
      | false => rw [hex, cond_false] at h; cases h
      | true =>
        rw [hex, cond_true] at h
        split at h
        · rename_i l hh m hn
          simp at h; subst h
          obtain ⟨e, _, hm, _⟩ := sliceNums_run (P := P) hn h1 h2 h3 (Nat.le_refl cap) true w
          refine ⟨.slice none (hh - l) (m - l), ?_, .atom rfl⟩
          have e2 : (if mx.isSome then m else cap) = m := by
            cases mx with
            | none => rw [hm rfl]; rfl
            | some _ => rfl
          rw [e2] at e
          simp [Instr.sliceAt, run_underlying hd, Instr.slice, e, run_sizeT hs]
        · cases h
    · cases h
  · rename_i a len cap elem hd
    obtain ⟨L, cap', A, hl, hlo, hA, hc, hsz, rfl⟩ := hx.slice_inv
    split at h
    · rename_i n hs
      cases hez : eszOk σ a n with
      | false => rw [hez, cond_false] at h; cases h
      | true =>
        rw [hez, cond_true] at h
        have hcz := eszOk_sound hez hr hl
        rw [hcz] at hsz
        split at h
        · rename_i l hh m hn
          obtain ⟨e, hlh, hm, hmk⟩ := sliceNums_run (P := P) hn h1 h2 h3 (capLow_le hc) true w
          have hmul : ∀ m' : Nat, l ≤ m' → m' ≤ cap' → (m' - l) * n + l * n ≤ cap' * n := fun m' a1 a2 => by
            rw [← Nat.add_mul, Nat.sub_add_cancel a1]; exact Nat.mul_le_mul_right n a2
          cases hx2 : mx.isSome || capExact cap with
          | true =>
            rw [hx2, cond_true] at h
            cases hble : Nat.ble l m with
            | false => rw [hble, cond_false] at h; cases h
            | true =>
              rw [hble, cond_true] at h
              have hlm := (ble_iff _ _).1 hble
              simp at h; subst h
              have e2 : (if mx.isSome then m else cap') = m := by
                cases mx with
                | none =>
                  simp at hx2
                  have : cap' = cap := by unfold capR at hc; rw [if_pos hx2] at hc; exact hc
                  rw [hm rfl, this]
                  have := (capExact_iff cap).1 hx2
                  simp [capLow]; omega
                | some _ => rfl
              rw [e2] at e
              have hmc : m ≤ cap' := Nat.le_trans hmk (capLow_le hc)
              have hm2 := hmul m hlm hmc
              cases hml : Nat.beq m l with
              | true =>
                have := Nat.eq_of_beq_eq_true hml; subst this
                refine ⟨.slice (some A) (hh - m) (m - m), ?_, ?_⟩
                · simp [Instr.sliceAt, run_underlying hd, Instr.slice, e, run_sizeT hs]
                · rw [cond_true]; exact .slice hl hlo (hA.imp id (fun x => ⟨by have h7 := sliceNums_le hn; rw [x.1, show capLow cap = 0 by rw [x.2.1]; unfold capLow; have := (capExact_iff 0).1 (by unfold capExact INEX; decide); rw [if_neg (by omega)]] at h7; simp at h7; omega, by omega, by omega⟩)) (capR_refl _) (by rw [hcz]; simp; omega)
              | false =>
                have hne : ¬ m = l := fun h => by rw [h, Nat.beq_refl] at hml; cases hml
                have hA : A = L.at a.off := hA.elim id (fun x => by exfalso; have := x.2.2; omega)
                subst hA
                refine ⟨.slice (some (L.at (a.off + l * n))) (hh - l) (m - l), ?_, ?_⟩
                · simp [Instr.sliceAt, run_underlying hd, Instr.slice, e, run_sizeT hs, hne, at_add _ _ _ hlo]
                · rw [cond_false]; exact .slice (a := aadd a (l * n)) hl (by simp [aadd]; omega) (.inl rfl) (capR_refl _) (by rw [hcz]; simp [aadd]; omega)
          | false =>
            rw [hx2, cond_false] at h
            simp at hx2
            obtain ⟨hx3, hx4⟩ := hx2
            subst hx3
            have hmk2 := hm rfl; subst hmk2
            cases hble : Nat.ble (capLow cap) l with
            | true => rw [hble, cond_true] at h; cases h
            | false =>
              rw [hble, cond_false] at h
              have hlt : l < capLow cap := Nat.lt_of_not_le fun e => by rw [(ble_iff _ _).2 e] at hble; cases hble
              simp at h; subst h
              have hlc := capLow_le hc
              have hA : A = L.at a.off := hA.elim id (fun x => by exfalso; have := x.2.2; omega)
              subst hA
              have hm2 := hmul cap' (by omega) (Nat.le_refl _)
              refine ⟨.slice (some (L.at (a.off + l * n))) (hh - l) (cap' - l), ?_, ?_⟩
              · have hne : ¬ cap' = l := by omega
                simp at e
                simp [Instr.sliceAt, run_underlying hd, Instr.slice, e, run_sizeT hs, hne, at_add _ _ _ hlo]
              · refine .slice (a := aadd a (l * n)) hl (by simp [aadd]; omega) (.inl rfl) ?_ (by rw [hcz]; simp [aadd]; omega)
                have hni : capExact (capLow cap - l + INEX) = false := by rw [Bool.eq_false_iff]; intro e; have := (capExact_iff _).1 e; omega
                unfold capR
                rw [if_neg (by rw [hni]; simp)]
                unfold capLow
                unfold capLow at hlc hlt
                rw [if_pos (by omega)]
                omega
        · cases h
    · cases h
  · rename_i a len elem hd
    obtain ⟨L, hl, hlo, rfl⟩ := hx.ptr_inv
    split at h
    · rename_i n hs
      cases hez : arrOk σ a (len * n) n with
      | false => rw [hez, cond_false] at h; cases h
      | true =>
        rw [hez, cond_true] at h
        obtain ⟨hcz, hsz⟩ := arrOk_sound hez hr hl hlo
        split at h
        · rename_i l hh m hn
          obtain ⟨e, hlh, hm, hmk⟩ := sliceNums_run (P := P) hn h1 h2 h3 (Nat.le_refl len) false w
          have e2 : (if mx.isSome then m else len) = m := by
            cases mx with
            | none => rw [hm rfl]; rfl
            | some _ => rfl
          rw [e2] at e
          cases hble : Nat.ble l m with
          | false => rw [hble, cond_false] at h; cases h
          | true =>
            rw [hble, cond_true] at h
            have hlm := (ble_iff _ _).1 hble
            simp at h; subst h
            have hm2 : (m - l) * n + l * n ≤ len * n := by
              rw [← Nat.add_mul, Nat.sub_add_cancel hlm]; exact Nat.mul_le_mul_right n hmk
            cases hml : Nat.beq m l with
            | true =>
              have := Nat.eq_of_beq_eq_true hml; subst this
              refine ⟨.slice (some (L.at a.off)) (hh - m) (m - m), ?_, ?_⟩
              · simp [Instr.sliceAt, run_underlying hd, Instr.sureAddr, e, run_sizeT hs]
              · rw [cond_true]; exact .slice hl hlo (.inl rfl) (capR_refl _) (by rw [hcz]; simp; omega)
            | false =>
              have hne : ¬ m = l := fun h => by rw [h, Nat.beq_refl] at hml; cases hml
              refine ⟨.slice (some (L.at (a.off + l * n))) (hh - l) (m - l), ?_, ?_⟩
              · simp [Instr.sliceAt, run_underlying hd, Instr.sureAddr, e, run_sizeT hs, hne, at_add _ _ _ hlo]
              · rw [cond_false]; exact .slice (a := aadd a (l * n)) hl (by simp [aadd]; omega) (.inl rfl) (capR_refl _) (by rw [hcz]; simp [aadd]; omega)
        · cases h
    · cases h
  · rename_i s hd
    have := hx.string_inv; subst this
    split at h
    · have e3 := h3.none rfl; subst e3
      split at h
      · rename_i hh hb
        split at h
        · rename_i l hl
          simp at h; subst h
          refine ⟨.string (s.extract l hh), ?_, .atom rfl⟩
          rcases bound_cases hb h2 with ⟨rfl, rfl, rfl⟩ | ⟨k, i, rfl, rfl, a1, a2, rfl⟩
          · rcases bound_cases hl h1 with ⟨rfl, rfl, rfl⟩ | ⟨k', i', rfl, rfl, b1, b2, rfl⟩
            · simp [Instr.sliceAt, run_underlying hd, Instr.slice, Instr.sliceBounds]
            · simp [Instr.sliceAt, run_underlying hd, Instr.slice, Instr.sliceBounds, Instr.sliceBound, asIntOf, b1, b2]
          · rcases bound_cases hl h1 with ⟨rfl, rfl, rfl⟩ | ⟨k', i', rfl, rfl, b1, b2, rfl⟩
            · simp [Instr.sliceAt, run_underlying hd, Instr.slice, Instr.sliceBounds, Instr.sliceBound, asIntOf, a1, a2]
            · have b3 : i' ≤ i := by omega
              simp [Instr.sliceAt, run_underlying hd, Instr.slice, Instr.sliceBounds, Instr.sliceBound, asIntOf, a1, a2, b1, Int.toNat_of_nonneg a1, b3]
        · cases h
      · cases h
    · cases h
  · cases h
end
end Go.Lay
