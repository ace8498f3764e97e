/- Operations that look at no memory: what the abstract one yields, the model's yields. -/
import Derived.Test.YthcdddbghldmiaaLayRel
import Derived.Laws.Entries
import Derived.Laws.Sem
set_option linter.unusedVariables false
set_option linter.unusedSimpArgs false
namespace Go.Lay
open Go

/-! ### Reading a relation backwards -/
section
variable {ι : Inj}
theorem VR.int_inv {k : IntKind} {n : Int} {v' : Value} (h : VR ι (.int k n) v') : v' = .int k n := by cases h; rfl
theorem VR.bool_inv {b : Bool} {v' : Value} (h : VR ι (.bool b) v') : v' = .bool b := by cases h; rfl
theorem VR.string_inv {s : ByteArray} {v' : Value} (h : VR ι (.string s) v') : v' = .string s := by cases h; rfl
theorem VR.ptr_inv {a : Addr} {v' : Value} (h : VR ι (.pointer (some a)) v') : ∃ L, ι.loc a.block (stampOf a) = some L ∧ L.lo ≤ a.off ∧ v' = .pointer (some (L.at a.off)) := by
  cases h with
  | atom h => simp [atomB] at h
  | ptr h hlo => exact ⟨_, h, hlo, rfl⟩
theorem VR.ptr_none {v' : Value} (h : VR ι (.pointer none) v') : v' = .pointer none := by cases h; rfl
theorem VR.slice_inv {a : Addr} {len cap : Nat} {v' : Value} (h : VR ι (.slice (some a) len cap) v') :
    ∃ L cap' A, ι.loc a.block (stampOf a) = some L ∧ L.lo ≤ a.off ∧ (A = L.at a.off ∨ (len = 0 ∧ cap = 0 ∧ cap' = 0)) ∧ capR cap cap' ∧ L.base + (a.off - L.lo) + cap' * L.z ≤ ι.csz L.c ∧ v' = .slice (some A) len cap' := by
  cases h with
  | atom h => simp [atomB] at h
  | slice h hlo hA hc hs => exact ⟨_, _, _, h, hlo, hA, hc, hs, rfl⟩
theorem VR.slice_none {len cap : Nat} {v' : Value} (h : VR ι (.slice none len cap) v') : v' = .slice none len cap := by cases h; rfl
theorem VR.map_inv {b : Nat} {v' : Value} (h : VR ι (.map (some b)) v') : ∃ L, ι.loc b 0 = some L ∧ v' = .map (some L.c) := by
  cases h with
  | atom h => simp [atomB] at h
  | map h => exact ⟨_, h, rfl⟩
theorem VR.map_none {v' : Value} (h : VR ι (.map none) v') : v' = .map none := by cases h; rfl
theorem VR.agg_inv {c : Array Value} {v' : Value} (h : VR ι (.agg c) v') : ∃ c', v' = .agg c' ∧ VRs ι c.toList c'.toList := by
  cases h with
  | atom h => simp [atomB] at h
  | agg s h => exact ⟨_, rfl, arrR s h⟩
theorem VR.tuple_inv {c : Array Value} {v' : Value} (h : VR ι (.tuple c) v') : ∃ c', v' = .tuple c' ∧ VRs ι c.toList c'.toList := by
  cases h with
  | atom h => simp [atomB] at h
  | tuple s h => exact ⟨_, rfl, arrR s h⟩
theorem VR.func_inv {fn : Fn} {f c : Array Value} {v' : Value} (h : VR ι (.func fn f c) v') : ∃ fn' f' c', v' = .func fn' f' c' ∧ FnR ι fn fn' ∧ VRs ι f.toList f'.toList ∧ VRs ι c.toList c'.toList := by
  cases h with
  | atom h => simp [atomB] at h
  | func hf s1 h1 s2 h2 => exact ⟨_, _, _, rfl, hf, arrR s1 h1, arrR s2 h2⟩
theorem VR.iface_inv {t : TypeId} {v v' : Value} (h : VR ι (.iface t v) v') : ∃ x, v' = .iface t x ∧ VR ι v x := by
  cases h with
  | atom h => simp [atomB] at h
  | iface h => exact ⟨_, rfl, h⟩
theorem VR.nilFunc_inv {v' : Value} (h : VR ι .nilFunc v') : v' = .nilFunc := by cases h; rfl
theorem VR.nilIface_inv {v' : Value} (h : VR ι .nilIface v') : v' = .nilIface := by cases h; rfl
end

theorem list_toArray (c : Array Value) : (⟨c.toList⟩ : Array Value) = c := by cases c; rfl

/-! ### Computations that ask the program alone -/
theorem run_pureVal {P : Program} {α : Type} : ∀ (s : Sem α) {a : α}, pureVal P s = some a → ∀ w, s.run P w = .ok a w := by
  intro s
  induction s with
  | pure a => intro a' h w; simp [pureVal] at h; subst h; rfl
  | program k ih => intro a h w; simp only [pureVal] at h; simp only [Sem.run]; exact ih _ h w
  | _ => intro a h; simp [pureVal] at h

theorem filter_some {α : Type} {o : Option α} {p : α → Bool} {v : α} (h : o.filter p = some v) : o = some v ∧ p v = true := by
  cases o with
  | none => simp at h
  | some x => simp [Option.filter_some] at h; obtain ⟨h1, h2⟩ := h; subst h2; exact ⟨rfl, h1⟩

theorem wrapK_eq (k : IntKind) (n : Int) : wrapK k n = k.wrap n := by
  unfold wrapK
  split
  · have key : ∀ n : Int, -9223372036854775808 ≤ n → n ≤ 9223372036854775807 → IntKind.wrap .i64 n = n := by
      intro n h1 h2
      have e1 : (2 : Int) ^ 64 = 18446744073709551616 := by decide
      have e2 : (2 : Int) ^ (64 - 1) = 9223372036854775808 := by decide
      simp only [IntKind.wrap, IntKind.bits, IntKind.signed, e1, e2, Bool.true_and, decide_eq_true_eq]
      split <;> omega
    have hb : ∀ m : Nat, Nat.ble m 9223372036854775807 = true → (m : Int) ≤ 9223372036854775807 := fun m h => by
      have := (ble_iff m 9223372036854775807).1 h
      omega
    split
    · rename_i m
      cases h : Nat.ble m 9223372036854775807 with
      | false => rw [cond_false]
      | true =>
        have h1 := hb m h
        have h2 := Int.natCast_nonneg m
        rw [cond_true]
        refine (key (Int.ofNat m) ?_ ?_).symm
        · exact Int.le_trans (by decide) h2
        · exact h1
    · rename_i m
      cases h : Nat.ble m 9223372036854775807 with
      | false => rw [cond_false]
      | true =>
        have h1 := hb m h
        have h2 := Int.natCast_nonneg m
        rw [cond_true]
        refine (key (Int.negSucc m) ?_ ?_).symm
        · rw [Int.negSucc_eq]; omega
        · rw [Int.negSucc_eq]; omega
  · rfl

theorem sameKind_eq {j k : IntKind} (h : sameKind j k = true) : j = k := by cases j <;> cases k <;> simp_all [sameKind]

/-! ### Types -/
section
variable {P : Program}
theorem run_sizeT {t : TypeId} {n : Nat} (h : sizeT P t = some n) (w : World) : (sizeOf t).run P w = .ok n w := by
  unfold sizeT at h
  cases hi : P.info? t with
  | none => simp [hi] at h
  | some i => simp [hi] at h; simp [sizeOf, typeInfo, hi, h]
theorem run_zeroT {t : TypeId} {z : Value} (h : zeroT P t = some z) (w : World) : (zeroValue t).run P w = .ok z w := by
  unfold zeroT at h
  cases hi : P.types[t]? with
  | none => simp [hi] at h
  | some i =>
    have hlt : t < P.types.size := (Array.getElem?_eq_some_iff.1 hi).1
    have hi2 : P.info? t = some i := by unfold Tables.info?; rw [if_pos hlt]; exact hi
    simp [hi] at h; simp [zeroValue, typeInfo, hi2, h]
theorem run_aggT {t : TypeId} {b : Bool} (h : aggT P t = some b) (w : World) : (isAgg t).run P w = .ok b w := by
  unfold aggT at h
  split at h <;> simp at h <;> subst h <;> simp [isAgg, underlying, *]
theorem run_info {t : TypeId} {i : TypeInfo} (h : P.info? t = some i) (w : World) : (typeInfo t).run P w = .ok i w := by simp [typeInfo, h]

theorem nilEq_sound {ι : Inj} {t : TypeId} {x y x' y' : Value} {b : Bool} (h : nilEq P t x y = some b) (hx : VR ι x x') (hy : VR ι y y') (w : World) :
    (binOp .eql t x' y').run P w = .ok (.bool b) w ∧ (binOp .neq t x' y').run P w = .ok (.bool !b) w ∧ (∀ op ox oy, (eqGuard op t ox oy x' y').run P w = .ok () w) := by
  have fin : ∀ (x' y' : Value) (b : Bool), (∀ d, (Op.equalIn (d + 1) t x' y').run P w = .ok b w) → (binOp .eql t x' y' = do pure (.bool (← Op.equal t x' y'))) →
      (binOp .neq t x' y' = do pure (.bool (!(← Op.equal t x' y')))) → (∀ op ox oy, eqGuard op t ox oy x' y' = pure ()) →
      (binOp .eql t x' y').run P w = .ok (.bool b) w ∧ (binOp .neq t x' y').run P w = .ok (.bool !b) w ∧ (∀ op ox oy, (eqGuard op t ox oy x' y').run P w = .ok () w) := by
    intro x' y' b h1 h2 h3 h4
    have h5 : (Op.equal t x' y').run P w = .ok b w := h1 9999
    refine ⟨by rw [h2, Sem.run_bind, h5]; rfl, by rw [h3, Sem.run_bind, h5]; rfl, fun op ox oy => by rw [h4]; rfl⟩
  unfold nilEq at h
  split at h <;> simp at h <;> subst h <;> rename_i hd
  · rename_i o _ _; have := hx.slice_none; subst this
    cases o with
    | none => have := hy.slice_none; subst this; exact fin _ _ _ (fun d => by simp [Op.equalIn, run_underlying hd]) rfl rfl (fun op _ _ => by cases op <;> rfl)
    | some a => obtain ⟨L, c', A, _, _, _, _, _, rfl⟩ := hy.slice_inv; exact fin _ _ _ (fun d => by simp [Op.equalIn, run_underlying hd]) rfl rfl (fun op _ _ => by cases op <;> rfl)
  · obtain ⟨L, c', A, _, _, _, _, _, rfl⟩ := hx.slice_inv; have := hy.slice_none; subst this; exact fin _ _ _ (fun d => by simp [Op.equalIn, run_underlying hd]) rfl rfl (fun op _ _ => by cases op <;> rfl)
  · rename_i o; have := hx.map_none; subst this
    cases o with
    | none => have := hy.map_none; subst this; exact fin _ _ _ (fun d => by simp [Op.equalIn, run_underlying hd]) rfl rfl (fun op _ _ => by cases op <;> rfl)
    | some a => obtain ⟨L, _, rfl⟩ := hy.map_inv; exact fin _ _ _ (fun d => by simp [Op.equalIn, run_underlying hd]) rfl rfl (fun op _ _ => by cases op <;> rfl)
  · obtain ⟨L, _, rfl⟩ := hx.map_inv; have := hy.map_none; subst this; exact fin _ _ _ (fun d => by simp [Op.equalIn, run_underlying hd]) rfl rfl (fun op _ _ => by cases op <;> rfl)
  · have := hx.nilFunc_inv; subst this; obtain ⟨fn', f', c', rfl, _, _, _⟩ := hy.func_inv; exact fin _ _ _ (fun d => by simp [Op.equalIn, run_underlying hd]) rfl rfl (fun op _ _ => by cases op <;> rfl)
  · have := hy.nilFunc_inv; subst this; obtain ⟨fn', f', c', rfl, _, _, _⟩ := hx.func_inv; exact fin _ _ _ (fun d => by simp [Op.equalIn, run_underlying hd]) rfl rfl (fun op _ _ => by cases op <;> rfl)
  · rename_i o; have := hx.ptr_none; subst this
    cases o with
    | none => have := hy.ptr_none; subst this; exact fin _ _ _ (fun d => by simp [Op.equalIn, run_underlying hd]) rfl rfl (fun op _ _ => by cases op <;> rfl)
    | some a => obtain ⟨L, _, _, rfl⟩ := hy.ptr_inv; exact fin _ _ _ (fun d => by simp [Op.equalIn, run_underlying hd]) rfl rfl (fun op _ _ => by cases op <;> rfl)
  · obtain ⟨L, _, _, rfl⟩ := hx.ptr_inv; have := hy.ptr_none; subst this; exact fin _ _ _ (fun d => by simp [Op.equalIn, run_underlying hd]) rfl rfl (fun op _ _ => by cases op <;> rfl)
  · have := hx.nilIface_inv; subst this; obtain ⟨x1, rfl, _⟩ := hy.iface_inv; exact fin _ _ _ (fun d => by simp [Op.equalIn, run_underlying hd]) rfl rfl (fun op _ _ => by cases op <;> rfl)
  · have := hy.nilIface_inv; subst this; obtain ⟨x1, rfl, _⟩ := hx.iface_inv; exact fin _ _ _ (fun d => by simp [Op.equalIn, run_underlying hd]) rfl rfl (fun op _ _ => by cases op <;> rfl)

theorem intBin_sound {op : BinOp} {k : IntKind} {a b : Int} {v : Value} (h : intBin op k a b = some v) (t : TypeId) (w : World) : (binOp op t (.int k a) (.int k b)).run P w = .ok v w ∧ atomB v = true := by
  cases op <;> simp [intBin] at h
  case quo => obtain ⟨h0, rfl⟩ := h; exact ⟨by simp [binOp, Op.intDiv, h0], rfl⟩
  case rem => obtain ⟨h0, rfl⟩ := h; exact ⟨by simp [binOp, Op.intDiv, h0], rfl⟩
  all_goals
    subst h
    refine ⟨?_, rfl⟩
    simp [binOp, Op.intArith, Op.intCmp, wrapK_eq, eqI_eq, ltI_eq, leI_eq]
  all_goals rfl

theorem binGen_sound {ι : Inj} {op : BinOp} {t : TypeId} {ox oy : Operand} {x y x' y' v : Value} (h : binGen P op t ox oy x y = some v) (hx : VR ι x x') (hy : VR ι y y') :
    ∃ v', (∀ w, (do eqGuard op t ox oy x' y'; binOp op t x' y' : Sem Value).run P w = .ok v' w) ∧ VR ι v v' := by
  unfold binGen at h
  cases hr : rigidB RD x && rigidB RD y
  · rw [hr, cond_false] at h
    cases hn : nilEq P t x y with
    | none => cases op <;> simp [hn] at h
    | some b =>
      have key := fun w => nilEq_sound hn hx hy w
      cases op <;> simp [hn] at h
      · subst h; exact ⟨.bool b, fun w => by rw [Sem.run_bind, (key w).2.2]; exact (key w).1, .bool b⟩
      · subst h; exact ⟨.bool !b, fun w => by rw [Sem.run_bind, (key w).2.2]; exact (key w).2.1, .bool _⟩
  · rw [hr, cond_true] at h
    simp only [Bool.and_eq_true] at hr
    obtain ⟨h1, h2⟩ := filter_some h
    have ex := hx.rigid _ hr.1
    have ey := hy.rigid _ hr.2
    subst ex; subst ey
    exact ⟨v, fun w => run_pureVal _ h1 w, .refl_rigid _ h2⟩

theorem binA_sound {ι : Inj} {op : BinOp} {t : TypeId} {ox oy : Operand} {x y x' y' v : Value} (h : binA P op t ox oy x y = some v) (hx : VR ι x x') (hy : VR ι y y') :
    ∃ v', (∀ w, (do eqGuard op t ox oy x' y'; binOp op t x' y' : Sem Value).run P w = .ok v' w) ∧ VR ι v v' := by
  unfold binA at h
  split at h
  · rename_i k a k' b
    cases hk : sameKind k k'
    · rw [hk, cond_false] at h; exact binGen_sound h hx hy
    · rw [hk, cond_true] at h
      split at h
      · rename_i u hu
        simp at h; subst h
        have := sameKind_eq hk; subst this
        have ex := hx.int_inv; have ey := hy.int_inv
        subst ex; subst ey
        refine ⟨u, fun w => ?_, .atom (intBin_sound (P := P) hu t default).2⟩
        rw [Sem.run_bind, eqGuard_at_int]
        exact (intBin_sound hu t w).1
      · exact binGen_sound h hx hy
  · exact binGen_sound h hx hy
end

end Go.Lay
