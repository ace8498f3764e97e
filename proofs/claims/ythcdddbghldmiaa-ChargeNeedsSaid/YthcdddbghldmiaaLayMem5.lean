/- Appending. -/
import Derived.Test.YthcdddbghldmiaaLayMem4
set_option linter.unusedVariables false
set_option linter.unusedSimpArgs false
namespace Go.Lay
open Go
section
variable {P : Program} {ι : Inj} {σ : St} {w : World}

/-- One answer drawn; nothing else turns. -/
def drew (w : World) : World := { w with drawn := w.drawn + 1 }
theorem Good.drew (hr : Rep ι σ w) : Good ι σ w ι σ (drew w) :=
  ⟨Ext.refl _ _ _, hr.grown (Nat.le_refl _) (fun _ _ => rfl), ⟨Nat.le_refl _, fun _ _ _ => rfl, rfl, rfl, rfl, fun _ arr elem _ h => .inl ⟨arr, elem, h⟩⟩, Nat.le_refl _, Nat.le_refl _⟩

theorem loadCells_sound {a : Addr} {n : Nat} {cs : List Value} {L : Loc} (h : readRow σ a n = some cs) (hr : Rep ι σ w) (hl : ι.loc a.block (stampOf a) = some L) (hlo : L.lo ≤ a.off) :
    ∃ cs', cs.length = n ∧ VRs ι cs cs' ∧ (loadCells (L.at a.off) n).run P w = .ok ⟨cs'⟩ w := by
  obtain ⟨cs', h1, h2, h3⟩ := readRow_sound h hr hl hlo
  have := run_loadCells_list (P := P) (w := w) (L.at a.off) cs' h3
  rw [← h2.length, h1] at this
  exact ⟨cs', h1, h2, this⟩

theorem srcCells_sound {n cnt : Nat} {x x' : Value} {cs : List Value} (h : srcCells σ n x = some (cnt, cs)) (hr : Rep ι σ w) (hx : VR ι x x') (hn : cs.length = cnt * n) :
    ∃ cs', VRs ι cs cs' ∧ (∀ w, (Builtin.lenOf x').run P w = .ok cnt w) ∧ (Builtin.firstCells n cnt x').run P w = .ok ⟨cs'⟩ w := by
  unfold srcCells at h
  split at h
  · rename_i len cap
    cases hb : Nat.beq len 0 with
    | false => rw [hb, cond_false] at h; cases h
    | true =>
      rw [hb, cond_true] at h
      have := Nat.eq_of_beq_eq_true hb; subst this
      simp at h; obtain ⟨rfl, rfl⟩ := h
      have := hx.slice_none; subst this
      exact ⟨[], .nil, fun w => by simp [Builtin.lenOf], by simp [Builtin.firstCells]⟩
  · rename_i a len cap
    obtain ⟨L, c', A, hl, hlo, hA, _, _, rfl⟩ := hx.slice_inv
    cases hrr : readRow σ a (len * n) with
    | none => simp [hrr] at h
    | some cs0 =>
      simp [hrr] at h; obtain ⟨rfl, rfl⟩ := h
      obtain ⟨cs', h1, h2, h3⟩ := loadRow_at (P := P) hrr hr hl hlo (hA.imp id (fun x => by rw [x.1]; simp))
      exact ⟨cs', h2, fun w => by simp [Builtin.lenOf], by simp [Builtin.firstCells, h3]⟩
  · rename_i s
    have := hx.string_inv; subst this
    simp at h; obtain ⟨rfl, rfl⟩ := h
    refine ⟨s.data.toList.map fun b => .int .u8 b.toNat, VRs.refl_rigid (by rw [List.all_map]; exact List.all_eq_true.2 (fun b _ => rfl)), fun w => by simp [Builtin.lenOf], ?_⟩
    have he : s.extract 0 s.size = s := by
      apply ByteArray.ext; simp
    simp [Builtin.firstCells, he]
    apply Array.ext'; simp
  · cases h

/-- What the model appends. -/
def srcRun (n : Nat) (z : Value) (xd : TypeDesc) (x' : Value) (cnt : Nat) : Sem (Array Value) :=
  match xd with
  | .int _ => if cnt * n = 0 then pure #[] else pure (Builtin.zeroCells z.cells cnt)
  | _ => Builtin.firstCells n cnt x'

theorem appSrc_sound {n cnt : Nat} {z x x' : Value} {xd : TypeDesc} {cs : List Value} (h : appSrc σ n z xd x = some (cnt, cs)) (hr : Rep ι σ w) (hx : VR ι x x') (hn : cs.length = cnt * n) (hz : rigidB RD z = true) :
    ∃ cs', VRs ι cs cs' ∧ (srcRun n z xd x' cnt).run P w = .ok ⟨cs'⟩ w ∧
      ((∃ k, xd = .int k ∧ ∃ q i, x' = .int q i ∧ 0 ≤ i ∧ i ≤ 1073741824 ∧ cnt = i.toNat) ∨ ((∀ k, xd ≠ .int k) ∧ ∀ w, (Builtin.lenOf x').run P w = .ok cnt w)) := by
  unfold appSrc at h
  split at h
  · rename_i k
    split at h
    · rename_i q i
      have := hx.int_inv; subst this
      cases hb : leI 0 i && leI i 1073741824 && Nat.beq z.cells.toList.length n && Nat.blt 0 n with
      | false => rw [hb, cond_false] at h; cases h
      | true =>
        rw [hb, cond_true] at h
        simp only [Bool.and_eq_true, leI_iff] at hb
        obtain ⟨⟨⟨b1, b2⟩, b3⟩, b4⟩ := hb
        have b3 := Nat.eq_of_beq_eq_true b3
        have b4 : 0 < n := (ble_iff 1 n).1 b4
        simp at h; obtain ⟨rfl, rfl⟩ := h
        have hzr : z.cells.toList.all (rigidB RD) = true ∨ True := .inr trivial
        refine ⟨zerosA z.cells.toList i.toNat, ?_, ?_, .inl ⟨k, rfl, q, i, rfl, b1, b2, rfl⟩⟩
        · -- the zero's cells are the same on both sides
          have hzz := (VR.refl_rigid (ι := ι) RD hz).cells
          have : ∀ m, VRs ι (zerosA z.cells.toList m) (zerosA z.cells.toList m) := by
            intro m
            induction m with
            | zero => exact .nil
            | succ m ih => exact VRs.append hzz ih
          exact this _
        · simp only [srcRun]
          have hz2 := range_zeros (z := z.cells.toList) (m := i.toNat) (n := n) b3 (fun _ => b4)
          by_cases h0 : i.toNat * n = 0
          · rw [if_pos h0]
            have : zerosA z.cells.toList i.toNat = [] := by
              apply List.eq_nil_of_length_eq_zero
              rw [zerosA_length, b3]; exact h0
            rw [this]; rfl
          · rw [if_neg h0]
            simp only [Builtin.zeroCells]
            have e1 : z.cells.size = n := by rw [← b3]; simp
            rw [e1]
            have e2 : (⟨z.cells.toList⟩ : Array Value) = z.cells := list_toArray _
            rw [e2, e1] at hz2
            rw [hz2]; rfl
    · cases h
  · rename_i hni
    obtain ⟨cs', h1, h2, h3⟩ := srcCells_sound (P := P) h hr hx hn
    refine ⟨cs', h1, ?_, .inr ⟨fun k hk => hni k hk, h2⟩⟩
    unfold srcRun
    split
    · rename_i k; exact absurd rfl (hni k)
    · exact h3

theorem growBy_le (L : Nat) : ∀ (r c : Nat), Builtin.growBy L r c ≤ max c (L + (L + 768) / 4)
  | 0, c => by simp only [Builtin.growBy]; omega
  | r + 1, c => by
    simp only [Builtin.growBy]
    split
    · omega
    · have := growBy_le L r (c + (c + 768) / 4)
      omega
theorem nextslicecap_le {need cap : Nat} (h : ¬ need ≤ cap) : Builtin.nextslicecap need cap ≤ 2 * need + 1000 := by
  unfold Builtin.nextslicecap
  split
  · omega
  · split
    · omega
    · have := growBy_le need 4 cap
      omega

/-- What an append asks of its numbers. -/
structure AppC (P : Program) (st xt e : TypeId) (n : Nat) (xd : TypeDesc) (info : TypeInfo) (z : Value) (x' : Value) (len cnt : Nat) : Prop where
  st : P.underlying st = some (.slice e)
  size : sizeT P e = some n
  xt : P.underlying xt = some xd
  ei : P.info? e = some info
  zero : info.zero = some z
  zs : z.cells.size = n
  room : len + cnt ≤ 1073741824
  bytes : info.bytes ≤ 4096
  src : (∃ k, xd = .int k ∧ ∃ q i, x' = .int q i ∧ 0 ≤ i ∧ i ≤ 1073741824 ∧ cnt = i.toNat) ∨ ((∀ k, xd ≠ .int k) ∧ ∀ w, (Builtin.lenOf x').run P w = .ok cnt w)

theorem wrap_small {i : Int} (h0 : 0 ≤ i) (h1 : i ≤ 1073741824) : IntKind.i64.wrap i = i := by
  have e1 : (2 : Int) ^ 64 = 18446744073709551616 := by decide
  have e2 : (2 : Int) ^ (64 - 1) = 9223372036854775808 := by decide
  simp only [IntKind.wrap, IntKind.bits, IntKind.signed, e1, e2, Bool.true_and, decide_eq_true_eq]
  split <;> omega

theorem not_big {i : Int} {b : Nat} (h0 : 0 ≤ i) (h1 : i ≤ 1073741824) (hb : b ≤ 4096) : ¬ (2 : Int) ^ 48 < i * b := by
  have a1 : i * b ≤ 1073741824 * 4096 := Int.mul_le_mul h1 (by omega) (by omega) (by omega)
  have a2 : (1073741824 * 4096 : Int) ≤ 2 ^ 48 := by decide
  omega
theorem not_big' {c b : Nat} (hc : c ≤ 4294967296) (hb : b ≤ 4096) : ¬ 2 ^ 48 < c * b := by
  have a1 : c * b ≤ 4294967296 * 4096 := Nat.mul_le_mul hc hb
  have a2 : 4294967296 * 4096 ≤ 2 ^ 48 := by decide
  omega

theorem append_inplace {st xt e : TypeId} {n : Nat} {xd : TypeDesc} {info : TypeInfo} {z x' : Value} {len cnt cap' : Nat} {base : Option Addr} {new : Array Value} {w' : World} {ty : TypeId}
    (h : AppC P st xt e n xd info z x' len cnt) (hle : len + cnt ≤ cap') (hs : (srcRun n z xd x' cnt).run P w = .ok new w)
    (hw : match base with | some a => (storeCells (a.add (len * n)) new.toList).run P w = .ok () w' | none => w' = w) :
    (Builtin.append_ #[st, xt] ty #[.slice base len cap', x']).run P w = .ok (.slice base (len + cnt) cap') w' := by
  have hz : (zeroValue e).run P w = .ok z w := by simp [zeroValue, typeInfo, h.ei, h.zero]
  rcases h.src with ⟨k, rfl, q, i, rfl, h0, h1, rfl⟩ | ⟨hk, hlen⟩
  · have hw1 := wrap_small h0 h1
    have hb := not_big h0 h1 h.bytes
    have hneg : ¬ i < 0 := by omega
    have hs2 : (if (!true) = true then Builtin.firstCells n i.toNat (.int q i) else if i.toNat * n = 0 then pure #[] else do pure (Builtin.zeroCells (← zeroValue e).cells i.toNat) : Sem (Array Value)).run P w = .ok new w := by
      simp only [srcRun] at hs
      simp only [Bool.not_true, Bool.false_eq_true, if_false]
      split
      · rename_i h0; rw [if_pos h0] at hs; exact hs
      · rename_i h0; rw [if_neg h0] at hs; rw [Sem.run_bind, hz]; exact hs
    unfold Builtin.append_
    simp only [List.getElem?_toArray, List.getElem?_cons_zero, List.getElem?_cons_succ, Sem.run_bind, run_underlying h.st, run_underlying h.xt, run_sizeT h.size, Result.andThen_ok, Sem.run_pure]
    simp only [asInt, asIntOf, pure_bind, Sem.run_bind, Sem.run_pure, Result.andThen_ok, hw1, run_info h.ei]
    rw [if_pos trivial, if_neg hneg, Sem.run_bind, run_info h.ei, Result.andThen_ok, if_neg hb]
    simp only [if_pos hle, Sem.run_bind, hs2, Result.andThen_ok]
    cases base with
    | none => simp only at hw; subst hw; rfl
    | some a => simp only at hw ⊢; rw [Sem.run_bind, hw]; rfl
  · have hs2 : (if (!false) = true then Builtin.firstCells n cnt x' else if cnt * n = 0 then pure #[] else do pure (Builtin.zeroCells (← zeroValue e).cells cnt) : Sem (Array Value)).run P w = .ok new w := by
      rw [Bool.not_false, if_pos rfl]
      cases xd with
      | int k => exact absurd rfl (hk k)
      | _ => exact hs
    unfold Builtin.append_
    simp only [List.getElem?_toArray, List.getElem?_cons_zero, List.getElem?_cons_succ, Sem.run_bind, run_underlying h.st, run_underlying h.xt, run_sizeT h.size, Result.andThen_ok, Sem.run_pure]
    cases xd with
    | int k => exact absurd rfl (hk k)
    | _ =>
      rw [if_neg (by simp), Sem.run_bind, hlen, Result.andThen_ok]
      simp only [if_pos hle, Sem.run_bind, hs2, Result.andThen_ok]
      cases base with
      | none => simp only at hw; subst hw; rfl
      | some a => simp only at hw ⊢; rw [Sem.run_bind, hw]; rfl

theorem append_grow {st xt e : TypeId} {n : Nat} {xd : TypeDesc} {info : TypeInfo} {z x' : Value} {len cnt cap' : Nat} {base : Option Addr} {old new : Array Value} {ty : TypeId}
    (h : AppC P st xt e n xd info z x' len cnt) (hgt : ¬ len + cnt ≤ cap') (ho : (Builtin.firstCells n len (.slice base len cap')).run P (drew w) = .ok old (drew w))
    (hs : (srcRun n z xd x' cnt).run P (drew w) = .ok new (drew w)) :
    ∃ newCap, len + cnt ≤ newCap ∧ (Builtin.append_ #[st, xt] ty #[.slice base len cap', x']).run P w =
      .ok (.slice (some ⟨w.heap.size, 0, none⟩) (len + cnt) newCap) (World.push (drew w) (.cells (old ++ new ++ Builtin.zeroCells z.cells (newCap - (len + cnt))) e)) := by
  have hz : (zeroValue e).run P (drew w) = .ok z (drew w) := by simp [zeroValue, typeInfo, h.ei, h.zero]
  have hroom := h.room
  have hmax : ¬ ((len + cnt : Nat) : Int) > IntKind.i64.max := by
    have : IntKind.i64.max = 9223372036854775807 := by decide
    rw [this]; omega
  have hnext := nextslicecap_le hgt
  have hbig := not_big' (c := Builtin.nextslicecap (len + cnt) cap') (b := info.bytes) (by omega) h.bytes
  refine ⟨(Question.appendCap (len + cnt) cap' e).cut (w.tape w.drawn (.appendCap (len + cnt) cap' e)), by simp [Question.cut], ?_⟩
  have hch : (choose (.appendCap (len + cnt) cap' e)).run P w = .ok ((Question.appendCap (len + cnt) cap' e).cut (w.tape w.drawn (.appendCap (len + cnt) cap' e))) (drew w) := by
    simp [Question.forced, drew]
  generalize (Question.appendCap (len + cnt) cap' e).cut (w.tape w.drawn (.appendCap (len + cnt) cap' e)) = newCap at hch ⊢
  rcases h.src with ⟨k, rfl, q, i, rfl, h0, h1, rfl⟩ | ⟨hk, hlen⟩
  · have hw1 := wrap_small h0 h1
    have hb := not_big h0 h1 h.bytes
    have hneg : ¬ i < 0 := by omega
    have hs2 : (if (!true) = true then Builtin.firstCells n i.toNat (.int q i) else if i.toNat * n = 0 then pure #[] else do pure (Builtin.zeroCells (← zeroValue e).cells i.toNat) : Sem (Array Value)).run P (drew w) = .ok new (drew w) := by
      simp only [srcRun] at hs
      simp only [Bool.not_true, Bool.false_eq_true, if_false]
      split
      · rename_i h0; rw [if_pos h0] at hs; exact hs
      · rename_i h0; rw [if_neg h0] at hs; rw [Sem.run_bind, hz]; exact hs
    unfold Builtin.append_
    simp only [List.getElem?_toArray, List.getElem?_cons_zero, List.getElem?_cons_succ, Sem.run_bind, run_underlying h.st, run_underlying h.xt, run_sizeT h.size, Result.andThen_ok, Sem.run_pure]
    simp only [asInt, asIntOf, pure_bind, Sem.run_bind, Sem.run_pure, Result.andThen_ok, hw1, run_info h.ei]
    rw [if_pos trivial, if_neg hneg, Sem.run_bind, run_info h.ei, Result.andThen_ok, if_neg hb]
    simp only [if_neg hgt, Sem.run_bind, run_info h.ei, Result.andThen_ok]
    rw [if_neg (fun x => hmax x.1)]
    simp only [Sem.run_bind, run_info h.ei, Result.andThen_ok]
    rw [if_neg hbig]
    simp only [Sem.run_bind, hch, run_info h.ei, Result.andThen_ok, run_askRoom, ho, hs2, hz]
    rfl
  · have hs2 : (if (!false) = true then Builtin.firstCells n cnt x' else if cnt * n = 0 then pure #[] else do pure (Builtin.zeroCells (← zeroValue e).cells cnt) : Sem (Array Value)).run P (drew w) = .ok new (drew w) := by
      rw [Bool.not_false, if_pos rfl]
      cases xd with
      | int k => exact absurd rfl (hk k)
      | _ => exact hs
    unfold Builtin.append_
    simp only [List.getElem?_toArray, List.getElem?_cons_zero, List.getElem?_cons_succ, Sem.run_bind, run_underlying h.st, run_underlying h.xt, run_sizeT h.size, Result.andThen_ok, Sem.run_pure]
    cases xd with
    | int k => exact absurd rfl (hk k)
    | _ =>
      rw [if_neg (by simp), Sem.run_bind, hlen, Result.andThen_ok]
      simp only [if_neg hgt, Sem.run_bind, run_info h.ei, Result.andThen_ok]
      rw [if_neg (fun x => hmax x.1)]
      simp only [Sem.run_bind, run_info h.ei, Result.andThen_ok]
      rw [if_neg hbig]
      simp only [Sem.run_bind, hch, run_info h.ei, Result.andThen_ok, run_askRoom, ho, hs2, hz]
      rfl
end
end Go.Lay
