/- Operations that look at no memory, on: parts, addresses, slices of slices; all of them. -/
import Derived.Test.YthcdddbghldmiaaLayVal
set_option linter.unusedVariables false
set_option linter.unusedSimpArgs false
namespace Go.Lay
open Go
section
variable {P : Program} {ι : Inj}

theorem partA_sound {t : TypeId} {cs cs' : List Value} {off : Nat} {v : Value} (h : partA P t cs off = some v) (hc : VRs ι cs cs') :
    ∃ v', (∀ w, (part t ⟨cs'⟩ off).run P w = .ok v' w) ∧ VR ι v v' := by
  unfold partA at h
  split at h
  · rename_i n ha hs
    simp at h; subst h
    refine ⟨.agg ⟨(cs'.drop off).take n⟩, fun w => ?_, .agg' ((hc.drop off).take n)⟩
    simp [part, run_aggT ha, run_sizeT hs]
  · rename_i _ ha
    obtain ⟨v', h1, h2⟩ := hc.get_some h
    refine ⟨v', fun w => ?_, h2⟩
    simp [part, run_aggT ha, h1]
  · cases h

/-! ### Filling -/
theorem setAll : ∀ (l : List Value) (k off : Nat) (cells : Array Value), off + k + l.length ≤ cells.size →
    ((l.zipIdx k).foldl (fun cs (x : Value × Nat) => cs.setIfInBounds (off + x.2) x.1) cells).toList = cells.toList.take (off + k) ++ (l ++ cells.toList.drop (off + k + l.length)) := by
  intro l
  induction l with
  | nil => intro k off cells h; simp
  | cons x l ih =>
    intro k off cells h
    simp only [List.zipIdx_cons, List.foldl_cons]
    rw [ih (k + 1) off _ (by simp at h ⊢; omega)]
    simp only [Array.toList_setIfInBounds, List.length_cons]
    simp only [List.length_cons] at h
    have hlt : off + k < cells.toList.length := by simp; omega
    have e1 : (cells.toList.set (off + k) x).take (off + (k + 1)) = cells.toList.take (off + k) ++ [x] := by
      rw [show off + (k + 1) = off + k + 1 by omega, List.take_succ_eq_append_getElem (by simpa using hlt)]
      rw [List.take_set_of_le (Nat.le_refl _)]
      simp
    have e2 : (cells.toList.set (off + k) x).drop (off + (k + 1) + l.length) = cells.toList.drop (off + k + (l.length + 1)) := by
      rw [List.drop_set_of_lt (by omega)]
      congr 1; omega
    rw [e1, e2]; simp

theorem fillA_sound {place : Nat → Option (Nat × Nat)} : ∀ {parts parts' : List (Nat × Value)} {cs cs' out : List Value}, fillA place cs parts = some out → VRs ι cs cs' →
    parts.map (·.1) = parts'.map (·.1) → VRs ι (parts.map (·.2)) (parts'.map (·.2)) → ∃ out', Instr.fill place ⟨cs'⟩ parts' = some ⟨out'⟩ ∧ VRs ι out out' := by
  intro parts
  induction parts with
  | nil =>
    intro parts' cs cs' out h hc h1 h2
    cases parts' with
    | nil => simp [fillA] at h; subst h; exact ⟨cs', by simp [Instr.fill], hc⟩
    | cons _ _ => simp at h1
  | cons p parts ih =>
    intro parts' cs cs' out h hc h1 h2
    cases parts' with
    | nil => simp at h1
    | cons q parts' =>
      obtain ⟨i, v⟩ := p
      obtain ⟨j, v'⟩ := q
      simp only [List.map_cons, List.cons.injEq] at h1
      obtain ⟨rfl, h1⟩ := h1
      cases h2 with
      | cons hv h2 =>
        simp only [fillA] at h
        cases hp : place i with
        | none => simp [hp] at h
        | some os =>
          obtain ⟨off, size⟩ := os
          simp only [hp] at h
          have hcv := hv.cells
          cases hb : Nat.beq v.cells.toList.length size && Nat.ble (off + size) cs.length with
          | false => rw [hb] at h; simp at h
          | true =>
            rw [hb, cond_true] at h
            simp only [Bool.and_eq_true] at hb
            have e1 := Nat.eq_of_beq_eq_true hb.1
            have e2 := (ble_iff _ _).1 hb.2
            have e3 : v'.cells.size = size := by rw [← e1, hcv.length]; simp
            have e4 : off + size ≤ cs'.length := by rw [← hc.length]; exact e2
            have hs := setAll v'.cells.toList 0 off ⟨cs'⟩ (by simp [e3]; exact e4)
            obtain ⟨out', ho, hr⟩ := ih h (VRs.append (hc.take off) (VRs.append hcv (hc.drop (off + size)))) h1 h2
            refine ⟨out', ?_, hr⟩
            simp only [Instr.fill, hp]
            rw [if_neg (by simp [e3]; omega)]
            have e5 : (v'.cells.zipIdx.foldl (fun cs (x : Value × Nat) => cs.setIfInBounds (off + x.2) x.1) (⟨cs'⟩ : Array Value)) = ⟨cs'.take off ++ (v'.cells.toList ++ cs'.drop (off + size))⟩ := by
              apply Array.ext'
              rw [← Array.foldl_toList, Array.toList_zipIdx, hs]
              simp [e3]
            rw [e5]; exact ho

theorem places_run {fs : Array Field} {ps : List (Nat × Nat)} (h : placesOf P fs = some ps) (w : World) :
    (fs.mapM (m := Sem) fun f => Prod.mk f.offset <$> sizeOf f.type).run P w = .ok ⟨ps⟩ w := by
  have key : ∀ (l : List Field) (ps : List (Nat × Nat)), (l.mapM fun f => (sizeT P f.type).map fun n => (f.offset, n)) = some ps →
      (l.mapM (m := Sem) fun f => Prod.mk f.offset <$> sizeOf f.type).run P w = .ok ps w := by
    intro l
    induction l with
    | nil => intro ps h; simp at h; subst h; simp
    | cons f l ih =>
      intro ps h
      simp only [List.mapM_cons] at h
      cases hs : sizeT P f.type with
      | none => simp [hs] at h
      | some n =>
        simp only [hs, Option.map_some] at h
        cases hl : (l.mapM fun f => (sizeT P f.type).map fun n => (f.offset, n)) with
        | none => simp [hl] at h
        | some qs =>
          simp [hl] at h; subst h
          simp [List.mapM_cons, run_sizeT hs, ih qs hl]
  rw [Array.mapM_eq_mapM_toList]
  simp [key fs.toList ps h]

theorem buildA_sound {t : TypeId} {parts parts' : List (Nat × Value)} {v : Value} (h : buildA P t parts = some v)
    (h1 : parts.map (·.1) = parts'.map (·.1)) (h2 : VRs ι (parts.map (·.2)) (parts'.map (·.2))) (hz : ∀ z, zeroT P t = some z → VR ι z z) :
    ∃ v', (∀ w, (Instr.build t ⟨parts'⟩).run P w = .ok v' w) ∧ VR ι v v' := by
  unfold buildA at h
  split at h
  · rename_i z fs hz' hd
    cases hp : placesOf P fs with
    | none => simp [hp] at h
    | some ps =>
      simp only [hp] at h
      cases hf : fillA (fun i => ps[i]?) z.cells.toList parts with
      | none => simp [hf] at h
      | some cs =>
        simp [hf] at h; subst h
        obtain ⟨out', ho, hr⟩ := fillA_sound hf (hz z hz').cells h1 h2
        refine ⟨.agg ⟨out'⟩, fun w => ?_, .agg' hr⟩
        have ho' : Instr.fill (fun i => ps[i]?) z.cells parts' = some ⟨out'⟩ := by simpa [list_toArray] using ho
        simp [Instr.build, run_zeroT hz', run_underlying hd, places_run hp, ho']
  · rename_i z n elem hz' hd
    cases hs : sizeT P elem with
    | none => simp [hs] at h
    | some m =>
      simp only [hs] at h
      cases hf : fillA (fun i => some (i * m, m)) z.cells.toList parts with
      | none => simp [hf] at h
      | some cs =>
        simp [hf] at h; subst h
        obtain ⟨out', ho, hr⟩ := fillA_sound hf (hz z hz').cells h1 h2
        refine ⟨.agg ⟨out'⟩, fun w => ?_, .agg' hr⟩
        have ho' : Instr.fill (fun i => some (i * m, m)) z.cells parts' = some ⟨out'⟩ := by simpa [list_toArray] using ho
        simp [Instr.build, run_zeroT hz', run_underlying hd, run_sizeT hs, ho']
  · cases h

/-! ### Addresses -/
theorem at_add (L : Loc) (off n : Nat) (h : L.lo ≤ off) : (L.at off).add n = L.at (off + n) := by
  unfold Loc.at Addr.add
  split
  · subst_vars; rfl
  · simp; omega
theorem leI_iff (a b : Int) : leI a b = true ↔ a ≤ b := by rw [leI_eq]; simp
theorem ltI_iff (a b : Int) : ltI a b = true ↔ a < b := by rw [ltI_eq]; simp

theorem indexAddrA_sound {t : TypeId} {x ix x' ix' v : Value} (h : indexAddrA P t x ix = some v) (hx : VR ι x x') (hi : VR ι ix ix') :
    ∃ v', (∀ w, (Instr.indexAt t x' ix').run P w = .ok v' w) ∧ VR ι v v' := by
  unfold indexAddrA at h
  split at h
  · rename_i i a len elem hd
    have := hi.int_inv; subst this
    obtain ⟨L, hl, hlo, rfl⟩ := hx.ptr_inv
    cases hs : sizeT P elem with
    | none => simp [hs] at h
    | some n =>
      simp only [hs] at h
      cases hb : leI 0 i && ltI i (.ofNat len) with
      | false => rw [hb, cond_false] at h; cases h
      | true =>
        rw [hb, cond_true] at h; simp at h; subst h
        simp only [Bool.and_eq_true, leI_iff, ltI_iff] at hb
        refine ⟨.pointer (some (L.at (a.off + i.toNat * n))), fun w => ?_, .ptr (a := aadd a (i.toNat * n)) hl (by simp [aadd]; omega)⟩
        have hb2 : i < (len : Int) := hb.2
        simp [Instr.indexAt, asIntOf, run_underlying hd, Instr.sureAddr, hb.1, hb2, run_sizeT hs, at_add _ _ _ hlo]
  · rename_i i a len cap elem hd
    have := hi.int_inv; subst this
    obtain ⟨L, c', A, hl, hlo, hA, _, _, rfl⟩ := hx.slice_inv
    cases hs : sizeT P elem with
    | none => simp [hs] at h
    | some n =>
      simp only [hs] at h
      cases hb : leI 0 i && ltI i (.ofNat len) with
      | false => rw [hb, cond_false] at h; cases h
      | true =>
        rw [hb, cond_true] at h; simp at h; subst h
        simp only [Bool.and_eq_true, leI_iff, ltI_iff] at hb
        refine ⟨.pointer (some (L.at (a.off + i.toNat * n))), fun w => ?_, .ptr (a := aadd a (i.toNat * n)) hl (by simp [aadd]; omega)⟩
        have hb2 : i < (len : Int) := hb.2
        rcases hA with rfl | ⟨e0, _, _⟩
        · simp [Instr.indexAt, asIntOf, run_underlying hd, hb.1, hb2, run_sizeT hs, at_add _ _ _ hlo]
        · exfalso; have := hb.1; omega
  · cases h

theorem fieldsOf_some {t : TypeId} {fs : Array Field} (h : fieldsOf P t = some fs) : P.underlying t = some (.struct fs) := by
  unfold fieldsOf at h; split at h <;> simp_all

theorem fieldAddrA_sound {t : TypeId} {x x' v : Value} {f : Nat} (h : fieldAddrA P t x f = some v) (hx : VR ι x x') :
    ∃ v', (∀ w, (Instr.fieldAt t x' f).run P w = .ok v' w) ∧ VR ι v v' := by
  unfold fieldAddrA at h
  split at h
  · rename_i a fs hf
    have hd := fieldsOf_some hf
    obtain ⟨L, hl, hlo, rfl⟩ := hx.ptr_inv
    split at h
    · rename_i fd hfd
      split at h
      · cases h
      · rename_i n hn hs
        simp at h; subst h
        refine ⟨.pointer (some (L.at (a.off + fd.offset))), fun w => ?_, .ptr (a := aadd a fd.offset) hl (by simp [aadd]; omega)⟩
        have hn0 : ¬ n = 0 := hn
        simp [Instr.fieldAt, run_underlying hd, hfd, Instr.sureAddr, fieldPlace, run_sizeT hs, at_add _ _ _ hlo, hn0]
      · cases h
    · cases h
  · cases h

theorem fieldA_sound {t : TypeId} {x x' v : Value} {f : Nat} (h : fieldA P t x f = some v) (hx : VR ι x x') :
    ∃ v', (∀ w, (Instr.field t x' f).run P w = .ok v' w) ∧ VR ι v v' := by
  unfold fieldA at h
  split at h
  · rename_i cs fs hf
    have hd := fieldsOf_some hf
    obtain ⟨c', rfl, hc⟩ := hx.agg_inv
    split at h
    · rename_i fd hfd
      obtain ⟨v', h1, h2⟩ := partA_sound h hc
      rw [list_toArray] at h1
      exact ⟨v', fun w => by simp [Instr.field, run_underlying hd, hfd, asAgg, h1], h2⟩
    · cases h
  · cases h

theorem indexA_sound {t : TypeId} {x ix x' ix' v : Value} (h : indexA P t x ix = some v) (hx : VR ι x x') (hi : VR ι ix ix') :
    ∃ v', (∀ w, (Instr.index t x' ix').run P w = .ok v' w) ∧ VR ι v v' := by
  unfold indexA at h
  split at h
  · rename_i i cs len elem hd
    have := hi.int_inv; subst this
    obtain ⟨c', rfl, hc⟩ := hx.agg_inv
    cases hs : sizeT P elem with
    | none => simp [hs] at h
    | some n =>
      simp only [hs] at h
      cases hb : leI 0 i && ltI i (.ofNat len) with
      | false => rw [hb, cond_false] at h; cases h
      | true =>
        rw [hb, cond_true] at h
        simp only [Bool.and_eq_true, leI_iff, ltI_iff] at hb
        obtain ⟨v', h1, h2⟩ := partA_sound h hc
        rw [list_toArray] at h1
        have hb2 : i < (len : Int) := hb.2
        exact ⟨v', fun w => by simp [Instr.index, asIntOf, run_underlying hd, hb.1, hb2, run_sizeT hs, h1], h2⟩
  · rename_i i s hd
    have := hi.int_inv; subst this
    have := hx.string_inv; subst this
    by_cases h0 : 0 ≤ i
    · rw [if_pos h0] at h
      cases hb : s[i.toNat]? with
      | none => simp [hb] at h
      | some b =>
        simp [hb] at h; subst h
        exact ⟨_, fun w => by simp [Instr.index, asIntOf, run_underlying hd, h0, hb], .int _ _⟩
    · rw [if_neg h0] at h; cases h
  · cases h

theorem boundA_some {o o' : Option Value} {d top n : Nat} (h : boundA o d top = some n) (hr : ∀ x, o = some x → ∃ x', o' = some x' ∧ VR ι x x') (hn : o = none → o' = none) :
    (o = none ∧ o' = none ∧ n = d) ∨ (∃ k i, o = some (.int k i) ∧ o' = some (.int k i) ∧ 0 ≤ i ∧ i ≤ top ∧ n = i.toNat) := by
  unfold boundA at h
  split at h
  · simp at h; exact .inl ⟨rfl, hn rfl, h.symm⟩
  · rename_i k i
    obtain ⟨x', h1, h2⟩ := hr _ rfl
    have := h2.int_inv; subst this
    cases hb : leI 0 i && leI i (.ofNat top) with
    | false => rw [hb, cond_false] at h; cases h
    | true =>
      rw [hb, cond_true] at h
      simp only [Bool.and_eq_true, leI_iff] at hb
      simp at h
      exact .inr ⟨k, i, rfl, h1, hb.1, hb.2, h.symm⟩
  · cases h
theorem sliceBound_run {k : IntKind} {i : Int} {y n : Nat} (h0 : 0 ≤ i) (h1 : i ≤ y) (hn : n = i.toNat) (c : BoundsCode) (w : World) : (Instr.sliceBound (.int k i) y c).run P w = .ok n w := by
  simp [Instr.sliceBound, asIntOf, h0, h1, hn]

/-! ### All of them -/
theorem ev_list {ev ev' : Operand → Value} : ∀ (l : List Operand), (∀ x ∈ l, VR ι (ev x) (ev' x)) → VRs ι (l.map ev) (l.map ev')
  | [], _ => .nil
  | x :: l, h => .cons (h x (by simp)) (ev_list l fun y hy => h y (by simp [hy]))

theorem rigid_list {l l' : List Value} (h : VRs ι l l') (hr : l.all (rigidB RD) = true) : l = l' := by
  induction h with
  | nil => rfl
  | cons h _ ih =>
    simp only [List.all_cons, Bool.and_eq_true] at hr
    rw [h.rigid _ hr.1, ih hr.2]

def zeroOk (P : Program) : Prop := ∀ t z, zeroT P t = some z → rigidB RD z = true

theorem valOp_sound {o : Oper} {ev ev' : Operand → Value} {v : Value} (hz : zeroOk P) (h : valOp P ev o.op = some v) (hev : ∀ x ∈ o.op.operands, VR ι (ev x) (ev' x)) :
    ∃ v', (∀ w, (execOp ev' o).run P w = .ok (.value v') w) ∧ VR ι v v' := by
  unfold valOp at h
  split at h
  · -- move
    rename_i x ho
    simp at h; subst h
    exact ⟨ev' x, fun w => by simp [execOp, ho], hev x (by simp [ho, Op.operands])⟩
  · rename_i x ho
    simp at h; subst h
    exact ⟨ev' x, fun w => by simp [execOp, ho], hev x (by simp [ho, Op.operands])⟩
  · -- pick
    rename_i c a b ho
    have hc := hev c (by simp [ho, Op.operands])
    split at h
    · rename_i t ht
      rw [ht] at hc
      have e := hc.bool_inv
      simp at h; subst h
      cases t
      · exact ⟨ev' b, fun w => by simp [execOp, ho, e, asBool], hev b (by simp [ho, Op.operands])⟩
      · exact ⟨ev' a, fun w => by simp [execOp, ho, e, asBool], hev a (by simp [ho, Op.operands])⟩
    · cases h
  · -- nilCheck
    rename_i x ho
    have hx := hev x (by simp [ho, Op.operands])
    split at h
    · rename_i a ha
      rw [ha] at hx
      obtain ⟨L, hl, hlo, e⟩ := hx.ptr_inv
      simp at h; subst h
      exact ⟨_, fun w => by simp [execOp, ho, e], .ptr hl hlo⟩
    · cases h
  · -- binOp
    rename_i op t x y yt ho
    obtain ⟨v', h1, h2⟩ := binA_sound h (hev x (by simp [ho, Op.operands])) (hev y (by simp [ho, Op.operands]))
    refine ⟨v', fun w => ?_, h2⟩
    have := h1 w
    simp only [Sem.run_bind] at this
    simp [execOp, ho]
    generalize (eqGuard op t x y (ev' x) (ev' y)).run P w = r at this ⊢
    cases r with
    | ok a w1 => simp at this ⊢; rw [this]; rfl
    | halt a w1 => simp at this
  · -- unOp
    rename_i op t x ho
    have hx := hev x (by simp [ho, Op.operands])
    split at h
    · rename_i b hb
      rw [hb] at hx
      have e := hx.bool_inv
      simp at h; subst h
      exact ⟨_, fun w => by simp [execOp, ho, e, Op.unary], .bool _⟩
    · rename_i k n hn
      rw [hn] at hx
      have e := hx.int_inv
      simp at h; subst h
      exact ⟨_, fun w => by simp [execOp, ho, e, Op.unary, Op.intArith, wrapK_eq]; exact congrArg _ (Int.zero_sub n).symm, .int _ _⟩
    · cases hr : rigidB RD (ev x) with
      | false => rw [hr, cond_false] at h; cases h
      | true =>
        rw [hr, cond_true] at h
        obtain ⟨h1, h2⟩ := filter_some h
        have e := hx.rigid _ hr
        exact ⟨v, fun w => by rw [e] at h1; simp [execOp, ho, run_pureVal _ h1], .refl_rigid _ h2⟩
  · -- convert
    rename_i s d x ho
    have hx := hev x (by simp [ho, Op.operands])
    split at h
    · rename_i sd k k' n hs hd hn
      rw [hn] at hx
      have e := hx.int_inv
      simp at h; subst h
      exact ⟨_, fun w => by simp [execOp, ho, e, convert, run_underlying hs, run_underlying hd, Conv.intToInt, wrapK_eq], .int _ _⟩
    · cases hr : rigidB RD (ev x) with
      | false => rw [hr, cond_false] at h; cases h
      | true =>
        rw [hr, cond_true] at h
        obtain ⟨h1, h2⟩ := filter_some h
        have e := hx.rigid _ hr
        exact ⟨v, fun w => by rw [e] at h1; simp [execOp, ho, run_pureVal _ h1], .refl_rigid _ h2⟩
  · -- build
    rename_i t ps ho
    obtain ⟨v', h1, h2⟩ := buildA_sound (parts' := ps.toList.map fun p => (p.1, ev' p.2)) h (by simp [List.map_map, Function.comp_def])
      (by
        have := ev_list (ps.toList.map (·.2)) (ev := ev) (ev' := ev') (fun x hx => hev x (by simp [ho, Op.operands] at hx ⊢; exact hx))
        simpa [List.map_map, Function.comp_def] using this)
      (fun z hz' => .refl_rigid _ (hz t z hz'))
    refine ⟨v', fun w => ?_, h2⟩
    have e : ps.map (fun (i, x) => (i, ev' x)) = (⟨ps.toList.map fun p => (p.1, ev' p.2)⟩ : Array (Nat × Value)) := by
      apply Array.ext'; simp
    simp only [execOp, ho, e]
    simp [h1 w]
  · -- makeInterface
    rename_i t x ho
    split at h
    · cases h
    · rename_i d hni hd
      simp at h; subst h
      refine ⟨.iface t (ev' x), fun w => ?_, .iface (hev x (by simp [ho, Op.operands]))⟩
      simp [execOp, ho, Instr.makeInterface, run_underlying hd]
    · cases h
  · -- makeFunc
    rename_i fn first cap ho
    split at h
    · rename_i g
      simp at h; subst h
      have k1 := ev_list first.toList (ev := ev) (ev' := ev') (fun x hx => hev x (by simp [ho, Op.operands] at hx ⊢; exact .inl hx))
      have k2 := ev_list cap.toList (ev := ev) (ev' := ev') (fun x hx => hev x (by simp [ho, Op.operands] at hx ⊢; exact .inr hx))
      refine ⟨.func (.func g) (first.map ev') (cap.map ev'), fun w => by simp [execOp, ho, Instr.makeFunc], ?_⟩
      refine .func (.func g) (by simp) (fun i v v' h1 h2 => ?_) (by simp) (fun i v v' h1 h2 => ?_)
      · exact k1.get i v v' (by simpa using h1) (by simpa using h2)
      · exact k2.get i v v' (by simpa using h1) (by simpa using h2)
    · cases h
  · rename_i s x f ho
    obtain ⟨v', h1, h2⟩ := fieldAddrA_sound h (hev x (by simp [ho, Op.operands]))
    exact ⟨v', fun w => by simp [execOp, ho, h1 w], h2⟩
  · rename_i t x f ho
    obtain ⟨v', h1, h2⟩ := fieldA_sound h (hev x (by simp [ho, Op.operands]))
    exact ⟨v', fun w => by simp [execOp, ho, h1 w], h2⟩
  · rename_i t x i ho
    obtain ⟨v', h1, h2⟩ := indexAddrA_sound h (hev x (by simp [ho, Op.operands])) (hev i (by simp [ho, Op.operands]))
    exact ⟨v', fun w => by simp [execOp, ho, h1 w], h2⟩
  · rename_i t x i ho
    obtain ⟨v', h1, h2⟩ := indexA_sound h (hev x (by simp [ho, Op.operands])) (hev i (by simp [ho, Op.operands]))
    exact ⟨v', fun w => by simp [execOp, ho, h1 w], h2⟩
  · -- extract
    rename_i t i ho
    have ht := hev t (by simp [ho, Op.operands])
    split at h
    · rename_i vs hvs
      rw [hvs] at ht
      obtain ⟨c', e, hc⟩ := ht.tuple_inv
      obtain ⟨v', h1, h2⟩ := hc.get_some h
      exact ⟨v', fun w => by simp [execOp, ho, e, Instr.extract, show c'[i]? = some v' by simpa using h1], h2⟩
    · cases h
  · -- calls of builtins
    rename_i c ho
    have hargs := ev_list c.args.toList (ev := ev) (ev' := ev') (fun x hx => hev x (by simp [ho, Op.operands, Call.operands] at hx ⊢; exact .inr hx))
    have eargs : c.args.map ev' = (⟨c.args.toList.map ev'⟩ : Array Value) := by apply Array.ext'; simp
    have run : ∀ {b : Builtin} {v' : Value} (w : World), c.callee = .builtin b → (∀ consts, (builtin b c.argTypes o.type consts ⟨c.args.toList.map ev'⟩).run P w = .ok (.value v') w) →
        (execOp ev' o).run P w = .ok (.value v') w := by
      intro b v' w hb hr
      simp only [execOp, ho, resolve, hb, eargs]
      simp [invoke, hr]
    split at h
    · -- len
      rename_i hcal
      split at h
      · rename_i t x l ht hl
        rw [hl] at hargs
        have ht0 : c.argTypes[0]? = some t := by simpa using ht
        generalize hl' : c.args.toList.map ev' = l' at hargs run
        cases hargs with
        | cons hx hrest =>
          rename_i x' rest'
          split at h
          · rename_i e a n cp hd
            simp at h; subst h
            refine ⟨goInt n, fun w => run w hcal fun _ => ?_, .int _ _⟩
            cases a with
            | none => have := hx.slice_none; subst this; simp [builtin, Builtin.len_, ht0, run_underlying hd]
            | some a => obtain ⟨L, c', A, _, _, _, _, _, rfl⟩ := hx.slice_inv; simp [builtin, Builtin.len_, ht0, run_underlying hd]
          · rename_i s hd
            simp at h; subst h
            have := hx.string_inv; subst this
            exact ⟨goInt _, fun w => run w hcal (fun _ => by simp [builtin, Builtin.len_, ht0, run_underlying hd]), .int _ _⟩
          · rename_i n e hd
            simp at h; subst h
            exact ⟨goInt _, fun w => run w hcal (fun _ => by simp [builtin, Builtin.len_, ht0, run_underlying hd]), .int _ _⟩
          · rename_i k e hd
            simp at h; subst h
            have := hx.map_none; subst this
            exact ⟨goInt _, fun w => run w hcal (fun _ => by simp [builtin, Builtin.len_, ht0, run_underlying hd]), .int _ _⟩
          · cases h
      · cases h
    · -- cap
      rename_i hcal
      split at h
      · rename_i t x l ht hl
        rw [hl] at hargs
        have ht0 : c.argTypes[0]? = some t := by simpa using ht
        generalize hl' : c.args.toList.map ev' = l' at hargs run
        cases hargs with
        | cons hx hrest =>
          rename_i x' rest'
          split at h
          · rename_i e a n cp hd
            cases hex : capExact cp with
            | false => rw [hex, cond_false] at h; cases h
            | true =>
              rw [hex, cond_true] at h
              simp at h; subst h
              refine ⟨goInt cp, fun w => run w hcal fun _ => ?_, .int _ _⟩
              cases a with
              | none => have := hx.slice_none; subst this; simp [builtin, Builtin.cap_, ht0, run_underlying hd]
              | some a =>
                obtain ⟨L, c', A, _, _, _, hc, _, rfl⟩ := hx.slice_inv
                unfold capR at hc
                rw [if_pos hex] at hc; subst hc
                simp [builtin, Builtin.cap_, ht0, run_underlying hd]
          · cases h
      · cases h
    · rename_i hcal
      cases hr : (c.args.toList.map ev).all (rigidB RD) with
      | false => rw [hr, cond_false] at h; cases h
      | true =>
        rw [hr, cond_true] at h
        obtain ⟨h1, h2⟩ := filter_some h
        have e := rigid_list hargs hr
        rw [e] at h1
        refine ⟨v, fun w => run w hcal fun _ => ?_, .refl_rigid _ h2⟩
        have h3 := run_pureVal _ h1 w
        simp only [builtin]
        have h4 : ∀ ty, Builtin.min_ c.argTypes ty ⟨c.args.toList.map ev'⟩ = Builtin.min_ c.argTypes 0 ⟨c.args.toList.map ev'⟩ := fun _ => rfl
        simp [h4, h3]
    · rename_i hcal
      cases hr : (c.args.toList.map ev).all (rigidB RD) with
      | false => rw [hr, cond_false] at h; cases h
      | true =>
        rw [hr, cond_true] at h
        obtain ⟨h1, h2⟩ := filter_some h
        have e := rigid_list hargs hr
        rw [e] at h1
        refine ⟨v, fun w => run w hcal fun _ => ?_, .refl_rigid _ h2⟩
        have h3 := run_pureVal _ h1 w
        simp only [builtin]
        have h4 : ∀ ty, Builtin.max_ c.argTypes ty ⟨c.args.toList.map ev'⟩ = Builtin.max_ c.argTypes 0 ⟨c.args.toList.map ev'⟩ := fun _ => rfl
        simp [h4, h3]
    · cases h
  · cases h
end
end Go.Lay
