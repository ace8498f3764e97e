/- All operations that make or write memory: one theorem. -/
import Derived.Test.YthcdddbghldmiaaLayExt
set_option linter.unusedVariables false
set_option linter.unusedSimpArgs false
namespace Go.Lay
open Go
section
variable {P : Program} {ι : Inj} {σ : St} {w : World}

theorem Instr_fill_size {place : Nat → Option (Nat × Nat)} : ∀ {parts : List (Nat × Value)} {cells out : Array Value}, Instr.fill place cells parts = some out → out.size = cells.size
  | [], cells, out, h => by simp [Instr.fill] at h; rw [h]
  | (i, v) :: rest, cells, out, h => by
    simp only [Instr.fill] at h
    split at h
    · cases h
    · split at h
      · cases h
      · rw [Instr_fill_size h]
        rename_i off size _ _
        have : ∀ (l : List (Value × Nat)) (c : Array Value), (l.foldl (fun cs (x : Value × Nat) => cs.setIfInBounds (off + x.2) x.1) c).size = c.size := by
          intro l
          induction l with
          | nil => intro c; rfl
          | cons x l ih => intro c; rw [List.foldl_cons, ih]; simp
        rw [← Array.foldl_toList]; exact this _ _

theorem newObj_row {elem : TypeId} {cs : List Value} (w : World) : (newVar elem (.agg ⟨cs⟩)).run P w = .ok ⟨w.heap.size, 0, none⟩ (World.push w (.cells ⟨cs⟩ elem)) := run_newRow elem cs w

theorem run_newVar (elem : TypeId) (v : Value) (w : World) : (newVar elem v).run P w = .ok ⟨w.heap.size, 0, none⟩ (World.push w (.cells ⟨v.cells.toList⟩ elem)) := by
  unfold newVar
  have := run_newRow (P := P) elem v.cells.toList w
  rw [list_toArray] at this ⊢; exact this

theorem elemOfSlice_some {t : TypeId} {e : TypeId} {n : Nat} (h : elemOfSlice P t = some (e, n)) : P.underlying t = some (.slice e) ∧ sizeT P e = some n := by
  unfold elemOfSlice at h
  split at h
  · rename_i e0 hd
    cases hsz : sizeT P e0 with
    | none => simp [hsz] at h
    | some n0 => simp [hsz] at h; obtain ⟨rfl, rfl⟩ := h; exact ⟨hd, hsz⟩
  · cases h

theorem zero_cells_rigid {z : Value} (h : rigidB RD z = true) : ∀ m, VRs ι (zerosA z.cells.toList m) (zerosA z.cells.toList m)
  | 0 => .nil
  | m + 1 => VRs.append (VR.refl_rigid RD h).cells (zero_cells_rigid h m)

theorem newMap_good (hr : Rep ι σ w) (hf : Fresh ι σ.next (σ.next + 1)) :
    Good ι σ w (ι.add σ.next w.heap.size 0 0) (σ.add (.map [])) (World.push w (.map #[] 0)) :=
  Good.addBlk hr hf (fun _ _ _ h => by cases h) (.map (Inj.add_loc _ _ _ _) (by simp [Inj.add]) (World.push_new _ _) rfl (fun i e he => by simp at he))

theorem newMap_val (hr : Rep ι σ w) : VR (ι.add σ.next w.heap.size 0 0) (.map (some σ.next)) (.map (some w.heap.size)) :=
  .map (L := ⟨w.heap.size, 0, 0, _⟩) (Inj.add_loc _ _ _ _)

/-- A new block, and nothing else. -/
def MakeOut (P : Program) (ι : Inj) (σ : St) (w : World) (v : Value) (σ' : St) (s : Sem Next) : Prop :=
  ∃ nx v' obj y m z, s.run P w = .ok nx (World.push w obj) ∧ NextV nx v' ∧ VR (ι.add σ.next w.heap.size m z) v v' ∧ σ' = σ.add y ∧ Good ι σ w (ι.add σ.next w.heap.size m z) σ' (World.push w obj)
theorem MakeOut.eff {v : Value} {σ' : St} {s : Sem Next} (h : MakeOut P ι σ w v σ' s) : EffOut P ι σ w v σ' s := by
  obtain ⟨nx, v', obj, y, m, z, h1, h2, h3, h4, h5⟩ := h
  exact ⟨nx, v', _, _, h1, h2, h3, h5⟩

theorem make_sound {o : Oper} {ev ev' : Operand → Value} {v : Value} {σ' : St} (hz : zeroOk P) (hm : makesB o.op = true) (h : effOp P ev σ o.op = some (v, σ')) (hr : Rep ι σ w)
    (hev : ∀ x ∈ o.op.operands, VR ι (ev x) (ev' x)) : MakeOut P ι σ w v σ' (execOp ev' o) := by
  have hf := hr.free (σ.next + 1)
  unfold effOp at h
  split at h
  · -- alloc
    rename_i t ho
    cases hzt : zeroT P t with
    | none => simp [hzt] at h
    | some z =>
      simp only [hzt, newRow_eq, fN_eq] at h
      simp at h; obtain ⟨rfl, rfl⟩ := h
      have hzr := hz t z hzt
      refine ⟨_, _, _, _, _, _, ?_, .value _, newRow_ptr, rfl, newRow_good (elem := t) hr hf (VR.refl_rigid RD hzr).cells⟩
      · simp only [execOp, ho]
        simp [Instr.alloc, run_zeroT hzt, run_newVar]
  · -- box
    rename_i t x ho
    simp only [newRow_eq, fN_eq] at h
    simp at h; obtain ⟨rfl, rfl⟩ := h
    have hx := hev x (by simp [ho, Op.operands])
    refine ⟨_, _, _, _, _, _, ?_, .value _, newRow_ptr, rfl, newRow_good (elem := t) hr hf hx.cells⟩
    · simp only [execOp, ho]
      simp [Instr.box, run_newVar]
  · -- buildSlice
    rename_i t len ps ho
    split at h
    · rename_i e n hes
      obtain ⟨hd, hsz⟩ := elemOfSlice_some hes
      cases hzt : zeroT P e with
      | none => simp [hzt] at h
      | some z =>
        simp only [hzt] at h
        cases hc : Nat.ble (len * n) 16777216 && Nat.beq z.cells.toList.length n with
        | false => rw [hc, cond_false] at h; cases h
        | true =>
          rw [hc, cond_true] at h
          simp only [Bool.and_eq_true] at hc
          have c1 := (ble_iff _ _).1 hc.1
          have c2 := Nat.eq_of_beq_eq_true hc.2
          split at h
          · rename_i cs hfill
            simp only [newRow_eq] at h
            simp at h; obtain ⟨rfl, rfl⟩ := h
            have hzr := hz e z hzt
            obtain ⟨cs', f1, f2⟩ := fillA_sound (ι := ι) (parts' := ps.toList.map fun p => (p.1, ev' p.2)) hfill (zero_cells_rigid hzr len) (by simp [List.map_map, Function.comp_def])
              (by
                have := ev_list (ps.toList.map (·.2)) (ev := ev) (ev' := ev') (fun x hx => hev x (by simp [ho, Op.operands] at hx ⊢; exact hx))
                simpa [List.map_map, Function.comp_def] using this)
            have hlen : cs'.length = len * n := by
              have := Instr_fill_size f1
              simpa [zerosA_length, c2] using this
            refine ⟨_, _, _, _, _, _, ?_, .value _, newRow_slice (m := cs.length) (capR_refl len) (by rw [f2.length, hlen]; exact Nat.le_refl _), rfl, newRow_good (elem := e) hr hf f2⟩
            · have e1 : ps.map (fun (i, x) => (i, ev' x)) = (⟨ps.toList.map fun p => (p.1, ev' p.2)⟩ : Array (Nat × Value)) := by
                apply Array.ext'; simp
              have e3 : (Array.range (len * n)).map ((if len * n = 0 then #[] else z.cells)[· % (if len * n = 0 then #[] else z.cells).size]!) = (⟨zerosA z.cells.toList len⟩ : Array Value) := by
                by_cases h0 : len * n = 0
                · have : zerosA z.cells.toList len = [] := List.eq_nil_of_length_eq_zero (by rw [zerosA_length, c2]; exact h0)
                  rw [this, h0]; simp
                · rw [if_neg h0]
                  have := range_zeros (z := z.cells.toList) (m := len) (n := n) c2 (fun hp => by
                    rcases Nat.eq_zero_or_pos n with h1 | h1
                    · rw [h1] at h0; simp at h0
                    · exact h1)
                  rw [list_toArray] at this; exact this
              simp only [execOp, ho, e1, Instr.buildSlice, Sem.run_bind, run_underlying hd, run_sizeT hsz, Result.andThen_ok]
              rw [if_neg (by omega)]
              by_cases h0 : len * n = 0
              · rw [if_pos h0] at e3
                rw [if_pos h0]
                simp only [Sem.run_bind, Sem.run_pure, Result.andThen_ok, e3, f1, run_newRow]
              · rw [if_neg h0] at e3
                rw [if_neg h0]
                simp only [Sem.run_bind, Sem.run_pure, Result.andThen_ok, run_zeroT hzt, e3, f1, run_newRow]
          · cases h
    · cases h
  · -- makeMap
    rename_i t r ho
    split at h
    · split at h
      · rename_i ke hmo
        simp only [St.new_eq] at h
        simp at h; obtain ⟨rfl, rfl⟩ := h
        refine ⟨_, _, _, _, _, _, ?_, .value _, newMap_val hr, rfl, newMap_good hr hf⟩
        simp only [execOp, ho]
        simp [Instr.makeMap, World.push]
      · cases h
    · rename_i x
      have hx := hev x (by simp [ho, Op.operands])
      split at h
      · rename_i ke k i hmo hxi
        rw [hxi] at hx
        have e := hx.int_inv
        simp only [St.new_eq] at h
        simp at h; obtain ⟨rfl, rfl⟩ := h
        refine ⟨_, _, _, _, _, _, ?_, .value _, newMap_val hr, rfl, newMap_good hr hf⟩
        simp only [execOp, ho]
        have hd := mapOf_some (P := P) (t := t) (k := ke.1) (e := ke.2) hmo
        simp [Instr.makeMap, World.push, e, run_underlying hd, asInt, asIntOf]
      · cases h
  · -- makeSlice
    rename_i t l c ho
    have hl := hev l (by simp [ho, Op.operands])
    have hc := hev c (by simp [ho, Op.operands])
    split at h
    · rename_i e n kl li kc ci hes hle hce
      rw [hle] at hl; rw [hce] at hc
      have el := hl.int_inv
      have ec := hc.int_inv
      obtain ⟨hd, hsz⟩ := elemOfSlice_some hes
      split at h
      · rename_i z ei hzt hei
        cases hcond : leI 0 li && leI li ci && leI ci 1073741824 && roomy ci.toNat n ei.bytes && Nat.beq z.cells.toList.length n && Nat.blt 0 n with
        | false => rw [hcond, cond_false] at h; cases h
        | true =>
          rw [hcond, cond_true, newRow_eq] at h
          simp only [Bool.and_eq_true, leI_iff] at hcond
          obtain ⟨⟨⟨⟨⟨c1, c2⟩, c3⟩, c4⟩, c5⟩, c6⟩ := hcond
          simp only [roomy, Bool.and_eq_true] at c4
          have r3 := (ble_iff _ _).1 c4.2
          have c5 := Nat.eq_of_beq_eq_true c5
          have c6 : 0 < n := (ble_iff 1 n).1 c6
          simp at h; obtain ⟨rfl, rfl⟩ := h
          have hzr := hz e z hzt
          have c0 : 0 ≤ ci := by omega
          refine ⟨_, _, _, _, _, _, ?_, .value _, newRow_slice (m := (zerosA z.cells.toList ci.toNat).length) (capR_refl ci.toNat) (by rw [zerosA_length, c5]; exact Nat.le_refl _), rfl, newRow_good (elem := e) hr hf (zero_cells_rigid hzr _)⟩
          · have w1 := wrap_small (i := ci) c0 c3
            have w2 := wrap_small (i := li) c1 (by omega)
            have hb := not_big (i := ci) (b := ei.bytes) c0 c3 r3
            have hb' : ¬ (2 : Int) ^ 48 < (ei.bytes : Int) * ci := by rw [Int.mul_comm]; exact hb
            have e3 : (Array.range (ci.toNat * n)).map ((if ci.toNat * n = 0 then #[] else z.cells)[· % (if ci.toNat * n = 0 then #[] else z.cells).size]!) = (⟨zerosA z.cells.toList ci.toNat⟩ : Array Value) := by
              by_cases h0 : ci.toNat * n = 0
              · have : zerosA z.cells.toList ci.toNat = [] := List.eq_nil_of_length_eq_zero (by rw [zerosA_length, c5]; exact h0)
                rw [this, h0]; simp
              · rw [if_neg h0]
                have := range_zeros (z := z.cells.toList) (m := ci.toNat) (n := n) c5 (fun _ => c6)
                rw [list_toArray] at this; exact this
            have hcondF : ((decide (ci < 0) || decide ((2 : Int) ^ 48 < (ei.bytes : Int) * ci)) || decide (li < 0) || decide (ci < li)) = false := by
              simp [hb']; omega
            simp only [execOp, ho, el, ec, Instr.makeSlice, Sem.run_bind, run_underlying hd, run_sizeT hsz, Result.andThen_ok, asInt, asIntOf, Sem.run_pure, run_info hei, w1, w2, gt_iff_lt]
            rw [if_neg (by simpa using hcondF)]
            simp only [Sem.run_bind, Sem.run_pure, Result.andThen_ok, run_askRoom, run_sizeT hsz]
            by_cases h0 : ci.toNat * n = 0
            · rw [if_pos h0] at e3
              rw [if_pos h0]
              simp only [Sem.run_bind, Sem.run_pure, Result.andThen_ok, e3, run_newRow]
            · rw [if_neg h0] at e3
              rw [if_neg h0]
              simp only [Sem.run_bind, Sem.run_pure, Result.andThen_ok, run_zeroT hzt, e3, run_newRow]
      · cases h
    · cases h
  all_goals (exfalso; simp_all [makesB])

theorem effOp_sound {o : Oper} {ev ev' : Operand → Value} {v : Value} {σ' : St} (hz : zeroOk P) (h : effOp P ev σ o.op = some (v, σ')) (hr : Rep ι σ w) (_hf : Fresh ι σ.next σ'.next)
    (hev : ∀ x ∈ o.op.operands, VR ι (ev x) (ev' x)) : EffOut P ι σ w v σ' (execOp ev' o) := by
  cases hm : makesB o.op with
  | true => exact (make_sound hz hm h hr hev).eff
  | false =>
  unfold effOp at h
  split at h
  · simp_all [makesB]
  · simp_all [makesB]
  · simp_all [makesB]
  · simp_all [makesB]
  · simp_all [makesB]
  · -- store
    rename_i t a x ho
    have ha := hev a (by simp [ho, Op.operands])
    have hx := hev x (by simp [ho, Op.operands])
    split at h
    · rename_i a0 ha0
      rw [ha0] at ha
      obtain ⟨L, hl, hlo, e⟩ := ha.ptr_inv
      cases hs : storeA P σ t a0 (ev x) with
      | none => simp [hs] at h
      | some σ1 =>
        simp [hs] at h; obtain ⟨rfl, rfl⟩ := h
        obtain ⟨w', h1, h2⟩ := storeA_good hs hr hl hlo hx
        refine ⟨_, _, w', ι, ?_, .skip, .undef, h2⟩
        simp [execOp, ho, e, Instr.storeAt, Instr.sureAddr, h1]
    · cases h
  · -- mapUpdate
    rename_i t m k x ho
    split at h
    · rename_i kt et r hmo hmv
      split at h
      · rename_i es hb
        cases hk : keyOk P false kt (ev k) with
        | false => rw [hk, cond_false] at h; cases h
        | true =>
          rw [hk, cond_true] at h
          have hv : v = undef := by
            split at h
            · split at h
              · rename_i e _
                cases hsb : Instr.sameBits 10000 e.1 (ev k) with
                | false => rw [hsb, cond_false] at h; cases h
                | true => rw [hsb, cond_true, St.write_eq] at h; simp at h; exact h.1.symm
              · cases h
            · rw [St.write_eq] at h; simp at h; exact h.1.symm
            · cases h
          subst hv
          obtain ⟨w', h1, h2⟩ := mapUpdate_sound hmo hmv (hev m (by simp [ho, Op.operands])) (hev k (by simp [ho, Op.operands])) (hev x (by simp [ho, Op.operands])) hb hk hr h
          refine ⟨_, _, w', ι, ?_, .skip, .undef, h2⟩
          simp [execOp, ho, h1]
      · cases h
    · cases h
  · -- insert
    rename_i t m k x ho
    split at h
    · rename_i kt et r hmo hmv
      split at h
      · rename_i es hb
        cases hk : keyOk P false kt (ev k) with
        | false => rw [hk, cond_false] at h; cases h
        | true =>
          rw [hk, cond_true] at h
          have hv : v = undef := by
            split at h
            · split at h
              · rename_i e _
                cases hsb : Instr.sameBits 10000 e.1 (ev k) with
                | false => rw [hsb, cond_false] at h; cases h
                | true => rw [hsb, cond_true, St.write_eq] at h; simp at h; exact h.1.symm
              · cases h
            · rw [St.write_eq] at h; simp at h; exact h.1.symm
            · cases h
          subst hv
          obtain ⟨w', h1, h2⟩ := mapUpdate_sound hmo hmv (hev m (by simp [ho, Op.operands])) (hev k (by simp [ho, Op.operands])) (hev x (by simp [ho, Op.operands])) hb hk hr h
          refine ⟨_, _, w', ι, ?_, .skip, .undef, h2⟩
          simp [execOp, ho, h1]
      · cases h
    · cases h
  · -- append, copy
    rename_i c ho
    have hargs := ev_list c.args.toList (ev := ev) (ev' := ev') (fun x hx => hev x (by simp [ho, Op.operands, Call.operands] at hx ⊢; exact .inr hx))
    have eargs : c.args.map ev' = (⟨c.args.toList.map ev'⟩ : Array Value) := by apply Array.ext'; simp
    have run : ∀ {b : Builtin} {v' : Value} {w' : World}, c.callee = .builtin b → (∀ consts, (builtin b c.argTypes o.type consts ⟨c.args.toList.map ev'⟩).run P w = .ok (.value v') w') →
        (execOp ev' o).run P w = .ok (.value v') w' := by
      intro b v' w' hb hr
      simp only [execOp, ho, resolve, hb, eargs]
      simp [invoke, hr]
    split at h
    · -- append
      rename_i hcal
      split at h
      · rename_i st xt s x ht hl
        rw [hl] at hargs
        generalize hl' : c.args.toList.map ev' = l' at hargs run
        cases hargs with
        | cons hs hrest =>
          cases hrest with
          | cons hx hrest =>
            cases hrest
            rename_i s' x'
            obtain ⟨v', w', ι', h1, h2, h3⟩ := appendA_sound (ty := o.type) hz h hr _hf hs hx
            refine ⟨_, v', w', ι', run hcal (fun consts => ?_), .value _, h2, h3⟩
            have eT : c.argTypes = #[st, xt] := by apply Array.ext'; simpa using ht
            simp only [builtin, eT]
            simp [h1]
      · cases h
    · -- copy
      rename_i hcal
      split at h
      · rename_i dt rest base len cap sb slen scap ht hl
        rw [hl] at hargs
        generalize hl' : c.args.toList.map ev' = l' at hargs run
        cases hargs with
        | cons hs hrest =>
          cases hrest with
          | cons hx hrest =>
            cases hrest
            rename_i s' x'
            split at h
            · rename_i e n hes
              obtain ⟨hd, hsz⟩ := elemOfSlice_some hes
              have ht0 : c.argTypes[0]? = some dt := by
                have : c.argTypes.toList[0]? = some dt := by rw [ht]; rfl
                simpa using this
              -- the source
              have src : ∀ {cnt : Nat} {cs : List Value}, srcCells σ n (.slice sb (Nat.min slen len) 0) = some (cnt, cs) →
                  ∃ cs', VRs ι cs cs' ∧ cs.length = Nat.min slen len * n ∧ (Builtin.lenOf x').run P w = .ok slen w ∧ (Builtin.firstCells n (Nat.min slen len) x').run P w = .ok ⟨cs'⟩ w := by
                intro cnt cs hsrc
                unfold srcCells at hsrc
                cases sb with
                | none =>
                  have e1 := hx.slice_none; subst e1
                  simp only at hsrc
                  cases hb : Nat.beq (Nat.min slen len) 0 with
                  | false => rw [hb, cond_false] at hsrc; cases hsrc
                  | true =>
                    rw [hb, cond_true] at hsrc
                    have hb := Nat.eq_of_beq_eq_true hb
                    simp at hsrc; obtain ⟨_, rfl⟩ := hsrc
                    exact ⟨[], .nil, by rw [hb]; simp, by simp [Builtin.lenOf], by simp [Builtin.firstCells]⟩
                | some a =>
                  obtain ⟨L, c', A, hl, hlo, hA, _, _, rfl⟩ := hx.slice_inv
                  simp only at hsrc
                  cases hrr : readRow σ a (Nat.min slen len * n) with
                  | none => simp [hrr] at hsrc
                  | some cs0 =>
                    simp [hrr] at hsrc; obtain ⟨_, rfl⟩ := hsrc
                    obtain ⟨cs', h1, h2, h3⟩ := loadRow_at (P := P) hrr hr hl hlo (hA.imp id (fun x => by rw [x.1]; simp))
                    exact ⟨cs', h2, h1, by simp [Builtin.lenOf], by simp [Builtin.firstCells, h3]⟩
              split at h
              · rename_i cnt cs hsrc
                obtain ⟨cs', s1, s2, s3, s4⟩ := src hsrc
                split at h
                · have e1 := hs.slice_none; subst e1
                  simp at h; obtain ⟨rfl, rfl⟩ := h
                  refine ⟨_, _, w, ι, run hcal (fun consts => ?_), .value _, .int _ _, .refl hr⟩
                  simp [builtin, Builtin.copy_, ht0, run_underlying hd, s3, run_sizeT hsz, s4]
                  rfl
                · rename_i a
                  obtain ⟨L, c', A, hl, hlo, hA, _, _, rfl⟩ := hs.slice_inv
                  cases hb : Nat.beq (Nat.min slen len) 0 with
                  | true =>
                    rw [hb, cond_true] at h
                    have hb := Nat.eq_of_beq_eq_true hb
                    simp at h; obtain ⟨rfl, rfl⟩ := h
                    have : cs' = [] := List.eq_nil_of_length_eq_zero (by rw [← s1.length, s2, hb]; simp)
                    subst this
                    refine ⟨_, _, w, ι, run hcal (fun consts => ?_), .value _, .int _ _, .refl hr⟩
                    simp only [builtin, Builtin.copy_, List.getElem?_toArray, List.getElem?_cons_zero, List.getElem?_cons_succ, ht0, Sem.run_bind, run_underlying hd, s3, run_sizeT hsz, s4, Result.andThen_ok, Sem.run_pure, storeCells, list_toArray]
                    rfl
                  | false =>
                    rw [hb, cond_false] at h
                    have hA : A = L.at a.off := hA.elim id (fun x => by
                      exfalso
                      rw [x.1] at hb
                      simp at hb)
                    subst hA
                    cases hw : writeRow σ a cs with
                    | none => simp [hw] at h
                    | some σ1 =>
                      simp [hw] at h; obtain ⟨rfl, rfl⟩ := h
                      obtain ⟨w', g1, g2⟩ := write_good (P := P) hw hr hl hlo s1
                      refine ⟨_, _, w', ι, run hcal (fun consts => ?_), .value _, .int _ _, g2⟩
                      simp only [builtin, Builtin.copy_, List.getElem?_toArray, List.getElem?_cons_zero, List.getElem?_cons_succ, ht0, Sem.run_bind, run_underlying hd, s3, run_sizeT hsz, s4, Result.andThen_ok, Sem.run_pure, g1]
                      rfl
              · cases h
            · cases h
      · cases h
    · -- a function without a body
      rename_i f hcal
      split at h
      · rename_i r as href
        simp only [Option.map_eq_some_iff] at h
        obtain ⟨v0, h1, h2⟩ := h
        simp at h2; obtain ⟨rfl, rfl⟩ := h2
        have hf := hev f (by simp [ho, Op.operands, Call.operands, hcal])
        obtain ⟨as', has, hcase⟩ := call_run (P := P) href hf hargs
        obtain ⟨g, rfl, hrun, hv⟩ := extC_run (P := P) h1 hr has
        rcases hcase with ⟨g', cap, hg, d, hd1, hd2, hd3⟩ | ⟨l, L, cap, hg, _⟩
        · cases hg
          refine ⟨_, _, w, ι, ?_, .value _, hv, .refl hr⟩
          simp only [execOp, ho, resolve, hcal, eargs, Sem.run_bind, hd1, Result.andThen_ok, hd2, invoke, hd3, hrun]
        · cases hg
      · cases h
    · cases h
  · cases h
end
end Go.Lay
