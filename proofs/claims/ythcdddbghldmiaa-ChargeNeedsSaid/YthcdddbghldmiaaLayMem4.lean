/- New rows; writing a row. -/
import Derived.Test.YthcdddbghldmiaaLayMem3
import Derived.Laws.CopyRow
set_option linter.unusedVariables false
set_option linter.unusedSimpArgs false
namespace Go.Lay
open Go
section
variable {P : Program} {ι : Inj} {σ : St} {w : World}

theorem newRow_eq {β : Type} (σ : St) (esz : Nat) (cs : List Value) (k : Addr → St → β) : newRow σ esz cs k = k ⟨σ.next, 0, none⟩ (σ.add (.cells cs esz [(0, cs.length)] 1 false)) := by
  simp [newRow, fVs_eq, fN_eq, St.new_eq]

theorem newRow_good' {esz : Nat} {cs cs' tail : List Value} {elem : TypeId} (hr : Rep ι σ w) (hf : Fresh ι σ.next (σ.next + 1)) (hc : VRs ι cs cs') :
    Good ι σ w (ι.add σ.next w.heap.size (cs.length + tail.length) esz) (σ.add (.cells cs esz [(0, cs.length)] 1 false)) (World.push w (.cells ⟨cs' ++ tail⟩ elem)) := by
  have e := Inj.add_ext (n := cs.length + tail.length) (z := esz) hr hf
  refine Good.addBlk hr hf (fun _ _ _ h => by cases h; rfl) (.cells (fun s x hm => ?_) (by simp) (fun s₁ e₁ s₂ e₂ L₁ L₂ h₁ h₂ l₁ l₂ _ => ?_) (fun s hs => ?_))
  · simp at hm
    obtain ⟨rfl, rfl⟩ := hm
    refine ⟨by omega, Nat.le_refl _, ⟨w.heap.size, 0, 0, _⟩, Inj.add_loc _ _ _ _, ⟨⟨cs' ++ tail⟩, elem, (0, 0), World.push_new _ _, by simp [Inj.add, hc.length], fun _ => rfl, by simp [hc.length], fun j _ hj => ?_⟩, by simp [Inj.add], Nat.zero_le _, by simp [Inj.add]⟩
    obtain ⟨v', h1, h2⟩ := hc.get_some (i := j) (v := cs[j]) (by simp [hj])
    refine ⟨cs[j], v', by simp [hj], ?_, h2.ext e⟩
    have hj' : j < cs'.length := by rw [← hc.length]; exact hj
    simp only [Nat.zero_add, Nat.sub_zero]
    show (⟨cs' ++ tail⟩ : Array Value)[j]? = _
    rw [show (⟨cs' ++ tail⟩ : Array Value)[j]? = (cs' ++ tail)[j]? by simp, List.getElem?_append_left hj']
    exact h1
  · simp at h₁ h₂
    obtain ⟨rfl, _⟩ := h₁
    obtain ⟨rfl, _⟩ := h₂
    rw [l₁] at l₂; cases l₂; rfl
  · simp only [Inj.add]
    rw [if_neg (by omega)]
    exact hf _ _ (Nat.le_refl _) (by omega)
theorem newRow_good {esz : Nat} {cs cs' : List Value} {elem : TypeId} (hr : Rep ι σ w) (hf : Fresh ι σ.next (σ.next + 1)) (hc : VRs ι cs cs') :
    Good ι σ w (ι.add σ.next w.heap.size cs.length esz) (σ.add (.cells cs esz [(0, cs.length)] 1 false)) (World.push w (.cells ⟨cs'⟩ elem)) := by
  have := newRow_good' (tail := []) (esz := esz) (elem := elem) hr hf hc
  simpa using this

theorem newRow_slice {esz m : Nat} {len cap cap' : Nat} (hc : capR cap cap') (hs : cap' * esz ≤ m) :
    VR (ι.add σ.next w.heap.size m esz) (.slice (some ⟨σ.next, 0, none⟩) len cap) (.slice (some ⟨w.heap.size, 0, none⟩) len cap') :=
  .slice (a := ⟨σ.next, 0, none⟩) (L := ⟨w.heap.size, 0, 0, _⟩) (Inj.add_loc _ _ _ _) (Nat.zero_le _) (.inl rfl) hc (by simp [Inj.add]; exact hs)
theorem newRow_ptr {esz n : Nat} :
    VR (ι.add σ.next w.heap.size n esz) (.pointer (some ⟨σ.next, 0, none⟩)) (.pointer (some ⟨w.heap.size, 0, none⟩)) :=
  .ptr (a := ⟨σ.next, 0, none⟩) (L := ⟨w.heap.size, 0, 0, _⟩) (Inj.add_loc _ _ _ _) (Nat.zero_le _)

theorem run_newRow (elem : TypeId) (cs : List Value) (w : World) : (_root_.Go.newRow elem (⟨cs⟩ : Array Value)).run P w = .ok ⟨w.heap.size, 0, none⟩ (World.push w (.cells ⟨cs⟩ elem)) := by
  simp [_root_.Go.newRow, World.push]

/-! ### Writing a row -/
theorem oneCell_of_cellB {l : List Value} (h : l.all cellB = true) : ∀ v ∈ l, v.oneCell' = true := by
  intro v hv
  have := List.all_eq_true.1 h v hv
  cases v <;> simp_all [cellB, Value.oneCell']

theorem splice_get (a b : List Value) (off n : Nat) (h1 : off + n ≤ a.length) (h2 : b.length = n) (i : Nat) :
    (a.take off ++ (b ++ a.drop (off + n)))[i]? = if i < off then a[i]? else if i < off + n then b[i - off]? else a[i]? := by
  have hl : (a.take off).length = off := by simp; omega
  by_cases hi : i < off
  · rw [if_pos hi, List.getElem?_append_left (by omega), List.getElem?_take_of_lt hi]
  · rw [if_neg hi, List.getElem?_append_right (by omega), hl]
    by_cases hj : i < off + n
    · rw [if_pos hj, List.getElem?_append_left (by omega)]
    · rw [if_neg hj, List.getElem?_append_right (by omega), List.getElem?_drop]
      congr 1; omega

/-- The world behind the writing of a row of cells into a block. -/
theorem write_good {a : Addr} {vs vs' : List Value} {L : Loc} {σ' : St} (h : writeRow σ a vs = some σ') (hr : Rep ι σ w) (hl : ι.loc a.block (stampOf a) = some L) (hlo : L.lo ≤ a.off) (hv : VRs ι vs vs') :
    ∃ w', (storeCells (L.at a.off) vs').run P w = .ok () w' ∧ Good ι σ w ι σ' w' := by
  unfold writeRow at h
  split at h
  · rename_i bc esz log nx ro hb
    split at h
    · rename_i s e rest
      cases hcond : Nat.beq s (stampOf a) && Nat.ble (a.off + vs.length) e && !ro && vs.all cellB with
      | false => rw [hcond, cond_false] at h; cases h
      | true =>
        rw [hcond, cond_true, fVs_eq, St.write_eq] at h
        simp only [Bool.and_eq_true, Bool.not_eq_true'] at hcond
        obtain ⟨⟨⟨c1, c2⟩, c3⟩, c4⟩ := hcond
        have c1 := Nat.eq_of_beq_eq_true c1
        have c2 := (ble_iff _ _).1 c2
        simp at h; subst h
        subst c1
        cases (hr.blk _ _ hb).2 with
        | cells rows sorted same fresh =>
          obtain ⟨hs1, hs2, M, hM⟩ := rows (stampOf a) e (by simp)
          have hML : M = L := by have := hM.loc; rw [hl] at this; cases this; rfl
          subst hML
          obtain ⟨arr, elem, fr, r1, r2, r3, r4, r5⟩ := hM.row
          have hfr := r3 c3; subst hfr
          have hlen := hv.length
          have hel : e ≤ bc.length := hs2
          have hsplen : M.base + (a.off - M.lo) + 0 + vs'.length ≤ arr.size := by omega
          have hc4 : vs'.all cellB = true := by rw [← hv.cellB]; exact c4
          have hrun := run_storeCells_at (P := P) M.c (M.base + (a.off - M.lo)) elem vs' 0 arr w r1 hsplen (oneCell_of_cellB hc4)
          refine ⟨_, hrun, ?_⟩
          simp only [Nat.add_zero] at hrun ⊢
          have hown : ι.own M.c = some a.block := by rw [hM.own, c3]; rfl
          refine Good.putBlk hr hb (Ext.refl _ _ _) (fun _ _ _ => rfl) (fun b s L h => by simpa using hr.lt b s L h) (fun c b h => by simpa using hr.ownlt c b h) (by simp)
            (fun c _ hc => setRow_other w M.c c _ (fun hcc => hc (by rw [hcc]; exact hown))) ⟨rfl, rfl, rfl⟩ (.one M.c (fun c hc => setRow_other w M.c c _ hc) (fun _ _ _ h => by rw [setRow_heap w M.c arr _ elem (0, 0) r1] at h; cases h; rfl)) ?_
          refine .cells (fun s' e' hm => ?_) (by simp) (fun s₁ e₁ s₂ e₂ L₁ L₂ h₁ h₂ l₁ l₂ _ => ?_) fresh
          · simp at hm
            obtain ⟨rfl, rfl⟩ := hm
            have hl1 : (bc.take a.off ++ (vs ++ bc.drop (a.off + vs.length))).length = bc.length := by simp; omega
            refine ⟨hs1, by rw [hl1]; exact hs2, M, hM.loc, ⟨_, elem, (0, 0), setRow_heap w M.c arr _ elem (0, 0) r1, ?_, fun _ => rfl, ?_, fun j j1 j2 => ?_⟩, hM.cz, hM.lo, hM.own⟩
            · rw [← r2]; simp; omega
            · simp; omega
            · obtain ⟨v, v', q1, q2, q3⟩ := r5 j j1 j2
              rw [splice_get bc vs a.off vs.length (by omega) rfl]
              have e2 : (arr.toList.take (M.base + (a.off - M.lo)) ++ vs' ++ arr.toList.drop (M.base + (a.off - M.lo) + vs'.length)).toArray[M.base + (j - M.lo)]? =
                  if M.base + (j - M.lo) < M.base + (a.off - M.lo) then arr.toList[M.base + (j - M.lo)]? else if M.base + (j - M.lo) < M.base + (a.off - M.lo) + vs'.length then vs'[M.base + (j - M.lo) - (M.base + (a.off - M.lo))]? else arr.toList[M.base + (j - M.lo)]? := by
                rw [← splice_get arr.toList vs' (M.base + (a.off - M.lo)) vs'.length (by simp; omega) rfl]
                simp
              rw [e2]
              by_cases x1 : j < a.off
              · have y1 : M.base + (j - M.lo) < M.base + (a.off - M.lo) := by omega
                rw [if_pos x1, if_pos y1]
                exact ⟨v, v', q1, by simpa using q2, q3⟩
              · have y1 : ¬ M.base + (j - M.lo) < M.base + (a.off - M.lo) := by omega
                rw [if_neg x1, if_neg y1]
                by_cases x2 : j < a.off + vs.length
                · have y2 : M.base + (j - M.lo) < M.base + (a.off - M.lo) + vs'.length := by omega
                  rw [if_pos x2, if_pos y2]
                  have hj : j - a.off < vs.length := by omega
                  obtain ⟨u', u1, u2⟩ := hv.get_some (i := j - a.off) (v := vs[j - a.off]) (by simp [hj])
                  refine ⟨vs[j - a.off], u', by simp [hj], ?_, u2⟩
                  rw [show M.base + (j - M.lo) - (M.base + (a.off - M.lo)) = j - a.off by omega]; exact u1
                · have y2 : ¬ M.base + (j - M.lo) < M.base + (a.off - M.lo) + vs'.length := by omega
                  rw [if_neg x2, if_neg y2]
                  exact ⟨v, v', q1, by simpa using q2, q3⟩
          · simp at h₁ h₂
            obtain ⟨rfl, _⟩ := h₁
            obtain ⟨rfl, _⟩ := h₂
            rw [l₁] at l₂; cases l₂; rfl
    · cases h
  · cases h

theorem storeA_good {t : TypeId} {a : Addr} {v v' : Value} {L : Loc} {σ' : St} (h : storeA P σ t a v = some σ') (hr : Rep ι σ w) (hl : ι.loc a.block (stampOf a) = some L) (hlo : L.lo ≤ a.off) (hv : VR ι v v') :
    ∃ w', (storeVar t (L.at a.off) v').run P w = .ok () w' ∧ Good ι σ w ι σ' w' := by
  unfold storeA at h
  split at h
  · rename_i n hs
    cases hb : Nat.beq v.cells.toList.length n with
    | false => rw [hb, cond_false] at h; cases h
    | true =>
      rw [hb, cond_true] at h
      have := Nat.eq_of_beq_eq_true hb
      obtain ⟨w', h1, h2⟩ := write_good (P := P) h hr hl hlo hv.cells
      refine ⟨w', ?_, h2⟩
      have hsz : v'.cells.size = n := by rw [← this, hv.cells.length]; simp
      simp [storeVar, run_sizeT hs, hsz, h1]
  · cases h

/-! ### Zeros -/
theorem zerosA_length (z : List Value) : ∀ n, (zerosA z n).length = n * z.length
  | 0 => by simp [zerosA]
  | n + 1 => by simp [zerosA, zerosA_length z n, Nat.add_mul]; omega
theorem zerosA_get (z : List Value) : ∀ (n i : Nat), i < n * z.length → (zerosA z n)[i]? = z[i % z.length]?
  | 0, i, h => by simp at h
  | n + 1, i, h => by
    simp only [zerosA]
    by_cases hi : i < z.length
    · rw [List.getElem?_append_left hi, Nat.mod_eq_of_lt hi]
    · rw [List.getElem?_append_right (by omega), zerosA_get z n (i - z.length) (by rw [Nat.add_mul] at h; omega)]
      have hp : 0 < z.length := by
        rcases Nat.eq_zero_or_pos z.length with h0 | h0
        · rw [h0] at h; simp at h
        · exact h0
      rw [Nat.mod_eq_sub_mod (a := i) (by omega)]
theorem zerosA_rigid {z : List Value} (h : z.all (rigidB RD) = true) : ∀ n, (zerosA z n).all (rigidB RD) = true
  | 0 => rfl
  | n + 1 => by simp only [zerosA, List.all_append, h, zerosA_rigid h n, Bool.and_self]
theorem VRs.refl_rigid : ∀ {l : List Value}, l.all (rigidB RD) = true → VRs ι l l
  | [], _ => .nil
  | v :: l, h => by
    simp only [List.all_cons, Bool.and_eq_true] at h
    exact .cons (.refl_rigid _ h.1) (VRs.refl_rigid h.2)
theorem range_zeros {z : List Value} {m n : Nat} (hz : z.length = n) (hm : 0 < m * n → 0 < n) :
    (Array.range (m * n)).map ((⟨z⟩ : Array Value)[· % (⟨z⟩ : Array Value).size]!) = (⟨zerosA z m⟩ : Array Value) := by
  apply Array.ext'
  apply List.ext_getElem?
  intro i
  by_cases hi : i < m * n
  · have hp : 0 < n := hm (by omega)
    have hmod : i % z.length < z.length := Nat.mod_lt _ (by omega)
    rw [zerosA_get z m i (by rw [hz]; exact hi)]
    simp [hi, hmod]
  · have h1 : (zerosA z m).length ≤ i := by rw [zerosA_length, hz]; omega
    rw [List.getElem?_eq_none h1]
    simp; omega
end
end Go.Lay
