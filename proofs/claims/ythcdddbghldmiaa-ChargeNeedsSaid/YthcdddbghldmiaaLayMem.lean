/- Operations that look at memory, or make or write it. -/
import Derived.Test.YthcdddbghldmiaaLayVal2
import Derived.Laws.Cells
set_option linter.unusedVariables false
set_option linter.unusedSimpArgs false
namespace Go.Lay
open Go
section
variable {P : Program} {ι : Inj} {σ : St} {w : World}

/-! ### New blocks, blocks laid anew -/
def Inj.add (ι : Inj) (b c n z : Nat) : Inj :=
  { loc := fun b' s => if b' = b ∧ s = 0 then some ⟨c, 0, 0, z⟩ else ι.loc b' s
    own := fun c' => if c' = c then some b else ι.own c'
    csz := fun c' => if c' = c then n else ι.csz c' }

def World.push (w : World) (o : Obj) : World := { w with heap := w.heap.push o }
@[simp] theorem World.push_size (w : World) (o : Obj) : (World.push w o).heap.size = w.heap.size + 1 := by simp [World.push]
theorem World.push_old (w : World) (o : Obj) {c : Nat} (h : c < w.heap.size) : (World.push w o).heap[c]? = w.heap[c]? := by
  show (w.heap.push o)[c]? = _
  rw [Array.getElem?_push, if_neg (Nat.ne_of_lt h)]
theorem World.push_new (w : World) (o : Obj) : (World.push w o).heap[w.heap.size]? = some o := by
  show (w.heap.push o)[w.heap.size]? = _
  rw [Array.getElem?_push, if_pos rfl]

theorem Inj.add_ext (hr : Rep ι σ w) (hf : Fresh ι σ.next (σ.next + 1)) (n z : Nat) : Ext ι (ι.add σ.next w.heap.size n z) w.heap.size (σ.next + 1) := by
  refine ⟨fun b s L h => ?_, fun b s L h => ?_, fun b s h hb => ?_, fun c hc => ?_, fun c hc => ?_, fun b s L h hc => ?_⟩
  · simp only [Inj.add]
    rw [if_neg]; exact h
    rintro ⟨rfl, rfl⟩
    rw [hf σ.next 0 (Nat.le_refl _) (by omega)] at h; cases h
  · have := hr.lt b s L h
    have hne : L.c ≠ w.heap.size := by omega
    simp [Inj.add, hne]
  · simp only [Inj.add]
    rw [if_neg (by omega)]; exact h
  · have hne : c ≠ w.heap.size := by omega
    simp [Inj.add, hne]
  · have hne : c ≠ w.heap.size := by omega
    simp [Inj.add, hne]
  · simp only [Inj.add] at h
    split at h
    · cases h; simp at hc
    · exact ⟨b, s, L, h, rfl⟩
theorem Inj.add_loc (b c n z : Nat) : (ι.add b c n z).loc b 0 = some ⟨c, 0, 0, z⟩ := by simp [Inj.add]

theorem FrKeep.push (w : World) {o : Obj} (ho : ∀ arr elem f, o = .cells arr elem f → f = (0, 0)) : FrKeep w (World.push w o) :=
  .one w.heap.size (fun c hc => by
    show (w.heap.push o)[c]? = _
    rw [Array.getElem?_push, if_neg hc]) (fun arr elem f h => by rw [World.push_new] at h; cases h; exact ho _ _ _ rfl)

theorem Good.addBlk {y : Blk} {o : Obj} {n z : Nat} (hr : Rep ι σ w) (hf : Fresh ι σ.next (σ.next + 1)) (ho : ∀ arr elem f, o = .cells arr elem f → f = (0, 0))
    (hy : BlkR (ι.add σ.next w.heap.size n z) (World.push w o) σ.next y) : Good ι σ w (ι.add σ.next w.heap.size n z) (σ.add y) (World.push w o) := by
  have e := Inj.add_ext hr hf n z
  refine ⟨e, ⟨fun b y' hb => ?_, fun b s L h => ?_, fun c b h => ?_, fun b s h => ?_⟩, ⟨by simp, fun c hc _ => World.push_old w o hc, rfl, rfl, rfl, .push w ho⟩, by simp, by simp⟩
  · rw [St.add_get] at hb
    by_cases hbn : b = σ.next
    · rw [if_pos hbn] at hb; cases hb; subst hbn; exact ⟨by simp, hy⟩
    · rw [if_neg hbn] at hb
      have h := hr.blk b y' hb
      refine ⟨by simp; omega, h.2.keep e hr.lt (fun c hc _ => World.push_old w o hc) (fun cs esz log next ro hyy s hs => ?_)⟩
      subst hyy
      simp only [Inj.add]
      rw [if_neg (fun x => hbn x.1)]
      cases h.2 with | cells _ _ _ fresh => exact fresh s hs
  · simp only [Inj.add] at h
    split at h
    · cases h; simp
    · have := hr.lt b s L h; simp; omega
  · simp only [Inj.add] at h
    split at h
    · cases h; simp; omega
    · have := hr.ownlt c b h; simp; omega
  · simp at h
    simp only [Inj.add]
    rw [if_neg (by omega)]; exact hr.fresh b s (by omega)

theorem Good.putBlk {ι' : Inj} {b : Nat} {y0 y : Blk} {w' : World} (hr : Rep ι σ w) (hb : getB σ.heap b = some y0) (e : Ext ι ι' w.heap.size σ.next)
    (hloc : ∀ b' s, b' ≠ b → ι'.loc b' s = ι.loc b' s) (hlt : ∀ b s L, ι'.loc b s = some L → L.c < w'.heap.size) (hown : ∀ c b', ι'.own c = some b' → c < w'.heap.size ∧ b' < σ.next)
    (hs : w.heap.size ≤ w'.heap.size) (hk : ∀ c, c < w.heap.size → ι.own c ≠ some b → w'.heap[c]? = w.heap[c]?) (ht : w'.tape = w.tape ∧ w'.os = w.os ∧ w'.output = w.output) (hfr : FrKeep w w')
    (hy : BlkR ι' w' b y) : Good ι σ w ι' (σ.put b y) w' := by
  refine ⟨e, ⟨fun b' y' hb' => ?_, hlt, hown, fun b' s h => by have := (hr.blk b y0 hb).1; simp at h; rw [hloc b' s (by omega)]; exact hr.fresh b' s h⟩, ⟨hs, fun c hc ho => hk c hc (fun h => ?_), ht.1, ht.2.1, ht.2.2, hfr⟩, by simp; omega, by simp⟩
  · rw [St.put_get] at hb'
    by_cases hbn : b' = b
    · rw [if_pos hbn] at hb'; cases hb'; subst hbn; exact ⟨(hr.blk _ _ hb).1, hy⟩
    · rw [if_neg hbn] at hb'
      have h := hr.blk b' y' hb'
      refine ⟨h.1, h.2.keep e hr.lt (fun c hc ho => hk c hc (fun hcb => ?_)) (fun cs esz log next ro hyy s hs' => ?_)⟩
      · rcases ho with ho | ho
        · rw [hcb] at ho; cases ho; exact hbn rfl
        · rw [hcb] at ho; cases ho
      · subst hyy
        rw [hloc b' s hbn]
        cases h.2 with | cells _ _ _ fresh => exact fresh s hs'
  · have := ho b h; simp at this; omega

/-! ### Rows -/
theorem extOf_mem : ∀ {log : List (Nat × Nat)} {s e : Nat}, extOf log s = some e → (s, e) ∈ log
  | [], _, _, h => by simp [extOf] at h
  | (k, x) :: r, s, e, h => by
    simp only [extOf] at h
    cases hk : Nat.beq k s with
    | true => rw [hk, cond_true] at h; cases h; have := Nat.eq_of_beq_eq_true hk; subst this; simp
    | false => rw [hk, cond_false] at h; exact List.mem_cons_of_mem _ (extOf_mem h)

theorem at_add' (L : Loc) (off j : Nat) : (L.at off).add j = ⟨L.c, L.base + (off - L.lo) + j, none⟩ := by
  unfold Loc.at Addr.add
  split
  · subst_vars; rfl
  · rfl

theorem cell_at {L : Loc} {off j : Nat} {arr : Array Value} {elem : TypeId} {fr : Nat × Nat} (h : w.heap[L.c]? = some (.cells arr elem fr)) :
    w.cell? ((L.at off).add j) = arr[L.base + (off - L.lo) + j]? := by
  rw [at_add']; simp [World.cell?, h]

theorem readRow_sound {a : Addr} {n : Nat} {cs : List Value} {L : Loc} (h : readRow σ a n = some cs) (hr : Rep ι σ w) (hl : ι.loc a.block (stampOf a) = some L) (hlo : L.lo ≤ a.off) :
    ∃ cs', cs.length = n ∧ VRs ι cs cs' ∧ ∀ j v, cs'[j]? = some v → w.cell? ((L.at a.off).add j) = some v := by
  unfold readRow at h
  split at h
  · rename_i bc esz log nx ro hb
    split at h
    · rename_i e he
      cases hle : Nat.ble (a.off + n) e with
      | false => rw [hle, cond_false] at h; cases h
      | true =>
        rw [hle, cond_true] at h
        have hle := (ble_iff _ _).1 hle
        simp at h; subst h
        cases (hr.blk _ _ hb).2 with
        | cells rows sorted same fresh =>
          obtain ⟨_, hel, M, hM⟩ := rows _ _ (extOf_mem he)
          have hML : M = L := by have := hM.loc; rw [hl] at this; cases this; rfl
          subst hML
          obtain ⟨arr, elem, fr, h1, h2, _, h3, h4⟩ := hM.row
          have hlen : ((bc.drop a.off).take n).length = n := by simp; omega
          refine ⟨(arr.toList.drop (M.base + (a.off - M.lo))).take n, hlen, VRs.of_get ?_ ?_, ?_⟩
          · rw [hlen]; simp; omega
          · intro i v v' hv hv'
            have hi : i < n := by rw [← hlen]; exact (List.getElem?_eq_some_iff.1 hv).1
            rw [List.getElem?_take_of_lt hi, List.getElem?_drop] at hv hv'
            obtain ⟨x, x', e1, e2, e3⟩ := h4 (a.off + i) (by omega) (by omega)
            rw [e1] at hv; cases hv
            rw [show M.base + (a.off + i - M.lo) = M.base + (a.off - M.lo) + i by omega] at e2
            simp at hv'
            rw [e2] at hv'; cases hv'
            exact e3
          · intro j v hv
            have hj : j < n := by
              have := (List.getElem?_eq_some_iff.1 hv).1
              simp at this; omega
            rw [cell_at h1]
            rw [List.getElem?_take_of_lt hj, List.getElem?_drop] at hv
            simpa using hv
    · cases h
  · cases h

theorem loadA_sound {t : TypeId} {a : Addr} {v : Value} {L : Loc} (h : loadA P σ t a = some v) (hr : Rep ι σ w) (hl : ι.loc a.block (stampOf a) = some L) (hlo : L.lo ≤ a.off) :
    ∃ v', (loadVar t (L.at a.off)).run P w = .ok v' w ∧ VR ι v v' := by
  unfold loadA at h
  split at h
  · rename_i ha
    split at h
    · rename_i n hs
      cases hrr : readRow σ a n with
      | none => simp [hrr] at h
      | some cs =>
        simp [hrr] at h; subst h
        obtain ⟨cs', h1, h2, h3⟩ := readRow_sound hrr hr hl hlo
        have := run_loadCells_list (P := P) (w := w) (L.at a.off) cs' h3
        rw [← h2.length, h1] at this
        exact ⟨.agg ⟨cs'⟩, by simp [loadVar, run_aggT ha, run_sizeT hs, this], .agg' h2⟩
    · cases h
  · rename_i ha
    split at h
    · rename_i v0 hrr
      simp at h; subst h
      obtain ⟨cs', h1, h2, h3⟩ := readRow_sound hrr hr hl hlo
      cases h2 with
      | cons hv ht =>
        cases ht
        rename_i v'
        have := h3 0 v' (by simp)
        rw [show (L.at a.off).add 0 = L.at a.off from by simp [Addr.add]] at this
        exact ⟨v', by simp [loadVar, run_aggT ha, this], hv⟩
    · cases h
  · cases h
end
end Go.Lay
