/- Appending, in abstract; all operations that make or write memory. -/
import Derived.Test.YthcdddbghldmiaaLayMem5
set_option linter.unusedVariables false
set_option linter.unusedSimpArgs false
namespace Go.Lay
open Go
section
variable {P : Program} {ι : Inj} {σ : St} {w : World}

theorem logFrom_sub : ∀ {log : List (Nat × Nat)} {s : Nat} {x : Nat × Nat}, x ∈ logFrom log s → x ∈ log
  | [], _, _, h => by simp [logFrom] at h
  | (k, e) :: r, s, x, h => by
    simp only [logFrom] at h
    cases hk : Nat.beq k s with
    | true => rw [hk, cond_true] at h; exact h
    | false => rw [hk, cond_false] at h; exact List.mem_cons_of_mem _ (logFrom_sub h)
theorem logFrom_pairwise {R : Nat × Nat → Nat × Nat → Prop} : ∀ {log : List (Nat × Nat)} {s : Nat}, log.Pairwise R → (logFrom log s).Pairwise R
  | [], _, _ => by simp [logFrom]
  | (k, e) :: r, s, h => by
    simp only [logFrom]
    cases hk : Nat.beq k s with
    | true => rw [cond_true]; exact h
    | false => rw [cond_false]; exact logFrom_pairwise (List.pairwise_cons.1 h).2
/-- What is behind a stamp reaches no further than it. -/
theorem logFrom_le : ∀ {log : List (Nat × Nat)} {s e : Nat} {x : Nat × Nat}, log.Pairwise (fun x y => y.1 < x.1 ∧ y.2 ≤ x.2) → extOf log s = some e → x ∈ logFrom log s → x.2 ≤ e
  | [], _, _, _, _, h, _ => by simp [extOf] at h
  | (k, e0) :: r, s, e, x, hp, he, hx => by
    simp only [logFrom] at hx
    simp only [extOf] at he
    cases hk : Nat.beq k s with
    | true =>
      rw [hk, cond_true] at hx he
      cases he
      rcases List.mem_cons.1 hx with rfl | hx
      · exact Nat.le_refl _
      · exact ((List.pairwise_cons.1 hp).1 x hx).2
    | false =>
      rw [hk, cond_false] at hx he
      exact logFrom_le (List.pairwise_cons.1 hp).2 he hx

/-- One stamp more. -/
def Inj.stamp (ι : Inj) (b s : Nat) (L : Loc) : Inj := { ι with loc := fun b' s' => if b' = b ∧ s' = s then some L else ι.loc b' s' }
/-- One stamp more, over a new block. -/
def Inj.stampNew (ι : Inj) (b s : Nat) (L : Loc) (n : Nat) : Inj :=
  { loc := fun b' s' => if b' = b ∧ s' = s then some L else ι.loc b' s'
    own := fun c' => if c' = L.c then some b else ι.own c'
    csz := fun c' => if c' = L.c then n else ι.csz c' }

theorem append_get (a b : List Value) (ex : Nat) (h : ex ≤ a.length) (i : Nat) : (a.take ex ++ b)[i]? = if i < ex then a[i]? else b[i - ex]? := by
  have hl : (a.take ex).length = ex := by simp; omega
  by_cases hi : i < ex
  · rw [if_pos hi, List.getElem?_append_left (by omega), List.getElem?_take_of_lt hi]
  · rw [if_neg hi, List.getElem?_append_right (by omega), hl]

theorem capInex {need cap' : Nat} (h : need ≤ cap') : capR (need + INEX) cap' := by
  unfold capR
  have : capExact (need + INEX) = false := by rw [Bool.eq_false_iff]; intro e; have := (capExact_iff _).1 e; omega
  rw [if_neg (by rw [this]; simp)]
  unfold capLow
  rw [if_pos (by omega)]; omega

theorem appGrow_sound {st xt e : TypeId} {n : Nat} {xd : TypeDesc} {info : TypeInfo} {z x' v : Value} {len cnt cap' : Nat} {a : Addr} {L : Loc} {cs cs' : List Value} {ty : TypeId} {known : Nat} {σ' : St}
    (h : appGrow σ n a len known cnt cs = some (v, σ')) (hr : Rep ι σ w) (hC : AppC P st xt e n xd info z x' len cnt) (hkn : known ≤ cap') (hneed : known < len + cnt)
    (hl : ι.loc a.block (stampOf a) = some L) (hlo : L.lo ≤ a.off) (hsz : L.base + (a.off - L.lo) + cap' * L.z ≤ ι.csz L.c) (hv : VRs ι cs cs') (hcc : cs.all cellB = true) (hcl : cs.length = cnt * n)
    (hs : ∀ w, Rep ι σ w → (∃ u, (srcRun n z xd x' cnt).run P w = .ok ⟨u⟩ w ∧ VRs ι cs u)) :
    ∃ v' w' ι', (Builtin.append_ #[st, xt] ty #[.slice (some (L.at a.off)) len cap', x']).run P w = .ok v' w' ∧ VR ι' v v' ∧ Good ι σ w ι' σ' w' := by
  unfold appGrow at h
  split at h
  · rename_i bc esz log nx ro hb
    split at h
    · rename_i ex hex
      cases hcond : Nat.beq len known && Nat.beq (a.off + len * n) ex && Nat.beq esz n && !ro && Nat.blt 0 n with
      | false => rw [hcond, cond_false] at h; cases h
      | true =>
        rw [hcond, cond_true, fVs_eq, fN_eq, fN_eq, St.write_eq] at h
        simp only [Bool.and_eq_true, Bool.not_eq_true'] at hcond
        obtain ⟨⟨⟨⟨c1, c2⟩, c3⟩, c4⟩, c5⟩ := hcond
        have c1 := Nat.eq_of_beq_eq_true c1
        have c2 := Nat.eq_of_beq_eq_true c2
        have c3 := Nat.eq_of_beq_eq_true c3
        have c5 : 0 < n := (ble_iff 1 n).1 c5
        simp at h
        obtain ⟨rfl, rfl⟩ := h
        subst c4 c3
        have hblk := hr.blk _ _ hb
        cases hblk.2 with
        | cells rows sorted same fresh =>
          obtain ⟨hs1, hs2, M, hM⟩ := rows _ _ (extOf_mem hex)
          have hML : M = L := by have := hM.loc; rw [hl] at this; cases this; rfl
          subst hML
          obtain ⟨arr, elem, fr, r1, r2, r3, r4, r5⟩ := hM.row
          have hfr := r3 rfl; subst hfr
          have hcz := hM.cz
          have hown : ι.own M.c = some a.block := by rw [hM.own]; rfl
          rw [hcz] at hsz
          have hnxn : ι.loc a.block nx = none := fresh nx (Nat.le_refl _)
          have hmul : (len + cnt) * esz = len * esz + cnt * esz := Nat.add_mul _ _ _
          have hbl : (bc.take ex ++ cs).length = ex + cnt * esz := by simp; omega
          by_cases hle : len + cnt ≤ cap'
          · -- in place
            obtain ⟨u, hu, hvu⟩ := hs w hr
            have hul : u.length = cnt * esz := by rw [← hvu.length]; exact hcl
            have hcap : (len + cnt) * esz ≤ cap' * esz := Nat.mul_le_mul_right _ hle
            have huc : u.all cellB = true := by rw [← hvu.cellB]; exact hcc
            have hst := run_storeCells_at (P := P) M.c (M.base + (a.off + len * esz - M.lo)) elem u 0 arr w r1 (by omega) (oneCell_of_cellB huc)
            have hadd : (M.at a.off).add (len * esz) = ⟨M.c, M.base + (a.off + len * esz - M.lo), none⟩ := by rw [at_add _ _ _ hlo]; rfl
            have hrun := append_inplace (P := P) (w := w) (ty := ty) (base := some (M.at a.off)) (new := ⟨u⟩) hC hle hu (by simp only [hadd]; exact hst)
            refine ⟨_, _, ι.stamp a.block nx M, hrun, ?_, ?_⟩
            · refine .slice (a := ⟨a.block, a.off, some nx⟩) (L := M) (by simp [Inj.stamp, stampOf]) hlo (.inl rfl) (capInex hle) (by simp only [Inj.stamp]; rw [hcz]; exact hsz)
            · have ext : Ext ι (ι.stamp a.block nx M) w.heap.size σ.next := by
                refine ⟨fun b s L0 h0 => ?_, fun _ _ _ _ => rfl, fun b s h0 hb0 => ?_, fun _ _ => rfl, fun _ _ => rfl, fun b s L0 h0 _ => ?_⟩
                · simp only [Inj.stamp]
                  rw [if_neg]; exact h0
                  rintro ⟨rfl, rfl⟩; rw [hnxn] at h0; cases h0
                · simp only [Inj.stamp]
                  rw [if_neg]; exact h0
                  rintro ⟨rfl, rfl⟩; have := hblk.1; omega
                · simp only [Inj.stamp] at h0
                  split at h0
                  · cases h0; exact ⟨_, _, _, hl, rfl⟩
                  · exact ⟨_, _, _, h0, rfl⟩
              refine Good.putBlk hr hb ext (fun b' s hne => by simp [Inj.stamp, hne]) (fun b s L0 h0 => ?_) (fun c b h0 => by simpa using hr.ownlt c b h0) (by simp)
                (fun c _ hc => setRow_other w M.c c _ (fun hcc => hc (by rw [hcc]; exact hown))) ⟨rfl, rfl, rfl⟩ (.one M.c (fun c hc => setRow_other w M.c c _ hc) (fun _ _ _ h => by rw [setRow_heap w M.c arr _ elem (0, 0) r1] at h; cases h; rfl)) ?_
              · simp only [Inj.stamp] at h0
                split at h0
                · cases h0; simpa using hr.lt _ _ _ hl
                · simpa using hr.lt _ _ _ h0
              · -- the block
                have arrget : ∀ i, (arr.toList.take (M.base + (a.off + len * esz - M.lo) + 0) ++ u ++ arr.toList.drop (M.base + (a.off + len * esz - M.lo) + 0 + u.length)).toArray[i]? =
                    if i < M.base + (ex - M.lo) then arr[i]? else if i < M.base + (ex - M.lo) + u.length then u[i - (M.base + (ex - M.lo))]? else arr[i]? := by
                  intro i
                  have := splice_get arr.toList u (M.base + (ex - M.lo)) u.length (by simp; omega) rfl i
                  rw [← c2] at this ⊢
                  simp only [Nat.add_zero]
                  simpa using this
                refine .cells (fun s' e' hm => ?_) ?_ (fun s₁ e₁ s₂ e₂ L₁ L₂ h₁ h₂ l₁ l₂ hc => ?_) (fun s' hs' => ?_)
                · rcases List.mem_cons.1 hm with hm | hm
                  · simp at hm; obtain ⟨rfl, rfl⟩ := hm
                    refine ⟨by omega, by rw [hbl]; exact Nat.le_refl _, M, by simp [Inj.stamp], ⟨_, elem, (0, 0), setRow_heap w M.c arr _ elem (0, 0) r1, ?_, fun _ => rfl, ?_, fun j j1 j2 => ?_⟩, hcz, by have := hM.lo; omega, hM.own⟩
                    · simp only [Inj.stamp]; rw [← r2]; simp; omega
                    · simp; omega
                    · rw [append_get _ _ _ hs2, arrget]
                      by_cases x1 : j < ex
                      · have y1 : M.base + (j - M.lo) < M.base + (ex - M.lo) := by have := hM.lo; omega
                        rw [if_pos x1, if_pos y1]
                        obtain ⟨v, v', q1, q2, q3⟩ := r5 j j1 x1
                        exact ⟨v, v', q1, q2, q3.ext ext⟩
                      · have y1 : ¬ M.base + (j - M.lo) < M.base + (ex - M.lo) := by omega
                        have y2 : M.base + (j - M.lo) < M.base + (ex - M.lo) + u.length := by have := hM.lo; omega
                        rw [if_neg x1, if_neg y1, if_pos y2]
                        have hj : j - ex < cs.length := by omega
                        obtain ⟨u', u1, u2⟩ := hvu.get_some (i := j - ex) (v := cs[j - ex]) (by simp [hj])
                        refine ⟨cs[j - ex], u', by simp [hj], ?_, u2.ext ext⟩
                        have hloex := hM.lo
                        rw [show M.base + (j - M.lo) - (M.base + (ex - M.lo)) = j - ex by omega]; exact u1
                  · have hmem := logFrom_sub hm
                    have hle2 : e' ≤ ex := logFrom_le (x := (s', e')) sorted hex hm
                    obtain ⟨a1, a2, N, hN⟩ := rows s' e' hmem
                    obtain ⟨arr2, elem2, fr2, n1, n2, n3, n4, n5⟩ := hN.row
                    refine ⟨by omega, by rw [hbl]; omega, N, ext.loc _ _ _ hN.loc, ?_, hN.cz, hN.lo, hN.own⟩
                    by_cases hcc2 : N.c = M.c
                    · have hsm := same _ _ _ _ _ _ hmem (extOf_mem hex) hN.loc hM.loc hcc2
                      have n1' := n1
                      rw [hcc2, r1] at n1'
                      cases n1'
                      refine ⟨_, elem, (0, 0), by rw [hcc2]; exact setRow_heap w M.c arr _ elem (0, 0) r1, ?_, fun _ => rfl, ?_, fun j j1 j2 => ?_⟩
                      · simp only [Inj.stamp]; rw [← n2]; simp; omega
                      · simp; omega
                      · obtain ⟨v, v', q1, q2, q3⟩ := n5 j j1 j2
                        rw [append_get _ _ _ hs2, arrget]
                        have x1 : j < ex := by omega
                        have y1 : N.base + (j - N.lo) < M.base + (ex - M.lo) := by have := hM.lo; omega
                        rw [if_pos x1, if_pos y1]
                        exact ⟨v, v', q1, q2, q3.ext ext⟩
                    · refine ⟨arr2, elem2, fr2, by rw [setRow_other _ _ _ _ hcc2]; exact n1, n2, n3, n4, fun j j1 j2 => ?_⟩
                      obtain ⟨v, v', q1, q2, q3⟩ := n5 j j1 j2
                      rw [append_get _ _ _ hs2, if_pos (by omega)]
                      exact ⟨v, v', q1, q2, q3.ext ext⟩
                · refine List.pairwise_cons.2 ⟨fun y hy => ?_, logFrom_pairwise sorted⟩
                  have h1 := logFrom_le sorted hex hy
                  obtain ⟨h2, _, _⟩ := rows y.1 y.2 (logFrom_sub hy)
                  exact ⟨h2, by simp; omega⟩
                · -- stamps over one block agree
                  have find : ∀ {s e L}, (s, e) ∈ (nx, ex + cnt * esz) :: logFrom log (stampOf a) → (ι.stamp a.block nx M).loc a.block s = some L →
                      ∃ s' e', (s', e') ∈ log ∧ ι.loc a.block s' = some L := by
                    intro s e L hm hL
                    rcases List.mem_cons.1 hm with hm | hm
                    · simp at hm; obtain ⟨rfl, rfl⟩ := hm
                      simp [Inj.stamp] at hL; subst hL
                      exact ⟨_, _, extOf_mem hex, hl⟩
                    · obtain ⟨_, _, N, hN⟩ := rows _ _ (logFrom_sub hm)
                      have := ext.loc _ _ _ hN.loc
                      rw [hL] at this; cases this
                      exact ⟨_, _, logFrom_sub hm, hN.loc⟩
                  obtain ⟨s₁', e₁', m₁, k₁⟩ := find h₁ l₁
                  obtain ⟨s₂', e₂', m₂, k₂⟩ := find h₂ l₂
                  exact same _ _ _ _ _ _ m₁ m₂ k₁ k₂ hc
                · simp only [Inj.stamp]
                  rw [if_neg (by omega)]; exact fresh s' (by omega)
          · -- new memory
            have hgood := Good.drew hr
            obtain ⟨u, hu, hvu⟩ := hs (drew w) hgood.rep
            have hul : u.length = cnt * esz := by rw [← hvu.length]; exact hcl
            have hread : readRow σ a (len * esz) = some ((bc.drop a.off).take (len * esz)) := by
              unfold readRow; simp only [hb, hex]; rw [(ble_iff _ _).2 (by omega)]; rfl
            obtain ⟨old, o1, o2, o3⟩ := loadCells_sound (P := P) (w := drew w) hread hgood.rep hl hlo
            obtain ⟨newCap, k1, k2⟩ := append_grow (P := P) (w := w) (ty := ty) (base := some (M.at a.off)) (old := ⟨old⟩) (new := ⟨u⟩) hC hle (by simp [Builtin.firstCells, o3]) hu
            have hzl : (Builtin.zeroCells z.cells (newCap - (len + cnt))).size = (newCap - (len + cnt)) * esz := by simp [Builtin.zeroCells, hC.zs]
            have htot : ((⟨old⟩ : Array Value) ++ ⟨u⟩ ++ Builtin.zeroCells z.cells (newCap - (len + cnt))).size = newCap * esz := by
              simp only [Array.size_append, hzl]
              have e1 : (⟨old⟩ : Array Value).size = len * esz := by show old.length = _; rw [← o2.length]; exact o1
              have e2 : (⟨u⟩ : Array Value).size = cnt * esz := hul
              rw [e1, e2, ← Nat.add_mul, ← Nat.add_mul]
              congr 1; omega
            refine ⟨_, _, ι.stampNew a.block nx ⟨w.heap.size, a.off, 0, esz⟩ (newCap * esz), k2, ?_, ?_⟩
            · have := VR.slice (ι := ι.stampNew a.block nx ⟨w.heap.size, a.off, 0, esz⟩ (newCap * esz)) (a := ⟨a.block, a.off, some nx⟩) (L := ⟨w.heap.size, a.off, 0, esz⟩) (len := len + cnt) (cap := len + cnt + INEX) (cap' := newCap)
                (by simp [Inj.stampNew, stampOf]) (Nat.le_refl _) (.inl rfl) (capInex k1) (by simp [Inj.stampNew])
              simpa [Loc.at] using this
            · have ext : Ext ι (ι.stampNew a.block nx ⟨w.heap.size, a.off, 0, esz⟩ (newCap * esz)) w.heap.size σ.next := by
                refine ⟨fun b s L0 h0 => ?_, fun b s L0 h0 => ?_, fun b s h0 hb0 => ?_, fun c hc => ?_, fun c hc => ?_, fun b s L0 h0 hc => ?_⟩
                · simp only [Inj.stampNew]
                  rw [if_neg]; exact h0
                  rintro ⟨rfl, rfl⟩; rw [hnxn] at h0; cases h0
                · have := hr.lt _ _ _ h0
                  have hne : L0.c ≠ w.heap.size := by omega
                  simp [Inj.stampNew, hne]
                · simp only [Inj.stampNew]
                  rw [if_neg]; exact h0
                  rintro ⟨rfl, rfl⟩; have := hblk.1; omega
                · have hne : c ≠ w.heap.size := by omega
                  simp [Inj.stampNew, hne]
                · have hne : c ≠ w.heap.size := by omega
                  simp [Inj.stampNew, hne]
                · simp only [Inj.stampNew] at h0
                  split at h0
                  · cases h0; simp at hc
                  · exact ⟨_, _, _, h0, rfl⟩
              have hold : ∀ c, c < w.heap.size → (World.push (drew w) (.cells (⟨old⟩ ++ ⟨u⟩ ++ Builtin.zeroCells z.cells (newCap - (len + cnt))) e)).heap[c]? = w.heap[c]? := fun c hc => World.push_old (drew w) _ hc
              refine Good.putBlk hr hb ext (fun b' s hne => by simp [Inj.stampNew, hne]) (fun b s L0 h0 => ?_) (fun c b h0 => ?_) (by simp [drew]) (fun c hc _ => hold c hc) ⟨rfl, rfl, rfl⟩ (FrKeep.push (drew w) (fun _ _ _ h => by cases h; rfl)) ?_
              · simp only [Inj.stampNew] at h0
                split at h0
                · cases h0; simp [drew]
                · have := hr.lt _ _ _ h0; simp [drew]; omega
              · simp only [Inj.stampNew] at h0
                split at h0
                · rename_i hc0; have := hblk.1; cases h0; simp [drew]; omega
                · have := hr.ownlt _ _ h0; simp [drew]; omega
              · refine .cells (fun s' e' hm => ?_) ?_ (fun s₁ e₁ s₂ e₂ L₁ L₂ h₁ h₂ l₁ l₂ hc => ?_) (fun s' hs' => ?_)
                · rcases List.mem_cons.1 hm with hm | hm
                  · simp at hm; obtain ⟨rfl, rfl⟩ := hm
                    refine ⟨by omega, by rw [hbl]; exact Nat.le_refl _, ⟨w.heap.size, a.off, 0, esz⟩, by simp [Inj.stampNew], ⟨_, e, (0, 0), World.push_new (drew w) _, ?_, fun _ => rfl, ?_, fun j j1 j2 => ?_⟩, by simp [Inj.stampNew], by simp; omega, by simp [Inj.stampNew]⟩
                    · rw [htot]; simp [Inj.stampNew]
                    · rw [htot]
                      have : (len + cnt) * esz ≤ newCap * esz := Nat.mul_le_mul_right _ k1
                      simp; omega
                    · simp only at j1
                      rw [append_get _ _ _ hs2]
                      have hol : old.length = len * esz := by rw [← o2.length]; exact o1
                      have hget : ((⟨old⟩ : Array Value) ++ ⟨u⟩ ++ Builtin.zeroCells z.cells (newCap - (len + cnt)))[0 + (j - a.off)]? = (old ++ u)[j - a.off]? := by
                        rw [Nat.zero_add, ← Array.getElem?_toList]
                        simp only [Array.toList_append]
                        rw [List.getElem?_append_left (by simp; omega)]
                      rw [hget]
                      by_cases x1 : j < ex
                      · rw [if_pos x1, List.getElem?_append_left (by omega)]
                        have hj : (bc.drop a.off).take (len * esz) = (bc.drop a.off).take (len * esz) := rfl
                        have hbj : j < bc.length := by omega
                        have e1 : ((bc.drop a.off).take (len * esz))[j - a.off]? = some bc[j] := by
                          rw [List.getElem?_take_of_lt (by omega), List.getElem?_drop]
                          rw [show a.off + (j - a.off) = j by omega]; simp [hbj]
                        obtain ⟨v', q1, q2⟩ := o2.get_some e1
                        exact ⟨bc[j], v', by simp [hbj], q1, q2.ext ext⟩
                      · rw [if_neg x1, List.getElem?_append_right (by omega)]
                        have hj : j - ex < cs.length := by omega
                        obtain ⟨u', u1, u2⟩ := hvu.get_some (i := j - ex) (v := cs[j - ex]) (by simp [hj])
                        refine ⟨cs[j - ex], u', by simp [hj], ?_, u2.ext ext⟩
                        rw [show j - a.off - old.length = j - ex by omega]; exact u1
                  · have hmem := logFrom_sub hm
                    have hle2 : e' ≤ ex := logFrom_le (x := (s', e')) sorted hex hm
                    obtain ⟨a1, a2, N, hN⟩ := rows s' e' hmem
                    obtain ⟨arr2, elem2, fr2, n1, n2, n3, n4, n5⟩ := hN.row
                    have hNlt := hr.lt _ _ _ hN.loc
                    refine ⟨by omega, by rw [hbl]; omega, N, ext.loc _ _ _ hN.loc, ⟨arr2, elem2, fr2, by rw [hold _ hNlt]; exact n1, by rw [ext.sz _ _ _ hN.loc]; exact n2, n3, n4, fun j j1 j2 => ?_⟩, hN.cz, hN.lo, by rw [ext.own _ hNlt]; exact hN.own⟩
                    obtain ⟨v, v', q1, q2, q3⟩ := n5 j j1 j2
                    rw [append_get _ _ _ hs2, if_pos (by omega)]
                    exact ⟨v, v', q1, q2, q3.ext ext⟩
                · refine List.pairwise_cons.2 ⟨fun y hy => ?_, logFrom_pairwise sorted⟩
                  have h1 := logFrom_le sorted hex hy
                  obtain ⟨h2, _, _⟩ := rows y.1 y.2 (logFrom_sub hy)
                  exact ⟨h2, by simp; omega⟩
                · have find : ∀ {s e0 L0}, (s, e0) ∈ (nx, ex + cnt * esz) :: logFrom log (stampOf a) → (ι.stampNew a.block nx ⟨w.heap.size, a.off, 0, esz⟩ (newCap * esz)).loc a.block s = some L0 →
                      L0 = ⟨w.heap.size, a.off, 0, esz⟩ ∨ ((s, e0) ∈ log ∧ ι.loc a.block s = some L0 ∧ L0.c < w.heap.size) := by
                    intro s e0 L0 hm hL
                    rcases List.mem_cons.1 hm with hm | hm
                    · simp at hm; obtain ⟨rfl, rfl⟩ := hm
                      simp [Inj.stampNew] at hL; exact .inl hL.symm
                    · obtain ⟨_, _, N, hN⟩ := rows _ _ (logFrom_sub hm)
                      have := ext.loc _ _ _ hN.loc
                      rw [hL] at this; cases this
                      exact .inr ⟨logFrom_sub hm, hN.loc, hr.lt _ _ _ hN.loc⟩
                  rcases find h₁ l₁ with rfl | ⟨m₁, k₁, t₁⟩ <;> rcases find h₂ l₂ with rfl | ⟨m₂, k₂, t₂⟩
                  · rfl
                  · simp at hc; omega
                  · simp at hc; omega
                  · exact same _ _ _ _ _ _ m₁ m₂ k₁ k₂ hc
                · simp only [Inj.stampNew]
                  rw [if_neg (by omega)]; exact fresh s' (by omega)
    · cases h
  · cases h
end
end Go.Lay
