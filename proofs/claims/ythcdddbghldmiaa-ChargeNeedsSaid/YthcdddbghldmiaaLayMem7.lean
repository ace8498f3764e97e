/- All operations that make or write memory. -/
import Derived.Test.YthcdddbghldmiaaLayMem6
set_option linter.unusedVariables false
set_option linter.unusedSimpArgs false
namespace Go.Lay
open Go
section
variable {P : Program} {ι : Inj} {σ : St} {w : World}

/-- What an operation hands back to its frame. -/
inductive NextV : Next → Value → Prop
  | value (v : Value) : NextV (.value v) v
  | skip : NextV .skip undef

def EffOut (P : Program) (ι : Inj) (σ : St) (w : World) (v : Value) (σ' : St) (s : Sem Next) : Prop :=
  ∃ nx v' w' ι', s.run P w = .ok nx w' ∧ NextV nx v' ∧ VR ι' v v' ∧ Good ι σ w ι' σ' w'

theorem Fresh.mono {n m m' : Nat} (h : Fresh ι n m) (hm : m' ≤ m) : Fresh ι n m' := fun b s h1 h2 => h b s h1 (by omega)

/-! ### Maps -/
theorem map_put {r : Nat} {es es2 : List (Value × Value)} {L : Loc} {arr2 : Array MapEntry} {clock : Nat} (hr : Rep ι σ w) (hb : getB σ.heap r = some (.map es)) (hl : ι.loc r 0 = some L)
    (hE : EntR ι es2 arr2.toList) : Good ι σ w ι (σ.put r (.map es2)) { w with heap := w.heap.setIfInBounds L.c (.map arr2 clock) } := by
  obtain ⟨arr, ck, hrow, _, hown⟩ := mapBlk hr hb hl
  have hlt := hr.lt _ _ _ hl
  refine Good.putBlk hr hb (Ext.refl _ _ _) (fun _ _ _ => rfl) (fun b s L h => by simpa using hr.lt b s L h) (fun c b h => by simpa using hr.ownlt c b h) (by simp)
    (fun c _ hc => ?_) ⟨rfl, rfl, rfl⟩ (.one L.c (fun c hc => by simp [Array.getElem?_setIfInBounds_ne (Ne.symm hc)]) (fun _ _ _ h => by simp [hlt] at h)) ?_
  · have hne : L.c ≠ c := fun e => hc (by rw [← e]; exact hown)
    simp [Array.getElem?_setIfInBounds_ne hne]
  · refine .map hl hown (arr := arr2) (clock := clock) (by simp [hlt]) (by have := hE.size; simpa using this.symm) (fun i e he => ?_)
    obtain ⟨e', h1, h2, h3⟩ := hE.ent i e he
    exact ⟨e', by simpa using h1, h2, h3⟩

theorem run_setObj_map {c : Nat} {arr : Array MapEntry} {clock : Nat} (o : Obj) (h : w.heap[c]? = some (.map arr clock)) : (setObj c o).run P w = .ok () { w with heap := w.heap.setIfInBounds c o } := by
  simp [setObj, Sem.run, h]

theorem EntR.push {es : List (Value × Value)} {arr : Array MapEntry} {k v v' : Value} {b : Nat} (h : EntR ι es arr.toList) (hv : VR ι v v') : EntR ι (es ++ [(k, v)]) (arr.push { key := k, val := v', born := b }).toList := by
  have hs := h.size
  refine ⟨by simp at hs ⊢; omega, fun i e he => ?_⟩
  by_cases hi : i < es.length
  · rw [List.getElem?_append_left hi] at he
    obtain ⟨e', h1, h2, h3⟩ := h.ent i e he
    refine ⟨e', ?_, h2, h3⟩
    rw [Array.toList_push, List.getElem?_append_left (by omega)]; exact h1
  · rw [List.getElem?_append_right (by omega)] at he
    have hi2 : i - es.length = 0 := by
      have := (List.getElem?_eq_some_iff.1 he).1
      simp at this; omega
    rw [hi2] at he; simp at he; subst he
    refine ⟨⟨k, v', b⟩, ?_, rfl, hv⟩
    rw [Array.toList_push, List.getElem?_append_right (by omega)]
    rw [show i - arr.toList.length = 0 by omega]; rfl

theorem EntR.set {es : List (Value × Value)} {arr : Array MapEntry} {k v v' : Value} {j : Nat} (h : EntR ι es arr.toList) (hv : VR ι v v') :
    EntR ι (es.set j (k, v)) (arr.modify j fun e => { e with key := k, val := v' }).toList := by
  have hs := h.size
  refine ⟨by simp at hs ⊢; omega, fun i e he => ?_⟩
  have hlt : i < es.length := by have := (List.getElem?_eq_some_iff.1 he).1; simpa using this
  have hlt' : i < arr.size := by simp at hs; omega
  by_cases hij : j = i
  · subst hij
    rw [List.getElem?_set_self hlt] at he
    cases he
    obtain ⟨e', h1, _, _⟩ := h.ent j es[j] (by simp [hlt])
    refine ⟨{ e' with key := k, val := v' }, ?_, rfl, hv⟩
    have h1' : arr[j]? = some e' := by simpa using h1
    simp [Array.getElem?_modify, h1']
  · rw [List.getElem?_set_ne hij] at he
    obtain ⟨e', h1, h2, h3⟩ := h.ent i e he
    refine ⟨e', ?_, h2, h3⟩
    have h1' : arr[i]? = some e' := by simpa using h1
    simp [Array.getElem?_modify, hij, h1']

theorem mapUpdate_sound {t : TypeId} {kt et : TypeId} {m m' k k' x x' : Value} {r : Nat} {es : List (Value × Value)} {σ' : St} (hm : mapOf P t = some (kt, et)) (hmv : m = .map (some r)) (hM : VR ι m m') (hK : VR ι k k') (hX : VR ι x x')
    (hb : getB σ.heap r = some (.map es)) (hk : keyOk P false kt k = true) (hr : Rep ι σ w)
    (h : (match keyIdx P kt k es 0 with
          | some (some i) => match es[i]? with
            | some e => bif Instr.sameBits 10000 e.1 k then σ.write r (.map (es.set i (k, x))) fun σ => some (undef, σ) else none
            | none => none
          | some none => σ.write r (.map (es ++ [(k, x)])) fun σ => some (undef, σ)
          | none => none) = some (undef, σ')) : ∃ w', (Instr.mapUpdate t m' k' x').run P w = .ok () w' ∧ Good ι σ w ι σ' w' := by
  subst hmv
  obtain ⟨L, hl, rfl⟩ := hM.map_inv
  have hd := mapOf_some hm
  obtain ⟨arr, clock, hrow, hE, hown⟩ := mapBlk hr hb hl
  obtain ⟨k1, k2, d, hkd⟩ := keyOk_run hk
  have ek := hK.rigid _ k1; subst ek
  cases hkx : keyIdx P kt k es 0 with
  | none => simp [hkx] at h
  | some r0 =>
    obtain ⟨r', f1, f2⟩ := findKey_run hkd hkx hE
    rw [hkx] at h
    cases r0 with
    | none =>
      have : r' = none := f2
      subst this
      simp only [St.write_eq, Option.some.injEq, Prod.mk.injEq, true_and] at h; subst h
      refine ⟨_, ?_, map_put (arr2 := arr.push { key := k, val := x', born := clock }) (clock := clock + 1) hr hb hl (hE.push hX)⟩
      simp [Instr.mapUpdate, run_underlying hd, run_getObj_map hrow, k2, f1, run_setObj_map _ hrow]
    | some j =>
      obtain ⟨e1, g1, _, g2⟩ := f2
      simp only at h
      cases hej : es[j]? with
      | none => simp [hej] at h
      | some e =>
        simp only [hej] at h
        cases hsb : Instr.sameBits 10000 e.1 k with
        | false => rw [hsb, cond_false] at h; cases h
        | true =>
          rw [hsb, cond_true, St.write_eq] at h
          simp at h; subst h
          obtain ⟨e2, q1, q2, q3⟩ := hE.ent j e hej
          rw [show j - 0 = j from rfl] at g1
          rw [q1] at g1; cases g1
          subst g2
          have q1' : arr[j]? = some e1 := by simpa using q1
          refine ⟨_, ?_, map_put (arr2 := arr.modify j fun e => { e with key := k, val := x' }) (clock := clock) hr hb hl (hE.set hX)⟩
          simp [Instr.mapUpdate, run_underlying hd, run_getObj_map hrow, k2, f1, q1', q2, Instr.keyThatStays, hsb, run_setObj_map _ hrow]

/-! ### Append -/
theorem appendA_sound {st xt ty : TypeId} {s s' x x' v : Value} {σ' : St} (hz : zeroOk P) (h : appendA P st xt s x σ = some (v, σ')) (hr : Rep ι σ w) (hf : Fresh ι σ.next σ'.next) (hs : VR ι s s') (hx : VR ι x x') :
    ∃ v' w' ι', (Builtin.append_ #[st, xt] ty #[s', x']).run P w = .ok v' w' ∧ VR ι' v v' ∧ Good ι σ w ι' σ' w' := by
  unfold appendA at h
  split at h
  · rename_i e n xd base len cap hes hxd
    have hst : P.underlying st = some (.slice e) ∧ sizeT P e = some n := by
      unfold elemOfSlice at hes
      split at hes
      · rename_i e0 hd
        cases hsz : sizeT P e0 with
        | none => simp [hsz] at hes
        | some n0 => simp [hsz] at hes; obtain ⟨rfl, rfl⟩ := hes; exact ⟨hd, hsz⟩
      · cases hes
    split at h
    · rename_i ei hei
      split at h
      · rename_i z hzero
        split at h
        · rename_i cnt cs hsrc
          cases hcond : roomy (len + cnt) n ei.bytes && cs.all cellB && Nat.beq cs.length (cnt * n) && rigidB RD z && Nat.beq z.cells.toList.length n with
          | false => rw [hcond, cond_false] at h; cases h
          | true =>
            rw [hcond, cond_true] at h
            simp only [Bool.and_eq_true] at hcond
            obtain ⟨⟨⟨⟨c1, c2⟩, c3⟩, c4⟩, c5⟩ := hcond
            have c3 := Nat.eq_of_beq_eq_true c3
            have c5 := Nat.eq_of_beq_eq_true c5
            simp only [roomy, Bool.and_eq_true] at c1
            have r1 := (ble_iff _ _).1 c1.1.1
            have r2 := (ble_iff _ _).1 c1.1.2
            have r3 := (ble_iff _ _).1 c1.2
            obtain ⟨cs', hcv, hcr, hsx⟩ := appSrc_sound (P := P) hsrc hr hx c3 c4
            have hC : AppC P st xt e n xd ei z x' len cnt := ⟨hst.1, hst.2, hxd, hei, hzero, by simpa using c5, r1, r3, hsx⟩
            have hcl : cs'.length = cnt * n := by rw [← hcv.length]; exact c3
            unfold appRows at h
            cases hle : Nat.ble (len + cnt) (capLow cap) with
            | true =>
              rw [hle, cond_true] at h
              have hle := (ble_iff _ _).1 hle
              cases base with
              | none =>
                have e1 := hs.slice_none; subst e1
                simp only at h
                cases hc0 : Nat.beq cnt 0 with
                | false => rw [hc0, cond_false] at h; cases h
                | true =>
                  rw [hc0, cond_true] at h
                  simp at h; obtain ⟨rfl, rfl⟩ := h
                  have hle2 : len + cnt ≤ cap := by unfold capLow at hle; split at hle <;> omega
                  refine ⟨_, w, ι, append_inplace (w' := w) hC hle2 hcr rfl, .atom rfl, .refl hr⟩
              | some a =>
                obtain ⟨L, cap', A, hl, hlo, hA, hc, hsz, rfl⟩ := hs.slice_inv
                have hle2 : len + cnt ≤ cap' := Nat.le_trans hle (capLow_le hc)
                simp only at h
                cases hc0 : Nat.beq cnt 0 with
                | true =>
                  rw [hc0, cond_true] at h
                  have hc0 := Nat.eq_of_beq_eq_true hc0
                  simp at h; obtain ⟨rfl, rfl⟩ := h
                  have : cs' = [] := List.eq_nil_of_length_eq_zero (by rw [hcl, hc0]; simp)
                  subst this
                  refine ⟨_, w, ι, append_inplace (w' := w) hC hle2 hcr ?_, ?_, .refl hr⟩
                  · simp [storeCells]
                  · exact .slice hl hlo (hA.imp id (fun x => ⟨by have := x.2.2; omega, x.2.1, x.2.2⟩)) hc hsz
                | false =>
                  rw [hc0, cond_false] at h
                  have hA : A = L.at a.off := hA.elim id (fun x => by
                    exfalso
                    have h0 : cnt = 0 := by have := x.2.2; omega
                    rw [h0] at hc0; cases hc0)
                  subst hA
                  cases hw : writeRow σ (aadd a (len * n)) cs with
                  | none => simp [hw] at h
                  | some σ1 =>
                    simp [hw] at h; obtain ⟨rfl, rfl⟩ := h
                    obtain ⟨w', g1, g2⟩ := write_good (P := P) (a := aadd a (len * n)) (L := L) hw hr hl (by simp [aadd]; omega) hcv
                    refine ⟨_, w', ι, append_inplace (w' := w') hC hle2 hcr ?_, .slice hl hlo (.inl rfl) hc hsz, g2⟩
                    simp only [at_add _ _ _ hlo]; exact g1
            | false =>
              rw [hle, cond_false] at h
              have hgt : ¬ len + cnt ≤ capLow cap := fun e => by rw [(ble_iff _ _).2 e] at hle; cases hle
              cases hex : capExact cap with
              | true =>
                rw [hex, cond_true] at h
                have hcapl : capLow cap = cap := by have := (capExact_iff cap).1 hex; unfold capLow; rw [if_neg (by omega)]
                rw [hcapl] at hgt
                have hg := Good.drew hr
                have hzl : ∀ m, (Builtin.zeroCells z.cells m).size = m * n := fun m => by
                  have : z.cells.size = n := by simpa using c5
                  simp [Builtin.zeroCells, this]
                -- the new row, whatever it begins with
                have fin : ∀ {old old' : List Value} {base' : Option Addr}, VRs ι old old' → old.length = len * n →
                    (Builtin.firstCells n len (.slice base' len cap)).run P (Lay.drew w) = .ok ⟨old'⟩ (Lay.drew w) →
                    σ' = σ.add (.cells (old ++ cs) n [(0, (old ++ cs).length)] 1 false) →
                    ∃ v' w' ι', (Builtin.append_ #[st, xt] ty #[.slice base' len cap, x']).run P w = .ok v' w' ∧ VR ι' (.slice (some ⟨σ.next, 0, none⟩) (len + cnt) (len + cnt + INEX)) v' ∧ Good ι σ w ι' σ' w' := by
                  intro old old' base' ho hol hrun hσ
                  subst hσ
                  obtain ⟨cs2, hcv2, hcr2, _⟩ := appSrc_sound (P := P) hsrc hg.rep hx c3 c4
                  obtain ⟨newCap, k1, k2⟩ := append_grow (P := P) (w := w) (ty := ty) (base := base') (old := ⟨old'⟩) (new := ⟨cs2⟩) hC hgt hrun hcr2
                  have hgood := newRow_good' (esz := n) (elem := e) (tail := (Builtin.zeroCells z.cells (newCap - (len + cnt))).toList) hg.rep hf (VRs.append ho hcv2)
                  have hlen : (old ++ cs).length + (Builtin.zeroCells z.cells (newCap - (len + cnt))).toList.length = newCap * n := by
                    simp only [List.length_append, Array.length_toList, hzl, hol, c3]
                    rw [← Nat.add_mul, ← Nat.add_mul]; congr 1; omega
                  refine ⟨_, _, ι.add σ.next (Lay.drew w).heap.size (newCap * n) n, k2, newRow_slice (σ := σ) (w := Lay.drew w) (m := newCap * n) (esz := n) (capInex k1) (Nat.le_refl _), ?_⟩
                  rw [hlen] at hgood
                  have e1 : ((⟨old'⟩ : Array Value) ++ ⟨cs2⟩ ++ Builtin.zeroCells z.cells (newCap - (len + cnt))) = ⟨old' ++ cs2 ++ (Builtin.zeroCells z.cells (newCap - (len + cnt))).toList⟩ := by
                    apply Array.ext'; simp
                  rw [e1]
                  exact hg.trans hgood
                cases base with
                | none =>
                  have e1 := hs.slice_none; subst e1
                  simp only at h
                  cases hl0 : Nat.beq len 0 with
                  | false => rw [hl0, cond_false] at h; cases h
                  | true =>
                    rw [hl0, cond_true, newRow_eq] at h
                    have hl0 := Nat.eq_of_beq_eq_true hl0
                    simp at h; obtain ⟨rfl, rfl⟩ := h
                    exact fin (old := []) (old' := []) .nil (by simp [hl0]) (by simp [Builtin.firstCells]) rfl
                | some a =>
                  obtain ⟨L, cap', A, hl, hlo, hA, hc, hsz, rfl⟩ := hs.slice_inv
                  have : cap' = cap := by unfold capR at hc; rw [if_pos hex] at hc; exact hc
                  subst this
                  simp only at h
                  cases hrd : readRow σ a (len * n) with
                  | none => simp [hrd] at h
                  | some old =>
                    simp only [hrd, newRow_eq] at h
                    simp at h; obtain ⟨rfl, rfl⟩ := h
                    obtain ⟨old', o1, o2, o3⟩ := loadRow_at (P := P) (w := Lay.drew w) hrd hg.rep hl hlo (hA.imp id (fun x => by rw [x.1]; simp))
                    exact fin o2 o1 (by simp [Builtin.firstCells, o3]) (by simp)
              | false =>
                rw [hex, cond_false] at h
                cases base with
                | none => simp at h
                | some a =>
                  obtain ⟨L, cap', A, hl, hlo, hA, hc, hsz, rfl⟩ := hs.slice_inv
                  simp only at h
                  have hA : A = L.at a.off := hA.elim id (fun x => by
                    exfalso
                    rw [x.2.1] at hex
                    have := (capExact_iff 0).2 (by unfold INEX; decide)
                    rw [this] at hex; cases hex)
                  subst hA
                  exact appGrow_sound (P := P) h hr hC (capLow_le hc) (by omega) hl hlo hsz hcv c2 c3 (fun w2 hr2 => by
                    obtain ⟨u, u1, u2, _⟩ := appSrc_sound (P := P) (w := w2) hsrc hr2 hx c3 c4
                    exact ⟨u, u2, u1⟩)
        · cases h
      · cases h
    · cases h
  · cases h
end
end Go.Lay
