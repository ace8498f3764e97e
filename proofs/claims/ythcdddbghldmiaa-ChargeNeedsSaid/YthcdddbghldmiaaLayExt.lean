/- Functions without a body that are run here. -/
import Derived.Test.YthcdddbghldmiaaLayMem7
import Derived.KernelRfl
set_option linter.unusedVariables false
set_option linter.unusedSimpArgs false
namespace Go.Lay
open Go
section
variable {P : Program} {ι : Inj} {σ : St} {w : World}

theorem refOf_some {fv : Value} {args : List Value} {r : FnRef} {as : List Value} (h : refOf fv args = some (r, as)) :
    (∃ f first cap, fv = .func (.func f) first cap ∧ r = .func f ∧ as = first.toList ++ (args ++ cap.toList)) ∨ (∃ l first cap, fv = .func (.yield l) first cap ∧ r = .yield l ∧ as = first.toList ++ args) := by
  unfold refOf at h
  split at h
  · simp at h; exact .inl ⟨_, _, _, rfl, h.1.symm, h.2.symm⟩
  · simp at h; exact .inr ⟨_, _, _, rfl, h.1.symm, h.2.symm⟩
  · cases h

/-- A function value, called: what the model makes of it. -/
theorem call_run {fv fv' : Value} {args args' : List Value} {r : FnRef} {as : List Value} (h : refOf fv args = some (r, as)) (hf : VR ι fv fv') (ha : VRs ι args args') :
    ∃ as', VRs ι as as' ∧ ((∃ f cap, r = .func f ∧ ∃ d, (∀ w, (Deferred.ofValue fv' ⟨args'⟩).run P w = .ok d w) ∧ d.target = .fn (.func f) cap ∧ d.args ++ cap = ⟨as'⟩) ∨
      (∃ l L cap, r = .yield l ∧ ι.loc l 0 = some L ∧ ∃ d, (∀ w, (Deferred.ofValue fv' ⟨args'⟩).run P w = .ok d w) ∧ d.target = .fn (.yield L.c) cap ∧ d.args = ⟨as'⟩)) := by
  rcases refOf_some h with ⟨f, first, cap, rfl, rfl, rfl⟩ | ⟨l, first, cap, rfl, rfl, rfl⟩
  · obtain ⟨fn', f', c', rfl, hfn, h1, h2⟩ := hf.func_inv
    cases hfn
    refine ⟨f'.toList ++ (args' ++ c'.toList), VRs.append h1 (VRs.append ha h2), .inl ⟨f, c', rfl, _, fun w => rfl, rfl, ?_⟩⟩
    apply Array.ext'; simp
  · obtain ⟨fn', f', c', rfl, hfn, h1, h2⟩ := hf.func_inv
    cases hfn with
    | yield hl =>
      refine ⟨f'.toList ++ args', VRs.append h1 ha, .inr ⟨l, _, c', rfl, hl, _, fun w => rfl, rfl, ?_⟩⟩
      apply Array.ext'; simp


theorem bif_some' {α : Type} {c : Bool} {x : Option α} {z : α} (h : (bif c then x else none) = some z) : c = true ∧ x = some z := by cases c <;> simp_all
theorem bif_cases' {α : Type} {c : Bool} {x y : Option α} {z : α} (h : (bif c then x else y) = some z) : (c = true ∧ x = some z) ∨ (c = false ∧ y = some z) := by cases c <;> simp_all
theorem cnt_find {fn : Func} (h : fn.name = cntName) : Extern.find fn = some Extern.BytealgCount.count := by
  have h1 : Extern.allGenericRows.lookup cntName = none := by kernel_rfl
  have h2 : Extern.allTypedRows.lookup cntName = none := by kernel_rfl
  have h3 : Extern.allRows.lookup cntName = some Extern.BytealgCount.count := by kernel_rfl
  unfold Extern.find
  simp only [h, h1, h2, h3]
  rfl
theorem idx_find {fn : Func} (h : fn.name = idxName) : Extern.find fn = some Extern.BytealgIndexByte.indexByte := by
  have h1 : Extern.allGenericRows.lookup idxName = none := by kernel_rfl
  have h2 : Extern.allTypedRows.lookup idxName = none := by kernel_rfl
  have h3 : Extern.allRows.lookup idxName = some Extern.BytealgIndexByte.indexByte := by kernel_rfl
  unfold Extern.find
  simp only [h, h1, h2, h3]
  rfl
theorem next_none {fn : Func} (h : fn.name = cntName ∨ fn.name = idxName) (ho : fn.origin = fn.name ∨ fn.origin = "") : Extern.findNext fn = none := by
  have h1 : Extern.allNextRows.lookup cntName = none := by kernel_rfl
  have h2 : Extern.allNextRows.lookup idxName = none := by kernel_rfl
  have h3 : Extern.allNextRows.lookup "" = none := by kernel_rfl
  unfold Extern.findNext
  rcases h with h | h <;> rcases ho with ho | ho <;> simp only [ho, h, h1, h2, h3] <;> rfl

theorem loadBytes_run : ∀ (cs cs' : List Value) (bs : List UInt8) (a : Addr) (acc : ByteArray), bytesA cs = some bs → VRs ι cs cs' → (∀ j v, cs'[j]? = some v → w.cell? (a.add j) = some v) →
    (Extern.Bytes.loadBytes a cs.length acc).run P w = .ok ⟨⟨acc.data.toList ++ bs⟩⟩ w := by
  intro cs
  induction cs with
  | nil =>
    intro cs' bs a acc hb hv hc
    simp [bytesA] at hb; subst hb
    simp [Extern.Bytes.loadBytes]
  | cons c cs ih =>
    intro cs' bs a acc hb hv hc
    cases hv with
    | cons h1 h2 =>
      rename_i c' cs'
      unfold bytesA at hb
      split at hb
      · cases ‹_ :: _ = []›
      · rename_i n l heq
        cases heq
        split at hb
        · rename_i bs' hbs
          simp at hb; subst hb
          have := h1.int_inv; subst this
          have hc0 := hc 0 _ rfl
          have ha0 : a.add 0 = a := by simp [Addr.add]
          rw [ha0] at hc0
          have hx := ih cs' bs' (a.add 1) (acc.push n.toNat.toUInt8) hbs h2 (fun j v hj => by
            have := hc (j + 1) v (by simpa using hj)
            have e : (a.add 1).add j = a.add (j + 1) := by
              rcases Nat.eq_zero_or_pos j with rfl | hj
              · simp [Addr.add]
              · have hj : j ≠ 0 := by omega
                simp [Addr.add, hj]; omega
            rw [e]; exact this)
          simp only [List.length_cons, Extern.Bytes.loadBytes, Sem.run_bind, run_load, hc0]
          show (Extern.Bytes.loadBytes (a.add 1) _ (acc.push n.toNat.toUInt8)).run P w = _
          rw [hx]; simp [ByteArray.push]
        · cases hb
      · cases hb

theorem bytesV_run {v v' : Value} {bs : List UInt8} (h : bytesV σ v = some bs) (hr : Rep ι σ w) (hv : VR ι v v') : (Extern.Bytes.bytesOf v').run P w = .ok ⟨⟨bs⟩⟩ w := by
  unfold bytesV at h
  split at h
  · have := hv.string_inv; subst this
    simp at h; subst h
    simp [Extern.Bytes.bytesOf]
  · have := hv.slice_none; subst this
    simp at h; subst h
    simp [Extern.Bytes.bytesOf]; rfl
  · obtain ⟨L, c', A, hl, hlo, hA, _, _, rfl⟩ := hv.slice_inv
    split at h
    · rename_i cs hcs
      rcases hA with rfl | ⟨rfl, _, _⟩
      case inr =>
        obtain ⟨cs', h1, h2, h3⟩ := readRow_sound hcs hr hl hlo
        have hcs : cs = [] := List.eq_nil_of_length_eq_zero h1
        subst hcs
        simp [bytesA] at h; subst h
        simp [Extern.Bytes.bytesOf, Extern.Bytes.loadBytes]; rfl
      obtain ⟨cs', h1, h2, h3⟩ := readRow_sound hcs hr hl hlo
      have := loadBytes_run (P := P) cs cs' bs (L.at _) .empty h h2 h3
      rw [h1] at this
      simp only [Extern.Bytes.bytesOf, this]
      rfl
    · cases h
  · cases h

theorem extR_run {r : FnRef} {args args' : List Value} {v : Value} (h : extR P σ r args = some v) (hr : Rep ι σ w) (ha : VRs ι args args') :
    ∃ g, r = .func g ∧ (callFunc g ⟨args'⟩).run P w = .ok (.value v) w ∧ VR ι v v := by
  unfold extR at h
  split at h
  · rename_i g
    split at h
    · rename_i fn hfn
      split at h
      · cases h
      · rename_i hbody
        split at h
        · rename_i b c
          · obtain ⟨ho, h⟩ := bif_some' h
            split at h
            · rename_i bs hbs
              cases ha with
              | cons hb ha =>
                cases ha with
                | cons hc ha =>
                  cases ha
                  have := hc.int_inv; subst this
                  have hbr := bytesV_run (P := P) hbs hr hb
                  have ho : fn.origin = fn.name ∨ fn.origin = "" := by simpa using ho
                  refine ⟨g, rfl, ?_⟩
                  unfold extV at h
                  rcases bif_cases' h with ⟨hn, h⟩ | ⟨_, h⟩
                  · have hn : fn.name = cntName := by simpa using hn
                    have hne : ¬ cntName = "runtime.NumGoroutine" := by
                      intro e
                      have h2 : (cntName == "runtime.NumGoroutine") = false := by kernel_rfl
                      rw [e] at h2; simp at h2
                    have hf := cnt_find hn
                    have hnx := next_none (.inl hn) ho
                    simp at h; subst h
                    refine ⟨?_, .int _ _⟩
                    have hcn : ∀ b' c', Extern.BytealgCount.count ⟨[b', c']⟩ = (do
                        let b ← Extern.Bytes.bytesOf b'
                        let c ← Extern.Bytes.asByte c'
                        pure (goInt (b.foldl (fun n x => if x == c then n + 1 else n) (0 : Nat)))) := fun _ _ => rfl
                    simp [callFunc, hfn, hn, hne, hbody, hnx, hf, hcn, hbr, Extern.Bytes.asByte]
                  · obtain ⟨hn, h⟩ := bif_some' h
                    have hn : fn.name = idxName := by simpa using hn
                    have hne : ¬ idxName = "runtime.NumGoroutine" := by
                      intro e
                      have h2 : (idxName == "runtime.NumGoroutine") = false := by kernel_rfl
                      rw [e] at h2; simp at h2
                    have hf := idx_find hn
                    have hnx := next_none (.inr hn) ho
                    have hcn : ∀ b' c', Extern.BytealgIndexByte.indexByte ⟨[b', c']⟩ = (do
                        let b ← Extern.Bytes.bytesOf b'
                        let c ← Extern.Bytes.asByte c'
                        match (List.range b.size).find? fun i => b[i]! == c with
                        | some i => pure (goInt i)
                        | none => pure (goInt (-1))) := fun _ _ => rfl
                    split at h
                    · rename_i i hi
                      simp at h; subst h
                      refine ⟨?_, .int _ _⟩
                      simp [callFunc, hfn, hn, hne, hbody, hnx, hf, hcn, hbr, Extern.Bytes.asByte, hi]
                    · rename_i hi
                      simp at h; subst h
                      refine ⟨?_, .int _ _⟩
                      simp [callFunc, hfn, hn, hne, hbody, hnx, hf, hcn, hbr, Extern.Bytes.asByte, hi]
            · cases h
        · cases h
    · cases h
  · cases h
theorem extC_run {f : Operand} {r : FnRef} {args args' : List Value} {v : Value} (h : extC P f σ r args = some v) (hr : Rep ι σ w) (ha : VRs ι args args') :
    ∃ g, r = .func g ∧ (callFunc g ⟨args'⟩).run P w = .ok (.value v) w ∧ VR ι v v := extR_run (bif_some' h).2 hr ha
end
end Go.Lay
