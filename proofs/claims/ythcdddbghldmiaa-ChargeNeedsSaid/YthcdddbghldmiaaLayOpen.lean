/- The opening: plain arguments, to be read alone; a statement that leans on a closed one. -/
import Derived.Test.YthcdddbghldmiaaLayMemo
import Derived.Test.YthcdddbghldmiaaLayLoop
import Derived.ChangeArms
set_option linter.unusedVariables false
set_option linter.unusedSimpArgs false
namespace Go.Lay
open Go

/-! ### Blocks that are read alone -/
def roAdd (ι : Inj) (b c o z : Nat) : Inj := { ι with loc := fun b' s => if b' = b ∧ s = 0 then some ⟨c, 0, o, z⟩ else ι.loc b' s }
structure Ro (ι : Inj) (w : World) : Prop where
  own : ∀ c, ι.own c = none
  csz : ∀ (c : Nat) arr el fr, w.heap[c]? = some (.cells arr el fr) → ι.csz c = arr.size
def roInj (w : World) : Inj := { loc := fun _ _ => none, own := fun _ => none, csz := fun c => match w.heap[c]? with | some (.cells arr _ _) => arr.size | _ => 0 }
theorem ro_start (w : World) : Rep (roInj w) noSt w ∧ Ro (roInj w) w :=
  ⟨⟨fun b y h => by simp [noSt, getB, Tr.getP_leaf] at h, fun _ _ _ h => by simp [roInj] at h, fun _ _ h => by simp [roInj] at h, fun _ _ _ => rfl⟩, ⟨fun _ => rfl, fun c arr el fr h => by simp [roInj, h]⟩⟩

section
variable {P : Program} {w : World} {ι : Inj} {σ σ' : St}

theorem roAdd_sub (hr : Rep ι σ w) (c o z : Nat) : Sub ι (roAdd ι σ.next c o z) := by
  refine ⟨fun b s L h => ?_, fun _ _ _ _ => rfl⟩
  simp only [roAdd]
  rw [if_neg]; exact h
  rintro ⟨rfl, rfl⟩
  rw [hr.fresh _ _ (Nat.le_refl _)] at h; cases h

theorem add_ro (hr : Rep ι σ w) (ho : Ro ι w) {c o : Nat} {arr : Array Value} {el : TypeId} {fr : Nat × Nat} (hc : w.heap[c]? = some (.cells arr el fr)) {rs : List Value} (z : Nat) (hl : o + rs.length ≤ arr.size)
    (hv : ∀ (j : Nat) v, rs[j]? = some v → ∃ v', arr[o + j]? = some v' ∧ VR ι v v') :
    Rep (roAdd ι σ.next c o z) (σ.add (.cells rs z [(0, rs.length)] 1 true)) w ∧ Ro (roAdd ι σ.next c o z) w := by
  have hs := roAdd_sub hr c o z
  have hcw : c < w.heap.size := by
    have := (Array.getElem?_eq_some_iff.1 hc).1; exact this
  refine ⟨⟨fun b y hb => ?_, fun b s L h => ?_, fun c' b h => ?_, fun b s h => ?_⟩, ⟨ho.own, ho.csz⟩⟩
  · rw [St.add_get] at hb
    by_cases hbn : b = σ.next
    · rw [if_pos hbn] at hb; cases hb; subst hbn
      refine ⟨by simp, .cells (fun s e hm => ?_) (by simp) (fun s₁ e₁ s₂ e₂ L₁ L₂ h₁ h₂ l₁ l₂ _ => ?_) (fun s hs' => ?_)⟩
      · simp at hm; obtain ⟨rfl, rfl⟩ := hm
        refine ⟨by omega, Nat.le_refl _, ⟨c, 0, o, z⟩, by simp [roAdd], ⟨arr, el, fr, hc, (ho.csz _ _ _ _ hc).symm, by simp, by simpa using hl, fun j _ h2 => ?_⟩, rfl, Nat.zero_le _, by simpa [roAdd] using ho.own c⟩
        obtain ⟨v', g1, g2⟩ := hv j rs[j] (by simp [h2])
        exact ⟨rs[j], v', by simp [h2], by simpa using g1, g2.sub hs⟩
      · simp at h₁ h₂
        obtain ⟨rfl, _⟩ := h₁
        obtain ⟨rfl, _⟩ := h₂
        rw [l₁] at l₂; cases l₂; rfl
      · simp only [roAdd]
        rw [if_neg (by omega)]; exact hr.fresh _ _ (Nat.le_refl _)
    · rw [if_neg hbn] at hb
      have h := hr.blk b y hb
      refine ⟨by simp; omega, h.2.keepS hs (fun s L _ => rfl) (fun _ _ _ _ => rfl) (fun cs esz log next ro hyy s hs' => ?_)⟩
      have := h.2; subst hyy
      cases this with
      | cells _ _ _ fresh =>
        simp only [roAdd]
        rw [if_neg (fun e => hbn e.1)]; exact fresh s hs'
  · simp only [roAdd] at h
    split at h
    · cases h; exact hcw
    · exact hr.lt _ _ _ h
  · have : ι.own c' = some b := h
    rw [ho.own c'] at this; cases this
  · simp only [roAdd]
    simp at h
    rw [if_neg (by omega)]; exact hr.fresh _ _ (by omega)

/-! ### Plain types, and what lies in a state -/
def contig (P : Program) : List Field → Nat → Nat → Bool
  | [], o, tot => Nat.beq o tot
  | f :: fs, o, tot => Nat.beq f.offset o && contig P fs (o + P.cellsOf f.type) tot
def plainT (P : Program) : Nat → TypeId → Bool
  | 0, _ => false
  | n + 1, t => match P.underlying t with
    | some .bool => true
    | some (.int _) => true
    | some .string => true
    | some (.slice e) => Nat.blt 0 (P.cellsOf e) && plainT P n e
    | some (.struct fs) => contig P fs.toList 0 (P.cellsOf t) && fs.toList.all fun f => plainT P n f.type
    | _ => false
/-- Cells of a type, in a state. -/
def WT (P : Program) (σ : St) : Nat → TypeId → List Value → Prop
  | 0, _, _ => False
  | n + 1, t, cs => match P.underlying t with
    | some .bool => ∃ b, cs = [.bool b]
    | some (.int k) => ∃ i, cs = [.int k i] ∧ k.min ≤ i ∧ i ≤ k.max
    | some .string => ∃ s : ByteArray, cs = [.string s] ∧ s.size ≤ maxLen
    | some (.slice e) => cs = [.slice none 0 0] ∨ ∃ b len cap rs, cs = [.slice (some ⟨b, 0, none⟩) len cap] ∧ len ≤ maxLen ∧ len ≤ capLow cap ∧ rs.length = len * P.cellsOf e ∧
        getB σ.heap b = some (.cells rs (P.cellsOf e) [(0, rs.length)] 1 true) ∧ b < σ.next ∧ ∀ i, i < len → WT P σ n e ((rs.drop (i * P.cellsOf e)).take (P.cellsOf e))
    | some (.struct fs) => cs.length = P.cellsOf t ∧ ∀ f ∈ fs.toList, f.offset + P.cellsOf f.type ≤ cs.length ∧ WT P σ n f.type ((cs.drop f.offset).take (P.cellsOf f.type))
    | _ => False

theorem WT.le : ∀ {n : Nat} {t : TypeId} {cs : List Value}, WT P σ n t cs → Le σ σ' → WT P σ' n t cs := by
  intro n
  induction n with
  | zero => intro t cs h; exact h.elim
  | succ n ih =>
    intro t cs h k
    unfold WT at h ⊢
    split at h <;> rename_i hu
    · exact h
    · exact h
    · exact h
    · rcases h with h | ⟨b, len, cap, rs, h1, h2, h3, h4, h5, h6, h7⟩
      · exact .inl h
      · exact .inr ⟨b, len, cap, rs, h1, h2, h3, h4, by rw [k.get _ h6]; exact h5, Nat.lt_of_lt_of_le h6 k.next, fun i hi => ih (h7 i hi) k⟩
    · exact ⟨h.1, fun f hf => ⟨(h.2 f hf).1, ih (h.2 f hf).2 k⟩⟩
    · exact h.elim

theorem cell_add {a : Addr} {arr : Array Value} {el : TypeId} {fr : Nat × Nat} (hc : w.heap[a.block]? = some (.cells arr el fr)) (hs : a.spot = none) (m i : Nat) : w.cell? ((a.add m).add i) = arr[a.off + m + i]? := by
  have key : ∀ (x : Addr) (j : Nat), x.spot = none → (x.add j).block = x.block ∧ (x.add j).off = x.off + j ∧ (x.add j).spot = none := by
    intro x j hx
    unfold Addr.add
    split
    · rename_i e; subst e; exact ⟨rfl, rfl, hx⟩
    · exact ⟨rfl, rfl, rfl⟩
  obtain ⟨k1, k2, k3⟩ := key a m hs
  obtain ⟨k4, k5, k6⟩ := key (a.add m) i k3
  simp only [World.cell?, k4, k1, hc, k6, k5, k2, Option.isSome_none]
  rfl

variable {H : Type} {enc : TypeId × Value → H} {held : Bool}

/-- What is asked at the start, and what there is at the end. -/
def HasRow (w : World) (cs' : List Value) : Prop := ∀ A len cap, Value.slice (some A) len cap ∈ cs' → ∃ (c : Nat) (arr : Array Value) (el : TypeId) (fr : Nat × Nat), w.heap[c]? = some (.cells arr el fr)
def Opens (P : Program) (w : World) (ι : Inj) (σ : St) (cs' : List Value) (Q : St → List Value → Prop) : Prop :=
  ∃ ι' σ' cs, Rep ι' σ' w ∧ Ro ι' w ∧ Sub ι ι' ∧ Le σ σ' ∧ VRs ι' cs cs' ∧ Q σ' cs

theorem contig_le : ∀ {fs : List Field} {o tot : Nat}, contig P fs o tot = true → o ≤ tot
  | [], o, tot, h => by have := Nat.eq_of_beq_eq_true h; omega
  | f :: fs, o, tot, h => by
    simp only [contig, Bool.and_eq_true] at h
    have := contig_le h.2; omega

theorem open_fields {n fuel : Nat}
    (ih : ∀ t, plainT P n t = true → ∀ fuel cs' x ι σ, DataW.trod enc P w 0 (fun _ => true) held fuel t cs' = some x → Rep ι σ w → Ro ι w → HasRow w cs' → Opens P w ι σ cs' fun σ' cs => WT P σ' n t cs) {cs' : List Value} (hrow : HasRow w cs') :
    ∀ (fs : List Field) (o : Nat) (ι : Inj) (σ : St), contig P fs o cs'.length = true → (∀ f ∈ fs, plainT P n f.type = true) → (∀ f ∈ fs, ∃ x, DataW.trod enc P w 0 (fun _ => true) held fuel f.type ((cs'.drop f.offset).take (P.cellsOf f.type)) = some x) →
      Rep ι σ w → Ro ι w → Opens P w ι σ (cs'.drop o) fun σ' cs => ∀ f ∈ fs, o ≤ f.offset ∧ f.offset + P.cellsOf f.type ≤ cs'.length ∧ WT P σ' n f.type ((cs.drop (f.offset - o)).take (P.cellsOf f.type)) := by
  intro fs
  induction fs with
  | nil =>
    intro o ι σ hc _ _ hr ho
    have := Nat.eq_of_beq_eq_true hc
    refine ⟨ι, σ, [], hr, ho, Sub.refl _, Le.refl _, ?_, fun f hf => by cases hf⟩
    rw [List.drop_of_length_le (by omega)]; exact .nil
  | cons f fs ihf =>
    intro o ι σ hc hp ht hr ho
    simp only [contig, Bool.and_eq_true] at hc
    have hoff := Nat.eq_of_beq_eq_true hc.1
    have hle := contig_le hc.2
    obtain ⟨x, hx⟩ := ht f (by simp)
    obtain ⟨ι₁, σ₁, c1, r1, o1, s1, l1, v1, w1⟩ := ih f.type (hp f (by simp)) _ _ _ ι σ hx hr ho (fun A len cap hm => hrow A len cap (List.mem_of_mem_drop (List.mem_of_mem_take hm)))
    obtain ⟨ι₂, σ₂, c2, r2, o2, s2, l2, v2, w2⟩ := ihf (o + P.cellsOf f.type) ι₁ σ₁ hc.2 (fun g hg => hp g (by simp [hg])) (fun g hg => ht g (by simp [hg])) r1 o1
    have hlen : c1.length = P.cellsOf f.type := by rw [v1.length]; simp; omega
    refine ⟨ι₂, σ₂, c1 ++ c2, r2, o2, s1.trans s2, l1.trans l2, ?_, fun g hg => ?_⟩
    · have e : cs'.drop o = (cs'.drop f.offset).take (P.cellsOf f.type) ++ cs'.drop (o + P.cellsOf f.type) := by
        rw [hoff, ← List.drop_drop, List.take_append_drop]
      rw [e]
      exact VRs.append (v1.sub s2) v2
    · rcases List.mem_cons.1 hg with rfl | hg
      · refine ⟨by omega, by omega, ?_⟩
        rw [hoff, Nat.sub_self, List.drop_zero, ← hlen, List.take_left']
        · exact w1.le l2
        · rfl
      · obtain ⟨g1, g2, g3⟩ := w2 g hg
        refine ⟨by omega, g2, ?_⟩
        have e : (c1 ++ c2).drop (g.offset - o) = c2.drop (g.offset - (o + P.cellsOf f.type)) := by
          rw [List.drop_append, List.drop_of_length_le (by omega), List.nil_append]
          congr 1; omega
        rw [e]; exact g3

theorem open_elems {n fuel : Nat} {e : TypeId} {a : Addr} {arr : Array Value} {el : TypeId} {fr : Nat × Nat} (hc : w.heap[a.block]? = some (.cells arr el fr)) (hs : a.spot = none)
    (ih : ∀ fuel cs' x ι σ, DataW.trod enc P w 0 (fun _ => true) held fuel e cs' = some x → Rep ι σ w → Ro ι w → HasRow w cs' → Opens P w ι σ cs' fun σ' cs => WT P σ' n e cs) (hr : Rep ι σ w) (ho : Ro ι w) :
    ∀ (k : Nat), (∀ i, i < k → ∃ x, (w.cells? 0 (a.add (i * P.cellsOf e)) (P.cellsOf e)).bind (DataW.trod enc P w 0 (fun _ => true) held fuel e) = some x) →
      ∃ (ι' : Inj) (σ' : St) (rs : List Value), Rep ι' σ' w ∧ Ro ι' w ∧ Sub ι ι' ∧ Le σ σ' ∧ rs.length = k * P.cellsOf e ∧ (∀ i, i < k → WT P σ' n e ((rs.drop (i * P.cellsOf e)).take (P.cellsOf e))) ∧
        ∀ (j : Nat) v, rs[j]? = some v → ∃ v', arr[a.off + j]? = some v' ∧ VR ι' v v'
  | 0, _ => ⟨ι, σ, [], hr, ho, Sub.refl _, Le.refl _, by simp, fun i hi => by omega, fun j v h => by simp at h⟩
  | k + 1, ht => by
    obtain ⟨ι₁, σ₁, rs, r1, o1, s1, l1, n1, w1, v1⟩ := open_elems hc hs ih hr ho k (fun i hi => ht i (by omega))
    obtain ⟨x, hx⟩ := ht k (by omega)
    simp only [Option.bind_eq_some_iff] at hx
    obtain ⟨chunk, hch, hx⟩ := hx
    obtain ⟨_, hlen, hcells⟩ := World.cells?_some hch
    obtain ⟨ι₂, σ₂, c, r2, o2, s2, l2, v2, w2⟩ := ih _ _ _ ι₁ σ₁ hx r1 o1 (fun _ _ _ _ => ⟨_, _, _, _, hc⟩)
    have hcl : c.length = P.cellsOf e := by rw [v2.length]; exact hlen
    refine ⟨ι₂, σ₂, rs ++ c, r2, o2, s1.trans s2, l1.trans l2, by rw [List.length_append, n1, hcl, Nat.add_mul]; omega, fun i hi => ?_, fun j v hj => ?_⟩
    · by_cases hik : i < k
      · have h1 : i * P.cellsOf e + P.cellsOf e ≤ rs.length := by
          rw [n1, show i * P.cellsOf e + P.cellsOf e = (i + 1) * P.cellsOf e by rw [Nat.add_mul, Nat.one_mul]]
          exact Nat.mul_le_mul_right _ hik
        have e1 : ((rs ++ c).drop (i * P.cellsOf e)).take (P.cellsOf e) = (rs.drop (i * P.cellsOf e)).take (P.cellsOf e) := by
          rw [List.drop_append_of_le_length (by omega), List.take_append_of_le_length (by simp; omega)]
        rw [e1]; exact (w1 i hik).le l2
      · have : i = k := by omega
        subst this
        rw [← n1, List.drop_left' rfl, List.take_of_length_le (by omega)]; exact w2
    · by_cases hjr : j < rs.length
      · rw [List.getElem?_append_left hjr] at hj
        obtain ⟨v', g1, g2⟩ := v1 j v hj
        exact ⟨v', g1, g2.sub s2⟩
      · rw [List.getElem?_append_right (by omega)] at hj
        obtain ⟨v', g1, g2⟩ := v2.get_some hj
        have hjc : j - rs.length < P.cellsOf e := by rw [← hcl]; exact (List.getElem?_eq_some_iff.1 hj).1
        refine ⟨v', ?_, g2⟩
        have := hcells (j - rs.length) hjc
        rw [cell_add hc hs, g1] at this
        rw [← this, ← n1]; congr 1; omega

theorem open_cells : ∀ (n : Nat) (t : TypeId), plainT P n t = true → ∀ (fuel : Nat) (cs' : List Value) (x : DataW H × List MemPlace) (ι : Inj) (σ : St), DataW.trod enc P w 0 (fun _ => true) held fuel t cs' = some x → Rep ι σ w → Ro ι w → HasRow w cs' →
    Opens P w ι σ cs' fun σ' cs => WT P σ' n t cs := by
  intro n
  induction n with
  | zero => intro t h; simp [plainT] at h
  | succ n ih =>
    intro t hp fuel cs' x ι σ h hr ho hrow
    have one : ∀ (v : Value), rigidB RD v = true → cs' = [v] → WT P σ (n + 1) t [v] → Opens P w ι σ cs' fun σ' cs => WT P σ' (n + 1) t cs :=
      fun v hv e hw => ⟨ι, σ, [v], hr, ho, Sub.refl _, Le.refl _, by rw [e]; exact .cons (.refl_rigid _ hv) .nil, hw⟩
    unfold plainT at hp
    split at hp <;> rename_i hu
    · obtain ⟨b, e, _⟩ := DataW.trod_bool hu h
      exact one _ rfl e (by unfold WT; rw [hu]; exact ⟨b, rfl⟩)
    · obtain ⟨i, e, _, hw⟩ := DataW.trod_int hu h
      exact one _ rfl e (by unfold WT; rw [hu]; exact ⟨i, rfl, by simpa [Lit.wf] using hw⟩)
    · obtain ⟨s, e, _, hw⟩ := DataW.trod_string hu h
      exact one _ rfl e (by unfold WT; rw [hu]; exact ⟨s, rfl, hw⟩)
    · rename_i e
      simp only [Bool.and_eq_true] at hp
      have hpos : 0 < P.cellsOf e := (blt_iff _ _).1 hp.1
      rcases DataW.trod_slice hu h with ⟨hcs, _⟩ | ⟨a, len, cap, elems, rest, m, rfl, hcs, _, _, hle, hmax, hel, hget, hrest, _⟩
      · exact one _ rfl hcs (by unfold WT; rw [hu]; exact .inl rfl)
      · -- the capacity
        obtain ⟨capA, hcapR, hcl, hc0⟩ : ∃ capA, capR capA cap ∧ len ≤ capLow capA ∧ (cap = 0 → capA = 0) := by
          by_cases hx : capExact cap = true
          · exact ⟨cap, by unfold capR; rw [if_pos hx], by have := (capExact_iff cap).1 hx; unfold capLow; rw [if_neg (by omega)]; exact hle, fun e => e⟩
          · exact ⟨len + INEX, capInex hle, by rw [capLow_inex]; exact Nat.le_refl _, fun e => absurd ((capExact_iff cap).2 (by rw [e]; exact inex_pos)) hx⟩
        have fin : ∀ {ι₁ : Inj} {σ₁ : St} {rs : List Value} {c o : Nat} {arr : Array Value} {el : TypeId} {fr : Nat × Nat}, Rep ι₁ σ₁ w → Ro ι₁ w → Sub ι ι₁ → Le σ σ₁ → w.heap[c]? = some (.cells arr el fr) → rs.length = len * P.cellsOf e →
            (∀ i, i < len → WT P σ₁ n e ((rs.drop (i * P.cellsOf e)).take (P.cellsOf e))) → (∀ (j : Nat) v, rs[j]? = some v → ∃ v', arr[o + j]? = some v' ∧ VR ι₁ v v') → o + cap * P.cellsOf e ≤ arr.size →
            (a = ⟨c, o, none⟩ ∨ (len = 0 ∧ capA = 0 ∧ cap = 0)) → Opens P w ι σ cs' fun σ' cs => WT P σ' (n + 1) t cs := by
          intro ι₁ σ₁ rs c o arr el fr hr1 ho1 hs1 hl1 hc hlen hw hv hsz hA
          have hlo : len * P.cellsOf e ≤ cap * P.cellsOf e := Nat.mul_le_mul_right _ hle
          obtain ⟨g1, g2⟩ := add_ro hr1 ho1 hc (P.cellsOf e) (by omega) hv
          have hsub := roAdd_sub hr1 c o (P.cellsOf e)
          refine ⟨_, _, [.slice (some ⟨σ₁.next, 0, none⟩) len capA], g1, g2, hs1.trans hsub, hl1.trans (Le.add _ _), ?_, ?_⟩
          · rw [hcs]
            refine .cons (.slice (L := ⟨c, 0, o, P.cellsOf e⟩) (by simp [roAdd, stampOf]) (Nat.zero_le _) ?_ hcapR ?_) .nil
            · rcases hA with rfl | hA
              · exact .inl (by simp [Loc.at])
              · exact .inr hA
            · show o + (0 - 0) + cap * P.cellsOf e ≤ ι₁.csz c
              rw [ho1.csz _ _ _ _ hc]; omega
          · unfold WT; rw [hu]
            refine .inr ⟨σ₁.next, len, capA, rs, rfl, by omega, hcl, hlen, by rw [St.add_get, if_pos rfl], by simp, fun i hi => (hw i hi).le (Le.add _ _)⟩
        by_cases hcap : cap = 0
        · -- nothing in it
          subst hcap
          have hl0 : len = 0 := by omega
          have hca : capA = 0 := hc0 rfl
          obtain ⟨c, arr, el, fr, hc⟩ := hrow a len 0 (by rw [hcs]; simp)
          exact fin (rs := []) (o := 0) hr ho (Sub.refl _) (Le.refl _) hc (by rw [hl0]; simp) (fun i hi => by omega) (fun j v hj => by simp at hj) (by omega) (.inr ⟨hl0, hca, rfl⟩)
        · -- something
          have hall : ∀ i, i < cap → ∃ x, (w.cells? 0 (a.add (i * P.cellsOf e)) (P.cellsOf e)).bind (DataW.trod enc P w 0 (fun _ => true) held m e) = some x := by
            intro i hi
            by_cases hil : i < len
            · exact ⟨elems[i]'(by omega), by rw [hget i hil]; simp⟩
            · obtain ⟨r1, r2⟩ := hrest rfl
              have := r2 (i - len) (by omega)
              rw [show len + (i - len) = i by omega] at this
              exact ⟨rest[i - len]'(by omega), by rw [this]; simp⟩
          obtain ⟨x0, hx0⟩ := hall 0 (by omega)
          simp only [Option.bind_eq_some_iff] at hx0
          obtain ⟨ch0, hc0, _⟩ := hx0
          obtain ⟨_, hl0, hcell0⟩ := World.cells?_some hc0
          have h00 := hcell0 0 hpos
          have ha0 : (a.add (0 * P.cellsOf e)).add 0 = a := by simp [Addr.add]
          rw [ha0] at h00
          have hsome : ∃ v, w.cell? a = some v := ⟨ch0[0]'(by omega), by rw [h00]; simp⟩
          obtain ⟨v0, hv0⟩ := hsome
          obtain ⟨arr, el, fr, hc, hsp⟩ : ∃ arr el fr, w.heap[a.block]? = some (.cells arr el fr) ∧ a.spot = none := by
            unfold World.cell? at hv0
            split at hv0
            · rename_i arr el fr hc
              refine ⟨arr, el, fr, hc, ?_⟩
              cases hs : a.spot with
              | none => rfl
              | some s => rw [hs] at hv0; simp at hv0
            · cases hv0
          obtain ⟨ι₁, σ₁, rs, r1, o1, s1, l1, n1, w1, v1⟩ := open_elems hc hsp (fun fuel cs' x ι σ => ih e hp.2 fuel cs' x ι σ) hr ho len (fun i hi => hall i (by omega))
          refine fin r1 o1 s1 l1 hc n1 w1 v1 ?_ (.inl ?_)
          · obtain ⟨x1, hx1⟩ := hall (cap - 1) (by omega)
            simp only [Option.bind_eq_some_iff] at hx1
            obtain ⟨ch1, hc1, _⟩ := hx1
            obtain ⟨_, hl1, hcell1⟩ := World.cells?_some hc1
            have h1 := hcell1 (P.cellsOf e - 1) (by omega)
            rw [cell_add hc hsp] at h1
            have hb : a.off + (cap - 1) * P.cellsOf e + (P.cellsOf e - 1) < arr.size := by
              rcases Nat.lt_or_ge (a.off + (cap - 1) * P.cellsOf e + (P.cellsOf e - 1)) arr.size with hlt | hge
              · exact hlt
              · rw [Array.getElem?_eq_none hge] at h1
                have : ch1[P.cellsOf e - 1]? = some (ch1[P.cellsOf e - 1]'(by omega)) := by simp
                rw [this] at h1; cases h1
            have e1 : (cap - 1) * P.cellsOf e + P.cellsOf e = cap * P.cellsOf e := by
              rw [show cap * P.cellsOf e = (cap - 1 + 1) * P.cellsOf e by rw [Nat.sub_add_cancel (by omega)], Nat.add_mul, Nat.one_mul]
            omega
          · cases a with | mk b o s => simp at hsp; subst hsp; rfl
    · rename_i fs
      simp only [Bool.and_eq_true] at hp
      obtain ⟨xs, m, rfl, _, hl, hxl, hget⟩ := DataW.trod_struct hu h
      obtain ⟨ι₁, σ₁, c, r1, o1, s1, l1, v1, w1⟩ := open_fields (fuel := m) ih hrow fs.toList 0 ι σ (by rw [hl]; exact hp.1) (fun f hf => List.all_eq_true.1 hp.2 f hf) (fun f hf => by
        obtain ⟨i, hi⟩ := List.getElem?_of_mem hf
        have hi2 : fs[i]? = some f := by simpa using hi
        have hlt : i < xs.length := by rw [hxl]; exact (Array.getElem?_eq_some_iff.1 hi2).1
        exact ⟨xs[i], by rw [hget i f hi2]; simp [hlt]⟩) hr ho
      refine ⟨ι₁, σ₁, c, r1, o1, s1, l1, by simpa using v1, ?_⟩
      unfold WT; rw [hu]
      have hcl : c.length = cs'.length := by have := v1.length; simpa using this
      refine ⟨by rw [hcl, hl], fun f hf => ?_⟩
      obtain ⟨_, g2, g3⟩ := w1 f hf
      exact ⟨by omega, by simpa using g3⟩
    · cases hp
end
end Go.Lay
