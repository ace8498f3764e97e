/- Regions that draw their order: the region. Regions that do not. -/
import Derived.Test.YthcdddbghldmiaaLayDraw4
set_option linter.unusedVariables false
set_option linter.unusedSimpArgs false
namespace Go.Lay
open Go

theorem filter_lt : ∀ (l : List Nat) (p p' : Nat → Bool), (∀ x ∈ l, p' x = true → p x = true) → (∃ x, x ∈ l ∧ p x = true ∧ p' x = false) → (l.filter p').length < (l.filter p).length
  | [], _, _, _, h => by obtain ⟨x, h, _⟩ := h; cases h
  | y :: l, p, p', h1, h2 => by
    have le : ∀ (l : List Nat), (∀ x ∈ l, p' x = true → p x = true) → (l.filter p').length ≤ (l.filter p).length := by
      intro l
      induction l with
      | nil => intro _; simp
      | cons z l ih =>
        intro h
        have := ih (fun x hx => h x (by simp [hx]))
        have hz := h z (by simp)
        simp only [List.filter_cons]
        cases hp' : p' z with
        | true => rw [hz hp', if_pos rfl, if_pos rfl]; simp; omega
        | false => rw [if_neg (by simp)]; split <;> simp <;> omega
    have hl := le l (fun x hx => h1 x (by simp [hx]))
    obtain ⟨x, hx, a, b⟩ := h2
    simp only [List.filter_cons]
    rcases List.mem_cons.1 hx with rfl | hx
    · rw [a, b, if_neg (by simp), if_pos rfl]; simp; omega
    · have := filter_lt l p p' (fun x hx => h1 x (by simp [hx])) ⟨x, hx, a, b⟩
      have hy := h1 y (by simp)
      cases hp' : p' y with
      | true => rw [hy hp', if_pos rfl, if_pos rfl]; simp; omega
      | false => rw [if_neg (by simp)]; split <;> simp <;> omega

theorem free_out {ops : Array Oper} {B : Array Nat} {j : Nat} (h : ops.size ≤ j) : freeB ops B j = false := by
  have h1 : ops.getD j default = default := by simp [Array.getD, Nat.not_lt.2 h]
  unfold freeB
  rw [h1]; rfl

theorem belowAll_spec : ∀ (os : List Oper) (ss : List Seen), belowAll os ss = true → ∀ (i : Nat) (o : Oper) (s : Seen), os[i]? = some o → ss[i]? = some s → s.want = true → (actsB o.op || looksB o.op) = true → below s.before.next s.f o = true
  | [], _, _, i, o, s, h, _, _, _ => by simp at h
  | _ :: _, [], _, i, o, s, _, h, _, _ => by simp at h
  | o0 :: os, s0 :: ss, h, i, o, s, ho, hs, hw, hal => by
    simp only [belowAll, Bool.and_eq_true] at h
    cases i with
    | zero =>
      simp at ho hs; subst ho; subst hs
      have := h.1
      rw [hw, hal] at this
      simpa using this
    | succ i => exact belowAll_spec os ss h.2 i o s (by simpa using ho) (by simpa using hs) hw hal

theorem mem_pairs {ops : Array Oper} {B : Array Nat} {i k : Nat} {oi ok : Oper} (hi : ops[i]? = some oi) (hk : ops[k]? = some ok) (hne : i ≠ k) (hl : looksB oi.op = true) (ha : actsB ok.op = true) (h1 : pre B i k = false) (h2 : pre B k i = false) :
    (i, k) ∈ pairsA ops B := by
  unfold pairsA
  refine List.mem_flatMap.2 ⟨i, List.mem_range.2 (getD_of hi).2, ?_⟩
  rw [(getD_of hi).1, if_pos hl]
  refine List.mem_map.2 ⟨k, List.mem_filter.2 ⟨List.mem_range.2 (getD_of hk).2, ?_⟩, rfl⟩
  have hb : Nat.beq i k = false := by rw [Bool.eq_false_iff]; intro e; exact hne (Nat.eq_of_beq_eq_true e)
  rw [(getD_of hk).1, ha, apartB, h1, h2, hb]; rfl

section
variable {P : Program} {rec : Rec} {ops : Array Oper} {ι : Inj} {σ : St} {w : World}

theorem drawA_spec {f t : Tm} {τ : St} (h : drawA P rec ops f σ = some (t, τ)) : DrawOk ops ∧ ∃ l, seenA P rec ops ops.toList f σ = some (l, t, τ) ∧ Ask P ops l t τ := by
  unfold drawA at h
  obtain ⟨hd, h⟩ := bif_some h
  refine ⟨drawOk_spec hd, ?_⟩
  split at h
  · rename_i hp hf
    obtain ⟨l, hl⟩ := opsA_seen _ _ _ _ _ h
    refine ⟨l, hl, fun i o s _ _ _ _ => .inl (fun j => ?_), fun i k oi ok si hi hk hne _ _ hlk hak h1 h2 => ?_⟩
    · rcases Nat.lt_or_ge j ops.size with hj | hj
      · have := List.any_eq_false.1 hf j (List.mem_range.2 hj)
        simpa using this
      · exact free_out hj
    · have := mem_pairs hi hk hne hlk hak h1 h2
      rw [hp] at this; cases this
  · rename_i ps _ _
    split at h
    · rename_i l t' τ' hl
      obtain ⟨hc, h⟩ := bif_some h
      simp at h; obtain ⟨rfl, rfl⟩ := h
      simp only [Bool.and_eq_true] at hc
      obtain ⟨_, _, S⟩ := seenA_spec _ _ _ _ _ _ hl
      refine ⟨l, hl, fun i o s ho hs hw hal => .inr ?_, fun i k oi ok si hi hk hne hsi hw hlk hak h1 h2 => ?_⟩
      · have := belowAll_spec _ _ hc.1 i o s (by simpa using ho) hs hw hal
        obtain ⟨s', hs', e1, e2, _⟩ := S.at ho
        rw [hs] at hs'; cases hs'
        rw [← e1, ← e2]; exact this
      · have hm := mem_pairs hi hk hne hlk hak h1 h2
        have := List.all_eq_true.1 hc.2 _ hm
        obtain ⟨sk, hsk, _, k2, k3, _⟩ := S.at hk
        obtain ⟨si', hsi', i1, _⟩ := S.at hi
        rw [hsi] at hsi'; cases hsi'
        simp only [pairOk, hi, hsi, hsk, Bool.and_eq_true] at this
        rw [k2, k3] at this
        have one : ∀ σ, steady P oi si σ = true → seeOp P (aeval (frL l t' i)) σ oi.op = some si.v ∧ below σ.next (frL l t' i) oi = true := by
          intro σ hs
          unfold steady at hs
          rw [hw, cond_true, Bool.and_eq_true] at hs
          obtain ⟨hs1, hs2⟩ := hs
          rw [i1] at hs1 hs2
          refine ⟨?_, hs1⟩
          split at hs2
          · rename_i v hv
            have := veq_eq _ _ _ hs2
            subst this
            exact hv
          · cases hs2
        exact ⟨one _ this.1, one _ this.2⟩
    · cases h

theorem region_draw (hm : P.follows .mixedOrders = true) (hz : zeroOk P) (hrec : RecSound P rec) {f t : Tm} {τ : St} {id : Nat} {rd : Option Nat} {n : Nat} {Q : Exit → Act → World → Prop} {a : Act} (hok : ops.toList.all operOk = true)
    (h : drawA P rec ops f σ = some (t, τ)) (hr : Rep ι σ w) (hf : TmR ι f a.tmps)
    (hQ : ∀ ι' a' w', Good ι σ w ι' τ w' → TmR ι' t a'.tmps → a'.defers = a.defers → Q .normal a' w') : (Code.region id ops true).wpIn (Fw rd) n P Q a w := by
  obtain ⟨D, l, hl, A⟩ := drawA_spec h
  obtain ⟨e1, e2, S⟩ := seenA_spec _ _ _ _ _ _ hl
  refine wpIn_region_any hm ?_
  have hoks : ∀ (j : Nat) (o : Oper), ops[j]? = some o → operOk o = true := fun j o ho => List.all_eq_true.1 hok o (by
    have : ops.toList[j]? = some o := by simpa using ho
    exact List.mem_of_getElem? this)
  have hS := S
  -- the end
  have fin : ∀ (X : Nat → Prop) (a' : Act) (w' : World), (∀ j, X j → j < ops.size) → (∀ j, j < ops.size → X j) → (∃ q ι' pend, Inv ops l t τ ι w a.defers X a' w' q ι' pend) → Q .normal a' w' := by
    intro X a' w' hX hall ⟨q, ι', pend, I⟩
    obtain ⟨ι₁, I₁⟩ := I.advanceTo S hX I.hq (Nat.le_refl _) (fun j o hj _ _ => hall j (getD_of hj).2)
    have hlen : l.length = ops.size := by rw [S.len]; simp
    have hend : stL l τ ops.size = τ := by simp [stL, hlen]
    have hfend : frL l t ops.size = t := by simp [frL, hlen]
    have hg := I₁.good
    rw [e2, hend] at hg
    have hsub : Sub (ι₁.plus pend) ι₁ := by
      refine ⟨fun b s L hL => ?_, fun _ _ _ _ => rfl⟩
      by_cases h0 : s = 0
      · subst h0
        cases hp : pend b with
        | none => rw [plus_none _ hp] at hL; exact hL
        | some L1 =>
          rw [plus_zero hp] at hL; cases hL
          rcases I₁.keys b L hp with ⟨_, x⟩ | ⟨j, _, _, x1, x2, _⟩
          · exact x
          · have := hX j x2; omega
      · rw [plus_succ h0] at hL; exact hL
    refine hQ ι₁ a' w' hg ⟨?_, fun t0 => ?_⟩ I₁.ds
    · have := S.frn ops.size (Nat.le_refl _)
      rw [hfend] at this
      rw [this]; exact I₁.fr.size
    · have := I₁.fr.match S (Nat.le_refl _) (t0 := t0) (fun i _ => ⟨fun h => hX i h, fun h => hall i h⟩)
      rw [hfend] at this
      exact this.sub hsub
  have key : ∀ (fuel : Nat) (listed : Array Bool) (a' : Act) (w' : World), listed.size = ops.size → Closed ops (fun j => listed.getD j false = true) → ((List.range ops.size).filter fun j => !listed.getD j false).length ≤ fuel →
      (∃ q ι' pend, Inv ops l t τ ι w a.defers (fun j => listed.getD j false = true) a' w' q ι' pend) → wpAnyIn (Fw rd) n P .any ops Q fuel listed a' w' := by
    intro fuel
    induction fuel with
    | zero =>
      intro listed a' w' hsz hC hcnt hI
      have hall : ∀ j, j < ops.size → listed.getD j false = true := by
        intro j hj
        cases hlj : listed.getD j false with
        | true => rfl
        | false =>
          have : j ∈ (List.range ops.size).filter fun j => !listed.getD j false := List.mem_filter.2 ⟨List.mem_range.2 hj, by rw [hlj]; rfl⟩
          have h0 := List.eq_nil_of_length_eq_zero (Nat.le_zero.1 hcnt)
          rw [h0] at this; cases this
      refine ⟨?_, fin _ a' w' (fun j hj => ?_) hall hI⟩
      · refine List.eq_nil_iff_forall_not_mem.2 (fun j hj => ?_)
        obtain ⟨h0, o, ho, _⟩ := mem_ready.1 hj
        have hlt := (getD_of ho).2
        have := hall j hlt
        simp [Array.getD, hsz, hlt] at this h0
        rw [this] at h0; cases h0
      · rcases Nat.lt_or_ge j ops.size with hlt | hge
        · exact hlt
        · simp [Array.getD, hsz, Nat.not_lt.2 hge] at hj
    | succ fuel ih =>
      intro listed a' w' hsz hC hcnt hI
      have hX : ∀ j, listed.getD j false = true → j < ops.size := fun j hj => by
        rcases Nat.lt_or_ge j ops.size with hlt | hge
        · exact hlt
        · simp [Array.getD, hsz, Nat.not_lt.2 hge] at hj
      refine ⟨fun hnil => fin _ a' w' hX (fun j => ?_) hI, fun i hi => ?_⟩
      · induction j using Nat.strongRecOn with
        | _ j ihj =>
          intro hj
          cases hlj : listed.getD j false with
          | true => rfl
          | false =>
            have ho : ops[j]? = some ops[j] := by simp [hj]
            have : j ∈ Region.ready .any ops listed := by
              refine mem_ready.2 ⟨by simpa [Array.getD, hsz, hj] using hlj, _, ho, fun e he hb => ?_⟩
              have hlt := D.back j _ ho e (by simpa using he) hb
              exact ihj e.on hlt (by omega)
            rw [hnil] at this; cases this
      · obtain ⟨h0, o, ho, hdep⟩ := mem_ready.1 hi
        have hlt := (getD_of ho).2
        have hn : listed.getD i false = false := by simpa [Array.getD, hsz, hlt] using h0
        have hset : ∀ j, ((listed.setIfInBounds i true).getD j false = true) ↔ (listed.getD j false = true ∨ j = i) := by
          intro j
          by_cases hji : j = i
          · subst hji; simp [Array.getD, hsz, hlt]
          · have := getD_set_ne (listed := listed) false (Ne.symm hji)
            rw [this]; simp [hji]
        obtain ⟨q, ι', pend, I⟩ := hI
        have R : Rdy ops (fun j => listed.getD j false = true) i o := ⟨ho, by rw [hn]; simp, fun e he hb => hdep e (by simpa using he) hb⟩
        refine wpOpIn_mono (fun a₂ w₂ hI₂ => ih _ a₂ w₂ (by simpa using hsz) ?_ ?_ ?_) (I.step hz hrec D hS A hC hX hoks R)
        · intro j o' hj ho' e he hb
          rw [hset] at hj ⊢
          rcases hj with hj | rfl
          · exact .inl (hC j o' hj ho' e he hb)
          · rw [ho] at ho'; cases ho'; exact .inl (hdep e (by simpa using he) hb)
        · have := filter_lt (List.range ops.size) (fun j => !listed.getD j false) (fun j => !(listed.setIfInBounds i true).getD j false) (fun x _ hx => ?_) ⟨i, List.mem_range.2 hlt, by rw [hn]; rfl, ?_⟩
          · omega
          · cases hlx : listed.getD x false with
            | false => rfl
            | true => rw [(hset x).2 (.inl hlx)] at hx; cases hx
          · rw [(hset i).2 (.inr rfl)]; rfl
        · obtain ⟨q', ι₂, pend₂, I₂⟩ := hI₂
          refine ⟨q', ι₂, pend₂, ?_⟩
          have : (fun j => (listed.setIfInBounds i true).getD j false = true) = (fun j => listed.getD j false = true ∨ j = i) := funext fun j => propext (hset j)
          rw [this]; exact I₂
  have hno : ∀ j, ¬ (Array.replicate ops.size false).getD j false = true := fun j => by
    by_cases hj : j < ops.size <;> simp [Array.getD, hj]
  refine key ops.size _ a (drew w) (by simp) (fun j o hj => absurd hj (hno j)) ?_ ⟨0, ι, fun _ => none, ?_⟩
  · exact Nat.le_trans (List.length_filter_le _ _) (by simp)
  · have hpl : Sub ι (ι.plus fun _ => none) := ⟨fun b s L hL => by rw [plus_none _ rfl]; exact hL, fun _ _ _ _ => rfl⟩
    refine ⟨Nat.zero_le _, fun j o _ _ h => absurd h (Nat.not_lt_zero _), fun j o _ _ _ hx => absurd hx (hno j), by rw [e2]; exact Good.drew hr, fun b L h => by simp at h, fun j o s _ hx => absurd hx (hno j), fun b b' L L' h => by simp at h, ?_, rfl, fun _ _ => rfl⟩
    rw [e1]
    refine ⟨hf.1, fun t0 _ => .inr ⟨fun i hi => absurd hi (hno i), (hf.2 t0).sub hpl⟩, fun t0 h0 => ?_⟩
    have := (hf.2 t0).sub hpl
    have hlt : ¬ t0 < a.tmps.size := by rw [← hf.1]; exact h0
    simpa [Array.getD, hlt] using this

/-! ### Regions in the order of the text -/
theorem opsA_wp (hz : zeroOk P) (hrec : RecSound P rec) {ι0 : Inj} {σ0 : St} {w0 : World} {rd : Option Nat} {n : Nat} {Q : Exit → Act → World → Prop} {ds : List Deferred} :
    ∀ (rest : List Oper) (k : Nat) {f t : Tm} {σ τ : St} {ι : Inj} {w : World} {a : Act}, opsA P rec ops rest f σ = some (t, τ) → (∀ i, i < rest.length → ops[k + i]? = rest[i]?) → k + rest.length = ops.size → rest.all operOk = true →
    Good ι0 σ0 w0 ι σ w → TmR ι f a.tmps → a.defers = ds → (∀ ι' a' w', Good ι0 σ0 w0 ι' τ w' → TmR ι' t a'.tmps → a'.defers = ds → Q .normal a' w') → wpOpsIn (Fw rd) n P ops Q ((List.range rest.length).map (k + ·)) a w
  | [], k, f, t, σ, τ, ι, w, a, h, _, _, _, hg, hf, hd, hQ => by
    simp [opsA] at h; obtain ⟨rfl, rfl⟩ := h
    exact hQ ι a w hg hf hd
  | o :: rest, k, f, t, σ, τ, ι, w, a, h, hget, hk, hok, hg, hf, hd, hQ => by
    simp only [List.all_cons, Bool.and_eq_true] at hok
    have hl : (List.range (o :: rest).length).map (k + ·) = k :: (List.range rest.length).map (k + 1 + ·) := by
      rw [List.length_cons, List.range_succ_eq_map, List.map_cons, List.map_map]
      congr 1
      refine List.map_congr_left (fun i _ => ?_)
      simp; omega
    rw [hl]
    have ho : ops[k]? = some o := by have := hget 0 (by simp); simpa using this
    have go : ∀ (v v' : Value) (σ' : St) (ι' : Inj) (w' : World), opsA P rec ops rest (setO f o.dst v) σ' = some (t, τ) → VR ι' v v' → Good ι σ w ι' σ' w' → wpOpsIn (Fw rd) n P ops Q ((List.range rest.length).map (k + 1 + ·)) (a.put o.dst v') w' := by
      intro v v' σ' ι' w' h' hv hg'
      refine opsA_wp hz hrec rest (k + 1) h' (fun i hi => ?_) (by simp at hk; omega) hok.2 (hg.trans hg') ?_ ?_ hQ
      · have := hget (i + 1) (by simp; omega)
        simpa [Nat.add_assoc, Nat.add_comm 1 i] using this
      · unfold setO Act.put
        cases o.dst with
        | none => exact hf.ext hg'.ext
        | some d => exact (hf.ext hg'.ext).set d hv
      · rw [← hd]; unfold Act.put; split <;> rfl
    simp only [wpOpsIn, ho]
    unfold opsA at h
    split at h
    · rename_i hgd
      rw [guardA_sound hgd (fun j want d _ _ => hf.2 d), if_pos rfl]
      split at h
      · rename_i v σ' hop
        rw [putA_eq] at h
        exact opA_sound hz hrec hop hg.rep (fun x hx => aeval_sound hf (opsOk hok.1 hx)) (fun v' w' ι' hv hg' => go v v' σ' ι' w' h hv hg')
      · cases h
    · rename_i hgd
      rw [guardA_sound hgd (fun j want d _ _ => hf.2 d), if_neg (by simp)]
      rw [putA_eq] at h
      exact ⟨fun f _ => Fw_fn rd f, go undef undef σ ι w h .undef (.refl hg.rep)⟩
    · cases h

theorem region_text (hz : zeroOk P) (hrec : RecSound P rec) {f t : Tm} {τ : St} {id : Nat} {rd : Option Nat} {n : Nat} {Q : Exit → Act → World → Prop} {a : Act} (hok : ops.toList.all operOk = true)
    (h : opsA P rec ops ops.toList f σ = some (t, τ)) (hr : Rep ι σ w) (hf : TmR ι f a.tmps)
    (hQ : ∀ ι' a' w', Good ι σ w ι' τ w' → TmR ι' t a'.tmps → a'.defers = a.defers → Q .normal a' w') : (Code.region id ops false).wpIn (Fw rd) n P Q a w := by
  refine wpIn_region ?_
  have := opsA_wp (rd := rd) (n := n) (Q := Q) hz hrec ops.toList 0 h (fun i _ => by simp) (by simp) hok (.refl hr) hf rfl hQ
  simpa using this
end
end Go.Lay
