
import Derived.Test.YthcdddbghldmiaaCJ
namespace Go.Proofs.Ythcdddbghldmiaa
open Go Go.Lay
open Try renaming prog → Pg
set_option linter.unusedVariables false
set_option linter.unusedSimpArgs false
set_option maxRecDepth 20000
theorem keyNd : KeyT Pg 125 ndV := by
 refine ⟨fun a b => ?_, fun e a => ?_, fun a => ?_⟩
 ·have h := pv_rec (P := Pg) (t := 125) (n := 2) (d := 9998) (by kernel_rfl) («as» := [a.b, a.s]) (bs := [b.b, b.s]) rfl rfl
  have e : decide (a = b) = decide ([a.b, a.s] = [b.b, b.s]) := decide_eq_decide.2 ⟨fun h => by rw [h], fun h => by simp at h; exact Nd.inj h.1 h.2⟩
  rw [e]; exact h
 ·have : ∀ (e : Bool) (x y : Int), keyOk Pg e 125 (.agg ⟨[iV x, iV y]⟩) = true := fun e x y => by kernel_rfl
  exact this e a.b a.s
 ·have : ∀ (n : Nat) (x y : Int), Instr.sameBits (n + 2) (.agg ⟨[iV x, iV y]⟩) (.agg ⟨[iV x, iV y]⟩) = true := fun n x y => by simp [Instr.sameBits]
  exact this 9998 _ _
theorem node_eq {a b : Nd} {o1 o2 : Operand} : binA Pg .eql 125 o1 o2 (ndV a) (ndV b) = some (.bool (decide (a = b))) := by
 have h := keyNd.eq a b
 have e : binA Pg .eql 125 o1 o2 (ndV a) (ndV b) = (pureVal Pg (do eqGuard .eql 125 o1 o2 (ndV a) (ndV b); binOp .eql 125 (ndV a) (ndV b))).filter (rigidB RD) := by kernel_rfl
 have e1 : pureVal Pg (eqGuard .eql 125 o1 o2 (ndV a) (ndV b)) = some () := by
  have : ∀ (x y x' y' : Int), pureVal Pg (eqGuard .eql 125 o1 o2 (.agg ⟨[iV x, iV y]⟩) (.agg ⟨[iV x', iV y']⟩)) = some () := fun x y x' y' => by kernel_rfl
  exact this _ _ _ _
 have e2 : binOp .eql 125 (ndV a) (ndV b) = (do let r ← Op.equal 125 (ndV a) (ndV b); pure (.bool r)) := rfl
 rw [e, pv_bind, e1]
 simp only [Option.bind_some]
 rw [e2, pv_bind, h]
 rfl
theorem node_ne {a b : Nd} {o1 o2 : Operand} : binA Pg .neq 125 o1 o2 (ndV a) (ndV b) = some (.bool (decide (a ≠ b))) := by
 have h := keyNd.eq a b
 have e : binA Pg .neq 125 o1 o2 (ndV a) (ndV b) = (pureVal Pg (do eqGuard .neq 125 o1 o2 (ndV a) (ndV b); binOp .neq 125 (ndV a) (ndV b))).filter (rigidB RD) := by kernel_rfl
 have e1 : pureVal Pg (eqGuard .neq 125 o1 o2 (ndV a) (ndV b)) = some () := by
  have : ∀ (x y x' y' : Int), pureVal Pg (eqGuard .neq 125 o1 o2 (.agg ⟨[iV x, iV y]⟩) (.agg ⟨[iV x', iV y']⟩)) = some () := fun x y x' y' => by kernel_rfl
  exact this _ _ _ _
 have e2 : binOp .neq 125 (ndV a) (ndV b) = (do let r ← Op.equal 125 (ndV a) (ndV b); pure (.bool !r)) := rfl
 rw [e, pv_bind, e1]
 simp only [Option.bind_some]
 rw [e2, pv_bind, h]
 by_cases hab : a = b <;> simp only [hab, decide_true, decide_false, ne_eq, not_true_eq_false, not_false_eq_true] <;> rfl
section
variable {σ τ : St} {w : Nat} {g : Gar} {W : Wk} {p q pp : Option Addr} {c d cp : Nat} {B : Nat → Nat}
theorem mapI : mapOf Pg 127 = some (125, 3) := by kernel_rfl
theorem mapW : mapOf Pg 128 = some (125, 143) := by kernel_rfl
theorem zero3 : zeroT Pg 3 = some (intV 0) := by kernel_rfl
theorem zero143 : zeroT Pg 143 = some (.agg ⟨[intV 0, intV 0, intV 0, intV 0, intV 0, intV 0]⟩) := by kernel_rfl
theorem prices_c {m0 : Nat} {keys : List Nd} {s0 : Nd → Option Int} {π : Nd → Int} (hw : WkAt σ w g W p c q d pp cp B) (hF : Feas g W) (hv : Valid g) (hP : Pot (waysM g W) π) (hπ : ∀ v ∈ nodes g, -18000 ≤ π v ∧ π v ≤ 0)
    (hm : MapF Pg σ m0 ndV intV s0) (hk : keys.Nodup) (hs : ∀ v, s0 v = if v ∈ keys then some 0 else none) (hkn : ∀ v ∈ keys, v ∈ nodes g) :
    ∃ k σ' price by_, CallsA Pg 69 [.pointer (some ⟨w, 0, none⟩), .map (some m0)] σ (.tuple ⟨[.map (some m0), .map (some k)]⟩) σ' ∧ Only (· = m0) σ σ' ∧ MapF Pg σ' m0 ndV intV price ∧ MapF Pg σ' k ndV wyV by_ ∧ BInv (waysM g W) (nodes g) (· ∈ keys) π 0 price by_ ∧ Done (waysM g W) price ∧ σ.next ≤ k := by
  have hns := hv.ns; have hnb := hv.nb
  obtain ⟨hm0, es0, hmb, _⟩ := id hm
  obtain ⟨kb, hkb⟩ : ∃ kb, kb = σ.re.next := ⟨_, rfl⟩
  have hN1 : New σ.re (σ.re.add (.map [])) := New.add _ _
  have w1 := hw.le ((le0 σ).trans hN1.le)
  obtain ⟨q1, c1, τ1, k1, k2, k3, k4⟩ := ways_c w1 hF hv
  have hN2 : New σ.re τ1 := hN1.trans k2
  have mA : MapF Pg τ1 m0 ndV intV s0 := hm.le ((le0 σ).trans hN2.le)
  have mB : MapF Pg τ1 kb ndV wyV (fun _ => none) := by subst hkb; exact (MapF.new σ.re).le k2.le
  have hB0 : BInv (waysM g W) (nodes g) (· ∈ keys) π 0 s0 (fun _ => none) := BInv.init hk hs (fun _ => Iff.rfl) hkn (fun v hv' => (hπ v (hkn v hv')).2)
  obtain ⟨Bg, hBg⟩ := meas_big (V := nodes g) (π := π) (K := 0) (C := 1000 * ((nodes g).length : Int) + 1000)
  have hmk : m0 ≠ kb := by rw [hkb]; simp; omega
  let Fct : St → (Nd → Option Int) → By → Prop := fun τ price by_ => Only (fun b => b = m0 ∨ b = kb) τ1 τ ∧ MapF Pg τ m0 ndV intV price ∧ MapF Pg τ kb ndV wyV by_ ∧ SlV Pg τ 143 6 q1 (waysM g W).length ((waysM g W).map wyV) ∧ BInv (waysM g W) (nodes g) (· ∈ keys) π 0 price by_
  suffices key : RunsQ Pg 69 [.pointer (some ⟨w, 0, none⟩), .map (some m0)] σ.re fun v s => Only (· = m0) σ.re s ∧ (s.low < σ.next ∨ rigidB RD v = false) ∧ v = .tuple ⟨[.map (some m0), .map (some kb)]⟩ ∧ ∃ price by_, MapF Pg s m0 ndV intV price ∧ MapF Pg s kb ndV wyV by_ ∧ BInv (waysM g W) (nodes g) (· ∈ keys) π 0 price by_ ∧ Done (waysM g W) price by
    obtain ⟨v, s, h1, h2, rfl, price, by_, h3, h4, h5, h6⟩ := RunsQ.mut key (by
      rintro v s m ⟨rfl, price, by_, h3, h4, h5, h6⟩
      exact ⟨rfl, price, by_, h3.at_ rfl (Nat.le_refl _), h4.at_ rfl (Nat.le_refl _), h5, h6⟩)
    exact ⟨kb, s, price, by_, h1, h2, h3, h4, h5, h6, by rw [hkb]; exact Nat.le_refl _⟩
  refine prices_ra (P0 := fun τ => ∃ price by_, Fct τ price by_ ∧ Done (waysM g W) price) k1 ?_ ?_
  rotate_left
  · rintro τ ⟨price, by_, ⟨f1, f2, f3, f4, f5⟩, hd⟩
    rw [show σ.re.next = kb from hkb.symm]
    refine prices_t1x0a ⟨?_, .inr rfl, rfl, price, by_, f2, f3, f5, hd⟩
    refine (hN2.only (S := (· = m0))).trans' f1 ?_
    rintro b _ (rfl | rfl)
    · exact .inl rfl
    · right; rw [hkb]; exact Nat.le_refl _
  rw [show σ.re.next = kb from hkb.symm]
  refine prices_loop1 (Inv := fun k t τ => ∃ price by_, Fct τ price by_ ∧ if t = true then meas (nodes g) π 0 Bg price + 1 ≤ k else Done (waysM g W) price) (Q0 := fun τ => ∃ price by_, Fct τ price by_ ∧ Done (waysM g W) price) ?_ (meas (nodes g) π 0 Bg s0 + 1) true τ1
    ⟨s0, fun _ => none, ⟨Only.refl _ _, mA, mB, k3, hB0⟩, by simp⟩
  rintro k t τ ⟨price, by_, hf, ht⟩
  cases t with
  | false => exact prices_s1b ⟨price, by_, hf, by simpa using ht⟩
  | true =>
  rw [if_pos rfl] at ht
  refine prices_s1a (P2 := fun t τ' => ∃ price' by', Fct τ' price' by' ∧ (t = true → meas (nodes g) π 0 Bg price' < meas (nodes g) π 0 Bg price) ∧ (t = false → Done (waysM g W) price')) ?_ ?_
  rotate_left
  · rintro t τ' ⟨price', by', hf', h1, h2⟩
    cases t with
    | true => exact prices_t2x2a ⟨k - 1, by omega, price', by', hf', by rw [if_pos rfl]; have := h1 rfl; omega⟩
    | false => exact prices_t2x2a ⟨0, by omega, price', by', hf', by simpa using h2 rfl⟩
  refine prices_loop2 (Inv := fun k' t i21 τ' => ∃ i : Nat, i21 = i ∧ i + k' = (waysM g W).length ∧ ∃ price' by', Fct τ' price' by' ∧ meas (nodes g) π 0 Bg price' ≤ meas (nodes g) π 0 Bg price ∧ (t = true → meas (nodes g) π 0 Bg price' < meas (nodes g) π 0 Bg price) ∧ (t = false → Done ((waysM g W).take i) price'))
    (Q2 := fun t τ' => ∃ price' by', Fct τ' price' by' ∧ (t = true → meas (nodes g) π 0 Bg price' < meas (nodes g) π 0 Bg price) ∧ (t = false → Done (waysM g W) price')) ?_ (waysM g W).length false 0 τ ⟨0, rfl, by omega, price, by_, hf, Nat.le_refl _, by simp, fun _ x hx => by simp at hx⟩
  rintro k' t i21 τ' ⟨i, rfl, hk', price', by', ⟨f1, f2, f3, f4, f5⟩, hle, hlt, hdn⟩
  by_cases hi : i < (waysM g W).length
  rotate_left
  · have : i = (waysM g W).length := by omega
    subst this
    rw [List.take_of_length_le (Nat.le_refl _)] at hdn
    exact prices_s2e ⟨price', by', ⟨f1, f2, f3, f4, f5⟩, hlt, hdn⟩
  obtain ⟨a, rfl, x, hx, ldx⟩ := slv_at f4 hi
  have hxm : x ∈ waysM g W := List.mem_of_getElem? hx
  have hxw := mem_ways.1 hxm
  have hxe := hxw.ends
  have hxp := hxw.pr_bd hv
  have hlenw : (waysM g W).length ≤ 100000 := by
    unfold waysM
    rw [List.length_append]
    have := waysU_len (W := W) hv (i := g.nb) (Nat.le_refl _)
    have := waysV_len (g := g) (W := W) (s := g.ns)
    omega
  have hpb : ∀ v pv, price' v = some pv → -18000 ≤ pv ∧ pv ≤ 18000 := fun v pv hp => by
    obtain ⟨h1, h2⟩ := f5.nd v pv hp
    obtain ⟨ks, h3, h4⟩ := f5.len
    have := h4 v pv hp
    have := (hπ v h1).1
    have := nodes_len (g := g)
    omega
  obtain ⟨τ2, hτ2⟩ : ∃ τ2, τ2 = (τ'.row (ints6 0 0 0 0 0 0) 6).own τ'.next (ints6 x.fr.b x.fr.s x.to.b x.to.s x.rest x.pr) 6 := ⟨_, rfl⟩
  have N2 : New τ' τ2 := by rw [hτ2]; exact (New.row _ _ _).own (Nat.le_refl _)
  have o2 : Own τ2 τ'.next (ints6 x.fr.b x.fr.s x.to.b x.to.s x.rest x.pr) 6 := by rw [hτ2]; exact Own.cp _ _ _ _
  have g2 := f2.le N2.le; have g3 := f3.le N2.le; have g4 := f4.le N2.le
  have O2 : Only (fun b => b = m0 ∨ b = kb) τ1 τ2 := f1.trans' (N2.only (S := fun b => b = m0 ∨ b = kb)) (fun b _ h => .inl h)
  have hkb1 : kb < τ1.next := mB.1
  have skip : Fct τ2 price' by' := ⟨O2, g2, g3, g4, f5⟩
  have same : (t = false → ∀ pv, price' x.fr = some pv → ∃ q, price' x.to = some q ∧ q ≤ pv + x.pr) → (t = false → Done ((waysM g W).take (i + 1)) price') := by
    intro h ht y hy pv hp
    rw [take_snoc hx] at hy
    rcases List.mem_append.1 hy with hy | hy
    · exact hdn ht y hy pv hp
    · simp at hy; subst hy; exact h ht pv hp
  have lower : ∀ pv, price' x.fr = some pv → (∀ old, price' x.to = some old → pv + x.pr < old) → ∃ τ3 τ4, effOp Pg (evL [.map (some m0), ndV x.to, intV (pv + x.pr)]) τ2 (.mapUpdate 127 (.tmp 0) (.tmp 1) (.tmp 2)) = some (undef, τ3) ∧
      effOp Pg (evL [.map (some kb), ndV x.to, wyV x]) τ3 (.mapUpdate 128 (.tmp 0) (.tmp 1) (.tmp 2)) = some (undef, τ4) ∧ Own τ3 τ'.next (ints6 x.fr.b x.fr.s x.to.b x.to.s x.rest x.pr) 6 ∧ τ3.next = τ2.next ∧ kb < τ3.next ∧
      ∃ price'' by'', Fct τ4 price'' by'' ∧ meas (nodes g) π 0 Bg price'' < meas (nodes g) π 0 Bg price' := by
    intro pv hp hlt'
    obtain ⟨e1, p1, p2⟩ := g2.put keyNd mapI x.to (pv + x.pr)
    have hk3 : MapF Pg (τ2.put m0 (.map e1)) kb ndV wyV by' := g3.at_ (by rw [St.put_get, if_neg (fun h => hmk h.symm)]) (Nat.le_refl _)
    obtain ⟨e2, p3, p4⟩ := hk3.put keyNd mapW x.to x
    have hno : τ'.next ≠ m0 := by obtain ⟨_, m, hm', _⟩ := g2; exact own_ne_map o2 hm'
    refine ⟨_, _, p1, p3, o2.at_ (by rw [St.put_get, if_neg hno]) (Nat.le_refl _), rfl, hk3.1, _, _, ⟨?_, ?_, p4, ?_, f5.relax hP hxm hxp.2 hxe.2 hp hlt'⟩, meas_lt f5 hBg hP hxm hxp.2 hxe.2 hp hlt'⟩
    · refine (O2.trans' (Only.put (S := fun b => b = m0 ∨ b = kb) (.inr (.inl rfl))) (fun b _ h => .inl h)).trans' (Only.put (S := fun b => b = m0 ∨ b = kb) (.inr (.inr rfl))) (fun b _ h => .inl h)
    · exact p2.at_ (by rw [St.put_get, if_neg hmk]) (Nat.le_refl _)
    · have k1 : Only (· = m0) τ2 (τ2.put m0 (.map e1)) := Only.put (.inr rfl)
      obtain ⟨_, mm, hmm, _⟩ := g2
      obtain ⟨_, mk, hmk', _⟩ := hk3
      have k2 : Only (· = kb) (τ2.put m0 (.map e1)) ((τ2.put m0 (.map e1)).put kb (.map e2)) := Only.put (.inr rfl)
      have s1 := k1.slv' g4 (fun a' e hb => slv_ne_map g4 hmm _ ⟨a', e, rfl⟩ hb)
      exact k2.slv' s1 (fun a' e hb => slv_ne_map s1 hmk' _ ⟨a', e, rfl⟩ hb)
  have hm2 := g2.1
  cases hp : price' x.fr with
  | none =>
    exact prices_s2d ldx (by rw [← hτ2]; exact g2.look0 keyNd mapI zero3 hp) (by rw [← hτ2]; exact ⟨k' - 1, by omega, i + 1, by omega, by omega, price', by', skip, hle, hlt, same (fun _ pv h => by rw [hp] at h; cases h)⟩)
  | some pv =>
    have hpv := hpb _ _ hp
    cases hq : price' x.to with
    | none =>
      obtain ⟨τ3, τ4, p1, p2, p3, p4, p6, price'', by'', p5, p7⟩ := lower pv hp (fun old ho => by rw [hq] at ho; cases ho)
      have hp3 := p3.lt
      exact prices_s2c ldx (by rw [← hτ2]; exact g2.look1 keyNd mapI zero3 hp) (by rw [← hτ2]; exact g2.look0 keyNd mapI zero3 hq) (by rw [← hτ2]; exact p1) p2
        (by rw [← hτ2]; exact belowL_cons (belowB_map hm2) (belowL_cons (belowB_rig rfl) (belowL_cons (belowB_rig rfl) belowL_nil))) (belowL_cons (belowB_map p6) (belowL_cons (belowB_rig rfl) (belowL_cons (belowB_rig rfl) belowL_nil)))
        ⟨⟨hp3, rfl⟩, p3.ldN agg125 size125 (k := 2) rfl rfl (by simp)⟩ ⟨⟨hp3, rfl⟩, p3.ldN agg143 size143 (k := 0) rfl rfl (by simp)⟩ ⟨k' - 1, by omega, i + 1, by omega, by omega, price'', by'', p5, by omega, fun _ => by omega, by simp⟩
    | some old =>
      have hold := hpb _ _ hq
      by_cases hlt2 : pv + x.pr < old
      · obtain ⟨τ3, τ4, p1, p2, p3, p4, p6, price'', by'', p5, p7⟩ := lower pv hp (fun old' ho => by rw [hq] at ho; cases ho; exact hlt2)
        have hp3 := p3.lt
        exact prices_s2a ldx (by rw [← hτ2]; exact g2.look1 keyNd mapI zero3 hp) (by rw [← hτ2]; exact g2.look1 keyNd mapI zero3 hq) (by rw [← hτ2]; exact p1) p2
          (by rw [← hτ2]; exact belowL_cons (belowB_map hm2) (belowL_cons (belowB_rig rfl) (belowL_cons (belowB_rig rfl) belowL_nil))) (belowL_cons (belowB_map p6) (belowL_cons (belowB_rig rfl) (belowL_cons (belowB_rig rfl) belowL_nil)))
          ⟨⟨hp3, rfl⟩, p3.ldN agg125 size125 (k := 2) rfl rfl (by simp)⟩ ⟨⟨hp3, rfl⟩, p3.ldN agg143 size143 (k := 0) rfl rfl (by simp)⟩ ⟨k' - 1, by omega, i + 1, by omega, by omega, price'', by'', p5, by omega, fun _ => by omega, by simp⟩
      · exact prices_s2b ldx (by rw [← hτ2]; exact g2.look1 keyNd mapI zero3 hp) (by rw [← hτ2]; exact g2.look1 keyNd mapI zero3 hq) (by rw [← hτ2]; exact ⟨k' - 1, by omega, i + 1, by omega, by omega, price', by', skip, hle, hlt, same (fun _ pv' h => by rw [hp] at h; cases h; exact ⟨old, hq, by omega⟩)⟩)
end
end Go.Proofs.Ythcdddbghldmiaa
