
import Derived.Test.YtffgfojabcbegaaWK
import Derived.Test.YtffgfojabcbegaaUP
import Derived.Test.YtffgfojabcbegaaTy
import Derived.Test.YtffgfojabcbegaaLayD
namespace Go.Proofs.Ytffgfojabcbegaa
open Go Go.Lay
open Try renaming prog → Pg
set_option linter.unusedVariables false
set_option linter.unusedSimpArgs false
set_option maxRecDepth 20000
theorem zZD {l l' : List Rec} (hc : zAQ l) (h : ∀ x, x ∈ l' ↔ x ∈ l) : zAQ l' ∧ xU l' = xU l := by
 have hc' : zAQ l' := hc.mem fun x hx => (h x).1 hx
 exact ⟨hc', zNT (zHD hc') (zHD hc) fun x => by rw [zHS, zHS, h]⟩
theorem yVS {l : List Rec} {t : Nat} {x : Rec} : x ∈ l.drop t ++ l.take t ↔ x ∈ l := by
 rw [List.mem_append]
 constructor
 ·rintro (h | h)
  ·exact List.mem_of_mem_drop h
  ·exact List.mem_of_mem_take h
 ·intro h
  rw [← List.take_append_drop t l, List.mem_append] at h
  exact h.symm
theorem zZA {rs : List (List Rec)} (hf : yS rs = 0) (hc : zAQ rs.flatten) (hl : (xU rs.flatten).length ≤ 60) : zCG rs = 0 := by
 unfold zCG
 rw [if_pos hf, if_pos (vY.2 hc), if_neg (by omega)]
theorem yNN {rs : List (List Rec)} (h1 : rs.length ≤ 6) (h2 : ∀ r ∈ rs, r.length ≤ 60) (h3 : ∀ r ∈ rs, ∀ x ∈ r, yD x = true) : yS rs = 0 := by
 unfold yS
 have a1 : (rs.all fun r => decide (r.length ≤ 60)) = true := List.all_eq_true.2 fun r hr => by simp [h2 r hr]
 have a2 : (rs.all fun r => r.all yD) = true := List.all_eq_true.2 fun r hr => List.all_eq_true.2 (h3 r hr)
 rw [if_neg (by omega), a1, a2]; rfl
theorem sp_list {x y : Int × Int} : [x.1, x.2] = [y.1, y.2] ↔ x = y := by
 constructor
 ·intro h; simp at h; exact Prod.ext h.1 h.2
 ·rintro rfl; rfl
theorem pv_eq52 (x y : Int × Int) : zY Pg (Op.equal 52 (spV x) (spV y)) = some (decide (x = y)) := by
 have h := yKY (P := Pg) (t := 52) (n := 2) (d := 9998) (by kernel_rfl) («as» := [x.1, x.2]) (bs := [y.1, y.2]) rfl rfl
 rw [show decide (x = y) = decide ([x.1, x.2] = [y.1, y.2]) from decide_eq_decide.2 sp_list.symm]
 exact h
theorem neq52 {x y : Int × Int} {o1 o2 : Operand} : wG Pg .neq 52 o1 o2 (spV x) (spV y) = some (.bool (!decide (x = y))) := by
 have e : ∀ (x1 x2 y1 y2 : Int), wG Pg .neq 52 o1 o2 (.agg ⟨[yB x1, yB x2]⟩) (.agg ⟨[yB y1, yB y2]⟩) = (zY Pg (do eqGuard .neq 52 o1 o2 (.agg ⟨[yB x1, yB x2]⟩) (.agg ⟨[yB y1, yB y2]⟩); binOp .neq 52 (.agg ⟨[yB x1, yB x2]⟩) (.agg ⟨[yB y1, yB y2]⟩))).filter (zN RD) := fun _ _ _ _ => by kernel_rfl
 have e1 : ∀ (x1 x2 y1 y2 : Int), zY Pg (eqGuard .neq 52 o1 o2 (.agg ⟨[yB x1, yB x2]⟩) (.agg ⟨[yB y1, yB y2]⟩)) = some () := fun _ _ _ _ => by kernel_rfl
 have e2 : ∀ x y : List Value, binOp .neq 52 (.agg ⟨x⟩) (.agg ⟨y⟩) = (do let r ← Op.equal 52 (.agg ⟨x⟩) (.agg ⟨y⟩); pure (.bool (!r))) := fun _ _ => rfl
 rw [e, wJ, e1]
 simp only [Option.bind_some]
 rw [e2, wJ, pv_eq52]
 rfl
section
variable {σ τ : St}
theorem vT.three {ts te b : Nat} {p1 p2 p3 : Option Addr} {l1 l2 l3 c1 c2 c3 : Nat} {x1 x2 x3 : List Rec} (ha : zCC Pg ts = some false) (o : Own σ b [.slice p1 l1 c1, .slice p2 l2 c2, .slice p3 l3 c3] 1) (h1 : yK σ te p1 l1 x1) (h2 : yK σ te p2 l2 x2) (h3 : yK σ te p3 l3 x3) : vT σ ts te (some ⟨b, 0, none⟩) 3 [x1, x2, x3] := by
 have e1 := h1.len
 have e2 := h2.len
 have e3 := h3.len
 refine ⟨[.slice p1 l1 c1, .slice p2 l2 c2, .slice p3 l3 c3], ⟨⟨rfl, o.rw⟩, rfl, ?_⟩, rfl, ?_⟩
 ·intro v hv
  simp at hv
  rcases hv with rfl | rfl | rfl <;> exact .inl ⟨ha, rfl, rfl⟩
 ·intro i r hi
  rcases i with _ | _ | _ | i
  ·cases hi; exact ⟨p1, c1, by rw [e1]; rfl, by rw [e1]; exact h1⟩
  ·cases hi; exact ⟨p2, c2, by rw [e2]; rfl, by rw [e2]; exact h2⟩
  ·cases hi; exact ⟨p3, c3, by rw [e3]; rfl, by rw [e3]; exact h3⟩
  ·simp at hi
theorem yDO {n0 t n c len lo hi : Nat} {e : TypeId} {p : Option Addr} {vs : List Value} {lo' hi' : Option Value} (h : Ax τ n0 n p len c (xH vs)) (hvl : vs.length = len) (hel0 : ∀ v ∈ vs, zEU Pg e n v) (h0 : 0 < len) (hu : Pg.underlying t = some (.slice e)) (hs : xA Pg e = some n)
  (hlo : vI lo' 0 hi = some lo) (hhi : ∀ top, len ≤ top → vI hi' len top = some hi) (h1 : lo ≤ hi) (h2 : hi ≤ len) :
  ∃ q c', xD Pg τ t (.slice p len c) lo' hi' none = some (.slice q (hi - lo) c') ∧ SlV Pg τ e n q (hi - lo) ((vs.drop lo).take (hi - lo)) := by
 rcases h with hA | ⟨b, rfl, h3, h4, h5, h6, h7⟩
 rotate_left
 ·have ha : yDY τ n (some ⟨b, 0, none⟩) len c := .inr ⟨b, xH vs, _, _, rfl, by omega, by rw [← h3] at *; exact h4, h6.get, h5, h6.lt⟩
  obtain ⟨a1, a2, _⟩ := ha.part (P := Pg) ⟨⟨by rw [h5], h6.rw⟩, hvl, hel0⟩ hu hs hlo (hhi c (by omega)) h1 h2
  exact ⟨_, _, a1, a2⟩
 ·cases p with
  | none =>
   generalize xH vs = cs at hA
   cases hA; omega
  | some a =>
   have hr : Row τ a (xH vs) := by
    obtain ⟨p', c', e, hs⟩ := hA.sl
    cases e; exact hs.2
   have hel : ∀ v ∈ (vs.drop lo).take (hi - lo), zEU Pg e n v := fun v hv' => hel0 v (List.mem_of_mem_drop (List.mem_of_mem_take hv'))
   have hln : ((vs.drop lo).take (hi - lo)).length = hi - lo := by simp [hvl]; omega
   have hfl : (xH vs).length = len * n := by rw [zKZ hel0, hvl]
   have hle2 : lo * n + (hi - lo) * n ≤ len * n := by rw [← Nat.add_mul]; exact Nat.mul_le_mul_right _ (by omega)
   have key : ∀ (ws : List Value) (k : Nat), (∀ v ∈ ws, zEU Pg e n v) → k ≤ ws.length → xH (ws.take k) = (xH ws).take (k * n) ∧ xH (ws.drop k) = (xH ws).drop (k * n) := by
    intro ws k hw hk
    have h1 : xH ws = xH (ws.take k) ++ xH (ws.drop k) := by rw [← uH, List.take_append_drop]
    have h2 : (xH (ws.take k)).length = k * n := by
     rw [zKZ (fun v hv => hw v (List.mem_of_mem_take hv)), List.length_take, Nat.min_eq_left hk]
    constructor
    ·rw [h1, ← h2, List.take_left]
    ·rw [h1, ← h2, List.drop_left]
   have hpart : ((xH vs).drop (lo * n)).take ((hi - lo) * n) = xH ((vs.drop lo).take (hi - lo)) := by
    rw [← (key vs lo hel0 (by omega)).2, ← (key (vs.drop lo) (hi - lo) (fun v hv' => hel0 v (List.mem_of_mem_drop hv')) (by simp [hvl]; omega)).1]
   have hsl : SlV Pg τ e n (some (zG a (lo * n))) (hi - lo) ((vs.drop lo).take (hi - lo)) := by
    refine ⟨⟨by rw [← hpart, List.length_take, List.length_drop, hfl]; omega, ?_⟩, hln, hel⟩
    rw [← hpart]
    exact hr.part (k := lo * n) (m := (hi - lo) * n) (by omega)
   generalize xH vs = cs at hA
   cases hA with
   | more g1 g2 g3 g4 g5 g6 g7 =>
    rename_i b s0 nx sp log
    subst g2
    have hok : zJV τ ⟨b, 0, sp⟩ n = true := by simp [zJV, g1, zX, vW]
    have hL : yF (len + zAV) = len := zBG len
    have hx : yW (len + zAV) = false := by rw [Bool.eq_false_iff]; intro e; have := (yQ _).1 e; omega
    by_cases hll : lo = len
    ·have e1 : Nat.ble len lo = true := (zO _ _).2 (by omega)
     have e2 : (Nat.beq len lo && Nat.beq hi lo) = true := by rw [hll, show hi = len by omega]; simp
     refine ⟨some (zG ⟨b, 0, sp⟩ (lo * n)), zAV, ?_, hsl⟩
     simp only [xD, hu, hs, hok, cond_true, vX, hL, hhi len (Nat.le_refl _), hlo, hx, Bool.or_false, Option.isSome_none, cond_false, e1, e2]
     rw [show hi - lo = 0 by omega]
    ·have e1 : Nat.ble len lo = false := by rw [Bool.eq_false_iff]; intro e; have := (zO _ _).1 e; omega
     refine ⟨some (zG ⟨b, 0, sp⟩ (lo * n)), len - lo + zAV, ?_, hsl⟩
     simp only [xD, hu, hs, hok, cond_true, vX, hL, hhi len (Nat.le_refl _), hlo, hx, Bool.or_false, Option.isSome_none, cond_false, e1]
theorem yRJ {t len c : Nat} {p : Option Addr} {lo hi : Option Value} {v v' : Value} (h : xD Pg σ t (.slice p len c) lo hi none = some v) (h' : xD Pg τ t (.slice p len c) lo hi none = some v') : v = v' := by
 cases p with
 | none =>
  have e : xD Pg σ t (.slice none len c) lo hi none = xD Pg τ t (.slice none len c) lo hi none := by
   unfold xD
   cases Pg.underlying t with
   | none => rfl
   | some u => cases u <;> rfl
  rw [e, h'] at h
  exact (Option.some.inj h).symm
 | some a =>
  unfold xD at h h'
  cases hu : Pg.underlying t with
  | none => rw [hu] at h; cases h
  | some u =>
   rw [hu] at h h'
   cases u with
   | slice e =>
    simp only at h h'
    cases hs : xA Pg e with
    | none => rw [hs] at h; cases h
    | some n =>
     rw [hs] at h h'
     simp only at h h'
     cases h1 : zJV σ a n with
     | false => rw [h1] at h; cases h
     | true =>
      cases h2 : zJV τ a n with
      | false => rw [h2] at h'; cases h'
      | true =>
       rw [h1, cond_true] at h
       rw [h2, cond_true, h] at h'
       exact Option.some.inj h'
   | _ => cases h
theorem zWD {p q : Option Addr} {l m c d : Nat} {xs ys : List Rec} {k : Int} (hx : yK σ 59 p l xs) (hxl : l ≤ 60) (hrx : ∀ x ∈ xs, yD x = true) (hc : zAQ xs) : ∃ p1 c1 σ1, zD Pg 14 [.slice p l c] σ (.slice p1 l c1) σ1 ∧ New σ σ1 ∧
  ((vA (xU xs) = none ∧ zD Pg 18 [.slice p1 l c1] σ1 (.tuple ⟨[.slice none 0 0, iV 9]⟩) σ1) ∨ (∃ o q d σ2, vA (xU xs) = some o ∧ zD Pg 18 [.slice p1 l c1] σ1 (.tuple ⟨[.slice q o.length d, iV 0]⟩) σ2 ∧ New σ1 σ2 ∧ SlV Pg σ2 70 5 q o.length (o.map lkV))) := by
 have hlen := hx.len
 obtain ⟨p1, c1, σ1, k1, n1, r1, _⟩ := zDY (c := c) hx (by omega)
 refine ⟨p1, c1, σ1, k1, n1, ?_⟩
 have hz : zCW xs = if (vA (xU xs)).isSome then 0 else 9 := by
  unfold zCW
  rw [if_pos (zVI (by omega) hrx), if_pos (vY.2 hc)]
 rcases Lacks_c (c := c1) r1 (by omega) (zJK hrx) with ⟨e, k2⟩ | ⟨e, _, _, o, q, d, σ2, ho, k2, n2, s2⟩
 ·left
  cases ho : vA (xU xs) with
  | some o => rw [ho] at hz; exact absurd hz e
  | none =>
   rw [ho] at hz
   have hz : zCW xs = 9 := hz
   rw [hz] at k2
   exact ⟨rfl, k2⟩
 ·exact .inr ⟨o, q, d, σ2, ho, k2, n2, s2⟩
theorem zWC {p : Option Addr} {l c : Nat} {xs : List Rec} {k : Int} (hx : yK σ 59 p l xs) (hxl : l ≤ 60) (hrx : ∀ x ∈ xs, yD x = true) (hc : zAQ xs) (r0 : 0 ≤ k) (r1 : k ≤ 1000) : ∃ p1 c1 σ1, zD Pg 14 [.slice p l c] σ (.slice p1 l c1) σ1 ∧ New σ σ1 ∧
  ((wW (xU xs) k = none ∧ zD Pg 23 [.slice p1 l c1, yB k] σ1 (.tuple ⟨[.slice none 0 0, iV 9]⟩) σ1) ∨ (∃ o q d σ2, wW (xU xs) k = some o ∧ zD Pg 23 [.slice p1 l c1, yB k] σ1 (.tuple ⟨[.slice q o.length d, iV 0]⟩) σ2 ∧ New σ1 σ2 ∧ SlV Pg σ2 52 2 q o.length (o.map spV))) := by
 have hlen := hx.len
 obtain ⟨p1, c1, σ1, k1, n1, r1', _⟩ := zDY (c := c) hx (by omega)
 refine ⟨p1, c1, σ1, k1, n1, ?_⟩
 have hz : zCE xs k = if (wW (xU xs) k).isSome then 0 else 9 := by
  unfold zCE
  rw [if_pos (zVI (by omega) hrx), if_pos (vY.2 hc), if_pos (zMJ.2 ⟨r0, r1⟩)]
 rcases Spans_c (c := c1) (rate := k) r1' (by omega) (zJK hrx) with ⟨e, k2⟩ | ⟨e, _, _, _, _, o, q, d, σ2, ho, k2, n2, s2⟩
 ·left
  cases ho : wW (xU xs) k with
  | some o => rw [ho] at hz; exact absurd hz e
  | none =>
   rw [ho] at hz
   have hz : zCE xs k = 9 := hz
   rw [hz] at k2
   exact ⟨rfl, k2⟩
 ·exact .inr ⟨o, q, d, σ2, ho, k2, n2, s2⟩
end
end Go.Proofs.Ytffgfojabcbegaa
