import Derived.Test.YtffgfojabcbegaaWN
import Derived.Test.YtffgfojabcbegaaWI
import Derived.Test.YtffgfojabcbegaaXT
import Derived.Test.YtffgfojabcbegaaTy

namespace Go.Proofs.Ytffgfojabcbegaa
open Go Go.Lay
open Try renaming prog → Pg
set_option linter.unusedVariables false
set_option linter.unusedSimpArgs false
set_option maxRecDepth 20000
theorem lk_list {x y : Lk} : [x.m, x.f, x.t, x.sales, x.coins] = [y.m, y.f, y.t, y.sales, y.coins] ↔ x = y := by
 constructor
 ·intro h; simp at h; cases x; cases y; simp_all
 ·rintro rfl; rfl
theorem pv_eq70 (x y : Lk) : yI Pg (Op.equal 70 (lkV x) (lkV y)) = some (decide (x = y)) := by
 have h := pv_rec (P := Pg) (t := 70) (n := 5) (d := 9998) (by kernel_rfl) («as» := [x.m, x.f, x.t, x.sales, x.coins]) (bs := [y.m, y.f, y.t, y.sales, y.coins]) rfl rfl
 rw [show decide (x = y) = decide ([x.m, x.f, x.t, x.sales, x.coins] = [y.m, y.f, y.t, y.sales, y.coins]) from decide_eq_decide.2 lk_list.symm]
 exact h
theorem neq70 {x y : Lk} {o1 o2 : Operand} : vZ Pg .neq 70 o1 o2 (lkV x) (lkV y) = some (.bool (!decide (x = y))) := by
 have e : ∀ (x1 x2 x3 x4 x5 y1 y2 y3 y4 y5 : Int), vZ Pg .neq 70 o1 o2 (.agg ⟨zN x1 x2 x3 x4 x5⟩) (.agg ⟨zN y1 y2 y3 y4 y5⟩) = (yI Pg (do eqGuard .neq 70 o1 o2 (.agg ⟨zN x1 x2 x3 x4 x5⟩) (.agg ⟨zN y1 y2 y3 y4 y5⟩); binOp .neq 70 (.agg ⟨zN x1 x2 x3 x4 x5⟩) (.agg ⟨zN y1 y2 y3 y4 y5⟩))).filter (zQ RD) := fun _ _ _ _ _ _ _ _ _ _ => by kernel_rfl
 have e1 : ∀ (x1 x2 x3 x4 x5 y1 y2 y3 y4 y5 : Int), yI Pg (eqGuard .neq 70 o1 o2 (.agg ⟨zN x1 x2 x3 x4 x5⟩) (.agg ⟨zN y1 y2 y3 y4 y5⟩)) = some () := fun _ _ _ _ _ _ _ _ _ _ => by kernel_rfl
 have e2 : ∀ x y : List Value, binOp .neq 70 (.agg ⟨x⟩) (.agg ⟨y⟩) = (do let r ← Op.equal 70 (.agg ⟨x⟩) (.agg ⟨y⟩); pure (.bool (!r))) := fun _ _ => rfl
 rw [e, uK, e1]
 simp only [Option.bind_some]
 rw [e2, uK, pv_eq70]
 rfl
section
variable {σ σ0 τ : St}
theorem yUL {n0 t n c len lo hi : Nat} {e : TypeId} {a : Addr} {vs : List Value} {lo' hi' : Option Value} (h : Gr Pg τ n0 e n (some a) len c vs) (hu : Pg.underlying t = some (.slice e)) (hs : xF Pg e = some n)
  (hlo : uE lo' 0 hi = some lo) (hhi : uE hi' len len = some hi) (h1 : lo < len) (h2 : lo ≤ hi) (h3 : hi ≤ len) :
  uS Pg τ t (.slice (some a) len c) lo' hi' none = some (.slice (some (zG a (lo * n))) (hi - lo) (len - lo + zAW)) ∧ SlV Pg τ e n (some (zG a (lo * n))) (hi - lo) ((vs.drop lo).take (hi - lo)) := by
 have hr : Row τ a (wL vs) := h.slv.1.2
 have hvl := h.len_eq
 have hel : ∀ v ∈ (vs.drop lo).take (hi - lo), zJM Pg e n v := fun v hv' => h.el v (List.mem_of_mem_drop (List.mem_of_mem_take hv'))
 have hln : ((vs.drop lo).take (hi - lo)).length = hi - lo := by simp [hvl]; omega
 have hfl : (wL vs).length = len * n := by rw [zXA h.el, hvl]
 have hle2 : lo * n + (hi - lo) * n ≤ len * n := by rw [← Nat.add_mul]; exact Nat.mul_le_mul_right _ (by omega)
 have key : ∀ (ws : List Value) (k : Nat), (∀ v ∈ ws, zJM Pg e n v) → k ≤ ws.length → wL (ws.take k) = (wL ws).take (k * n) ∧ wL (ws.drop k) = (wL ws).drop (k * n) := by
  intro ws k hw hk
  have h1 : wL ws = wL (ws.take k) ++ wL (ws.drop k) := by rw [← zBS, List.take_append_drop]
  have h2 : (wL (ws.take k)).length = k * n := by
   rw [zXA (fun v hv => hw v (List.mem_of_mem_take hv)), List.length_take, Nat.min_eq_left hk]
  constructor
  ·rw [h1, ← h2, List.take_left]
  ·rw [h1, ← h2, List.drop_left]
 have hpart : ((wL vs).drop (lo * n)).take ((hi - lo) * n) = wL ((vs.drop lo).take (hi - lo)) := by
  rw [← (key vs lo h.el (by omega)).2, ← (key (vs.drop lo) (hi - lo) (fun v hv' => h.el v (List.mem_of_mem_drop hv')) (by simp [hvl]; omega)).1]
 have hA := h.app
 generalize wL vs = cs at hA hr hfl hpart
 cases hA with
 | more g1 g2 g3 g4 g5 g6 g7 =>
  rename_i b s0 nx sp log
  subst g2
  have hok : zTP τ ⟨b, 0, sp⟩ n = true := by simp [zTP, g1, zZ, uW]
  have hL : yM (len + zAW) = len := zBV len
  have hx : yZ (len + zAW) = false := by rw [Bool.eq_false_iff]; intro e; have := (xA _).1 e; omega
  have e1 : Nat.ble len lo = false := by rw [Bool.eq_false_iff]; intro e; have := (zP _ _).1 e; omega
  refine ⟨?_, ⟨?_, hln, hel⟩⟩
  ·simp only [uS, hu, hs, hok, cond_true, zCF, hL, hhi, hlo, hx, Bool.or_false, Option.isSome_none, cond_false, e1]
  ·refine ⟨by rw [← hpart, List.length_take, List.length_drop, hfl]; omega, ?_⟩
   rw [← hpart]
   exact hr.part (k := lo * n) (m := (hi - lo) * n) (by omega)
structure AgS (σ0 τ : St) (lf : List Rec) (p8 : Option Addr) (c8 : Nat) (cl : List Nat) (p9 : Option Addr) (c9 : Nat) : Prop where
 N : New σ0 τ
 gl : Gr Pg τ σ0.next 59 6 p8 lf.length c8 (lf.map yE)
 gw : Gr Pg τ σ0.next 3 1 p9 cl.length c9 (cl.map fun n : Nat => vV (n : Int))
 d : ∀ b, AtP p8 b → ¬ AtP p9 b
theorem AgS.push8 {lf : List Rec} {cl : List Nat} {p8 p9 : Option Addr} {c8 c9 : Nat} {x : Rec} (h : AgS σ0 τ lf p8 c8 cl p9 c9) (hl : lf.length ≤ 1000) : ∃ q d τ1, yA Pg 22 22 (.slice p8 lf.length c8) (.slice (some ⟨τ.next, 0, none⟩) 1 1) (τ.row (yN x) 6) = some (.slice q (lf.length + 1) d, τ1) ∧ AgS σ0 τ1 (lf ++ [x]) q d cl p9 c9 := by
 obtain ⟨q, d, τ1, g1, g2, g3, g4⟩ := zWY (yE x) zMO h.gl (Le.refl _) (zHI _) (by omega) h.N.nx (e := rfl) (hc := rfl)
 refine ⟨q, d, τ1, g1, ⟨(h.N.row').of_only g3 (fun b hb => (h.gl.bd hb).1), ?_, (h.gw.le (Le.row _ _ _)).only g3 (fun b hb e => h.d b e hb), fun b hb hb9 => ?_⟩⟩
 ·rw [List.length_append, List.map_append]; exact g2
 ·rcases g4 b hb with e | e
  ·exact h.d b e hb9
  ·have := (h.gw.bd hb9).2; omega
theorem AgS.push9 {lf : List Rec} {cl : List Nat} {p8 p9 : Option Addr} {c8 c9 : Nat} {n : Nat} (h : AgS σ0 τ lf p8 c8 cl p9 c9) (hl : cl.length ≤ 1000) : ∃ q d τ1, yA Pg 64 64 (.slice p9 cl.length c9) (.slice (some ⟨τ.next, 0, none⟩) 1 1) (τ.row [vV (n : Int)] 1) = some (.slice q (cl.length + 1) d, τ1) ∧ AgS σ0 τ1 lf p8 c8 (cl ++ [n]) q d := by
 obtain ⟨q, d, τ1, g1, g2, g3, g4⟩ := zWY (vV (n : Int)) yYP h.gw (Le.refl _) (elOk_num _) (by omega) h.N.nx (e := rfl) (hc := rfl)
 refine ⟨q, d, τ1, g1, ⟨(h.N.row').of_only g3 (fun b hb => (h.gw.bd hb).1), (h.gl.le (Le.row _ _ _)).only g3 (fun b hb e => h.d b hb e), ?_, fun b hb hb9 => ?_⟩⟩
 ·rw [List.length_append, List.map_append]; exact g2
 ·rcases g4 b hb9 with e | e
  ·exact h.d b hb e
  ·have := (h.gl.bd hb).2; omega
def yUW (σ0 : St) (F : List Rec) (G : Nat → Bool) (k : Nat) (p8 : Option Addr) (l8 c8 : Nat) (p9 : Option Addr) (l9 c9 : Nat) (i : Int) (τ : St) : Prop := ∃ s : Nat, i = s ∧ s + k = F.length ∧ l8 = (yH G F s).length ∧ l9 = (uU 0 (yH G F s)).length ∧ AgS σ0 τ (yH G F s) p8 c8 (uU 0 (yH G F s)) p9 c9
theorem zNW {l : List Rec} {x : Rec} : uU 0 (l ++ [x]) = if x.k = 2 then uU 0 l ++ [l.length] else uU 0 l := by
 rw [zML, zBC, Nat.zero_add]
 split <;> simp [uU]
theorem yRT {bits which : Int} {q2 : Option Addr} {c2 l : Nat} {F : List Rec} (hF : yU σ0 59 q2 l F) (hl : F.length ≤ 60)
  {Q0 : Option Addr → Nat → Nat → Option Addr → Nat → Nat → St → Prop} (hQ : ∀ p8 c8 p9 c9 τ, AgS σ0 τ (yH (uV bits) F F.length) p8 c8 (uU 0 (yH (uV bits) F F.length)) p9 c9 → Q0 p8 (yH (uV bits) F F.length).length c8 p9 (uU 0 (yH (uV bits) F F.length)).length c9 τ) :
  zRF bits which q2 l c2 none 0 0 none 0 0 0 σ0 Q0 := by
 have hlen := hF.len
 refine yFH (Inv := yUW σ0 F (uV bits)) ?_ F.length none 0 0 none 0 0 0 σ0 ⟨0, rfl, by omega, rfl, rfl, ⟨New.refl _, .nil, .nil, fun b h => (AtP.none h).elim⟩⟩
 rintro k p8 l8 c8 p9 l9 c9 i τ ⟨s, rfl, hk, rfl, rfl, M⟩
 by_cases hsl : s < F.length
 rotate_left
 ·have : s = F.length := by omega
  subst this
  exact yPQ (hQ _ _ _ _ _ M) (by omega)
 have sl := SlV.le hF M.N.le
 obtain ⟨a, rfl, x, hx, -⟩ := zAO (f := yE) sl (show s < l by omega)
 have lk : zC Pg τ 5 (zG a (Int.toNat (s : Int) * 6 + 3)) = some (.int .u8 x.k) := zCE sl (by rw [List.getElem?_map, hx]; rfl) rfl zCP
 have ld : ∀ τ', New σ0 τ' → zC Pg τ' 59 (zG a (Int.toNat (s : Int) * 6)) = some (yE x) := fun τ' hN => (SlV.le hF hN.le).at rfl (by rw [List.getElem?_map, hx]; rfl)
 obtain ⟨bs1, bs2⟩ := bit_see (bits := bits) (s := s) (o1 := .tmp 47) (o2 := .tmp 50)
 have hbit : uV bits s = true ↔ (bitN bits s).tmod 2 = 1 := by unfold uV; simp
 have hll : (yH (uV bits) F s).length ≤ 1000 := by have := (zHF (F := F) (uV bits) (i := s)).length_le; simp at this; omega
 have hcl : (uU 0 (yH (uV bits) F s)).length ≤ 1000 := by have := zXS (yH (uV bits) F s) 0; omega
 have hst := zQA (uV bits) hx
 have c1 : 0 ≤ (s : Int) ∧ (s : Int) < (l : Int) := by omega
 have keep : ¬ (x.k = 0 ∧ uV bits s = true) → (x.k ≠ 2 → ∃ q d τ1, yA Pg 22 22 (.slice p8 (yH (uV bits) F s).length c8) (.slice (some ⟨τ.next, 0, none⟩) 1 1) (τ.row (yN x) 6) = some (.slice q ((yH (uV bits) F s).length + 1) d, τ1) ∧ ∃ k', k' < k ∧ yUW σ0 F (uV bits) k' q ((yH (uV bits) F s).length + 1) d p9 (uU 0 (yH (uV bits) F s)).length c9 ((s : Int) + 1) τ1) ∧
   (x.k = 2 → ∃ q' d' τ1, yA Pg 64 64 (.slice p9 (uU 0 (yH (uV bits) F s)).length c9) (.slice (some ⟨τ.next, 0, none⟩) 1 1) (τ.row [vV (((yH (uV bits) F s).length : Nat) : Int)] 1) = some (.slice q' ((uU 0 (yH (uV bits) F s)).length + 1) d', τ1) ∧ zC Pg τ1 59 (zG a (Int.toNat (s : Int) * 6)) = some (yE x) ∧ ∃ q d τ2, yA Pg 22 22 (.slice p8 (yH (uV bits) F s).length c8) (.slice (some ⟨τ1.next, 0, none⟩) 1 1) (τ1.row (yN x) 6) = some (.slice q ((yH (uV bits) F s).length + 1) d, τ2) ∧ ∃ k', k' < k ∧ yUW σ0 F (uV bits) k' q ((yH (uV bits) F s).length + 1) d q' ((uU 0 (yH (uV bits) F s)).length + 1) d' ((s : Int) + 1) τ2) := by
  intro hn
  have hg : zDQ (uV bits) s x = false := by
   cases e : zDQ (uV bits) s x with
   | false => rfl
   | true => unfold zDQ at e; simp at e; exact absurd e hn
  rw [hg, if_neg Bool.false_ne_true] at hst
  constructor
  ·intro h2
   obtain ⟨q, d, τ1, g1, M1⟩ := M.push8 (x := x) hll
   refine ⟨q, d, τ1, g1, k - 1, by omega, s + 1, by omega, by omega, by rw [hst]; simp, by rw [hst, zNW, if_neg h2], ?_⟩
   rw [hst, zNW, if_neg h2]; exact M1
  ·intro h2
   obtain ⟨q', d', τ1, g1, M1⟩ := M.push9 (n := (yH (uV bits) F s).length) hcl
   obtain ⟨q, d, τ2, g2, M2⟩ := M1.push8 (x := x) hll
   refine ⟨q', d', τ1, g1, ld τ1 M1.N, q, d, τ2, g2, k - 1, by omega, s + 1, by omega, by omega, by rw [hst]; simp, by rw [hst, zNW, if_pos h2]; simp, ?_⟩
   rw [hst, zNW, if_pos h2]; exact M2
 by_cases h0 : x.k = 0
 ·by_cases hb : uV bits s = true
  ·have hg : zDQ (uV bits) s x = true := by unfold zDQ; rw [decide_eq_true h0, hb]; rfl
   rw [hg, if_pos rfl] at hst
   have nx : ∃ k', k' < k ∧ yUW σ0 F (uV bits) k' p8 (yH (uV bits) F s).length c8 p9 (uU 0 (yH (uV bits) F s)).length c9 ((s : Int) + 1) τ := by
    refine ⟨k - 1, by omega, s + 1, by omega, by omega, by rw [hst], by rw [hst], ?_⟩
    rw [hst]; exact M
   clear keep
   exact yPU lk bs1 bs2 nx (by omega) c1 h0 (hbit.1 hb)
  ·obtain ⟨q, d, τ1, g1, nx⟩ := (keep (fun h => hb h.2)).1 (by omega)
   clear keep
   exact yPT lk bs1 bs2 (ld τ M.N) g1 nx (by omega) c1 h0 (fun h => hb (hbit.2 h)) (by omega)
 ·by_cases h2 : x.k = 2
  ·obtain ⟨q', d', τ1, g1, g2, q, d, τ2, g3, nx⟩ := (keep (fun h => h0 h.1)).2 h2
   clear keep
   exact yPS lk g1 g2 g3 nx (by omega) c1 h0 h2
  ·obtain ⟨q, d, τ1, g1, nx⟩ := (keep (fun h => h0 h.1)).1 h2
   clear keep
   exact yPR lk (ld τ M.N) g1 nx (by omega) c1 h0 h2
end
end Go.Proofs.Ytffgfojabcbegaa

namespace Go.Proofs.Ytffgfojabcbegaa
open Go Go.Lay
set_option linter.unusedVariables false
set_option linter.unusedSimpArgs false
set_option maxRecDepth 20000
section
variable {P : Program} {σ : St}
end
theorem zXT (xs : List Rec) : (wL (xs.map yE)).all cellB = true := by
 induction xs with
 | nil => rfl
 | cons x xs ih =>
  rw [List.map_cons, show (yE x :: xs.map yE) = [yE x] ++ xs.map yE from rfl, zBS, List.all_append, ih]
  rfl
section
variable {σ : St}
theorem ready_ok {p : Option Addr} {l c : Nat} {xs : List Rec} (h : yU σ 59 p l xs) : zF Try.prog 26 [.slice p l c] σ (.bool false) σ ∨ (zF Try.prog 26 [.slice p l c] σ (.bool true) σ ∧ l ≤ 60 ∧ zAZ xs ∧ ∀ x ∈ xs, yG x = true) := by
 have k1 := ready_c (c := c) h
 by_cases hrd : l ≤ 60 ∧ zFM [xs] = 0
 rotate_left
 ·have e : (decide (l ≤ 60) && decide (zFM [xs] = 0)) = false := by
   cases e : (decide (l ≤ 60) && decide (zFM [xs] = 0)) with
   | false => rfl
   | true => simp at e; exact absurd e hrd
  rw [e] at k1
  exact .inl k1
 obtain ⟨h60, hcz⟩ := hrd
 rw [decide_eq_true h60, decide_eq_true hcz] at k1
 obtain ⟨hf, hcb⟩ := codeZ_0 hcz
 exact .inr ⟨k1, h60, zGI.1 hcb, (yFQ hf).2⟩
end
end Go.Proofs.Ytffgfojabcbegaa
