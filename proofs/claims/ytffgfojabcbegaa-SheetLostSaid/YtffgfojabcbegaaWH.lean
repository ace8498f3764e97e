
import Derived.Test.YtffgfojabcbegaaWG
import Derived.Test.YtffgfojabcbegaaXQ
namespace Go.Proofs.Ytffgfojabcbegaa
open Go Go.Lay
open Try renaming prog → Pg
set_option linter.unusedVariables false
set_option linter.unusedSimpArgs false
set_option maxRecDepth 20000
theorem shrB {x z : Int} {o1 o2 : Operand} (hz : 0 ≤ z) : uM Pg .shr 55 o1 o2 (.int .u64 x) (.int .u64 z) = some (.int .u64 (x.fdiv (2 ^ (min z.toNat 64)))) := by
 have e : Op.shift .shr .u64 x .u64 z = pure (.int .u64 (x.fdiv (2 ^ (min z.toNat 64)))) := by unfold Op.shift; rw [if_neg (by omega)]; rfl
 show ((yM Pg (do eqGuard .shr 55 o1 o2 (.int .u64 x) (.int .u64 z); Op.shift .shr .u64 x .u64 z)).filter (zQ RD)) = _
 rw [e]; rfl
theorem wrapN {j : Nat} (hj : j ≤ 1000) : uN .u64 (j : Int) = j := by rw [zQO]; omega
theorem tmod64 (s : Nat) : Int.tmod (s : Int) 64 = ((s % 64 : Nat) : Int) := by rw [Int.tmod_eq_emod_of_nonneg (by omega)]; rfl
def bitN (bits : Int) (i : Nat) : Int := bits.fdiv (2 ^ (min ((i % 64 : Nat) : Int).toNat 64))
def xE (bits : Int) (i : Nat) : Bool := decide ((bitN bits i).tmod 2 = 1)
theorem bit_see {bits : Int} {s : Nat} {o1 o2 : Operand} : uN .u64 (Int.tmod (s : Int) 64) = ((s % 64 : Nat) : Int) ∧ uM Pg .shr 55 o1 o2 (.int .u64 bits) (.int .u64 ((s % 64 : Nat) : Int)) = some (.int .u64 (bitN bits s)) := by
 rw [tmod64]
 exact ⟨wrapN (by omega), shrB (by omega)⟩
def zRO (F : List Rec) (G : Nat → Bool) : Nat → Lk
 | 0 => ⟨0, 0, 0, 0, 0⟩
 | s + 1 => ⟨(F.getD s default).m, (zCK (yC G F (s + 1)) (F.getD s default).m).s, 0, (yI G F (F.getD s default).m (s + 1)).1, (yI G F (F.getD s default).m (s + 1)).2⟩
def wN (F : List Rec) (G : Nat → Bool) (s : Nat) (x : Rec) : Lk := ⟨x.m, (zCK (yC G F s) x.m).s, 0, (yI G F x.m s).1, (yI G F x.m s).2⟩
theorem nowOf_s {F : List Rec} {G : Nat → Bool} {s : Nat} {x : Rec} (h : F[s]? = some x) : zRO F G (s + 1) = wN F G (s + 1) x := by
 show Lk.mk (F.getD s default).m (zCK (yC G F (s + 1)) (F.getD s default).m).s 0 (yI G F (F.getD s default).m (s + 1)).1 (yI G F (F.getD s default).m (s + 1)).2 = _
 rw [yN h]; rfl
theorem yJC {F : List Rec} {G : Nat → Bool} (hs : Srt F) {s : Nat} {x : Rec} (hx : F[s]? = some x) (h : s = 0 ∨ (F.getD (s - 1) default).m ≠ x.m) : wN F G s x = ⟨x.m, 0, 0, 0, 0⟩ := by
 have hn : ∀ j y, j < s → F[j]? = some y → y.m ≠ x.m := fun j y hj hy e => by
  rcases h with rfl | h
  ·omega
  have hlt := (List.getElem?_eq_some_iff.1 hx).1
  have hp : F[s - 1]? = some (F[s - 1]'(by omega)) := by simp
  rw [yN hp] at h
  have k1 := zES hs hp hx (by omega)
  have k2 : y.m ≤ (F[s - 1]'(by omega)).m := by
   by_cases e2 : j = s - 1
   ·rw [e2, hp] at hy; rw [← Option.some.inj hy]; exact Int.le_refl _
   ·have := zES hs hy hp (by omega)
    unfold xJ at this; omega
  unfold xJ at k1; omega
 obtain ⟨h1, h2⟩ := zZL G hn
 unfold wN
 rw [h1, h2]; rfl
theorem base_old {F : List Rec} {G : Nat → Bool} {s : Nat} {x : Rec} (h0 : s ≠ 0) (h : (F.getD (s - 1) default).m = x.m) : wN F G s x = zRO F G s := by
 cases s with
 | zero => exact absurd rfl h0
 | succ s =>
  have h : (F.getD s default).m = x.m := h
  show _ = Lk.mk (F.getD s default).m (zCK (yC G F (s + 1)) (F.getD s default).m).s 0 (yI G F (F.getD s default).m (s + 1)).1 (yI G F (F.getD s default).m (s + 1)).2
  rw [h]; rfl
section
variable {σ8 τ : St} {B z : Nat} {now : Lk} {lf : List Rec} {wn : List Lk} {p8 p9 : Option Addr} {c8 c9 : Nat} {x : Rec}
structure LoS (σ8 τ : St) (B : Nat) (now : Lk) (lf : List Rec) (p8 : Option Addr) (c8 : Nat) (wn : List Lk) (p9 : Option Addr) (c9 : Nat) : Prop where
 N : New σ8 τ
 ow : Own τ B (lkL now) 5
 gl : Gr Pg τ σ8.next 59 6 p8 lf.length c8 (lf.map yP)
 gw : Gr Pg τ σ8.next 57 5 p9 wn.length c9 (wn.map lkV)
 b8 : ¬ AtP p8 B
 b9 : ¬ AtP p9 B
 d : ∀ b, AtP p8 b → ¬ AtP p9 b
 hB : σ8.next ≤ B
theorem LoS.le {τ' : St} (h : LoS σ8 τ B now lf p8 c8 wn p9 c9) (k : New τ τ') : LoS σ8 τ' B now lf p8 c8 wn p9 c9 := ⟨h.N.trans k, h.ow.le k.le, h.gl.le k.le, h.gw.le k.le, h.b8, h.b9, h.d, h.hB⟩
theorem LoS.setNow (h : LoS σ8 τ B now lf p8 c8 wn p9 c9) (n' : Lk) : LoS σ8 (τ.own B (lkL n') 5) B n' lf p8 c8 wn p9 c9 :=
 ⟨h.N.own h.hB, h.ow.put, h.gl.only (Only.own (S := (· = B)) (.inr rfl)) (fun b hb e => h.b8 (e ▸ hb)), h.gw.only (Only.own (S := (· = B)) (.inr rfl)) (fun b hb e => h.b9 (e ▸ hb)), h.b8, h.b9, h.d, h.hB⟩
theorem LoS.st (h : LoS σ8 τ B now lf p8 c8 wn p9 c9) (n' : Lk) {k t : Nat} {v : Value} {vs : List Value} (hv : v.cells.toList = vs) (hs : xI Pg t = some vs.length) (hc : vs.all cellB = true) (hk : k + vs.length ≤ 5) (hd : (lkL now).take k ++ (vs ++ (lkL now).drop (k + vs.length)) = lkL n') :
  zL Pg (evL [.pointer (some ⟨B, k, none⟩), v]) τ (.store t (.tmp 0) (.tmp 1)) = some (undef, τ.own B (lkL n') 5) := h.ow.store (P := Pg) hv hs hc (by simpa using hk) hd
theorem LoS.gone (h : LoS σ8 τ B now lf p8 c8 wn p9 c9) (w : Own τ z (yH x) 6) (hz : z ≠ B) : ∃ τ1 τ2, zD Pg τ 3 ⟨B, 3, none⟩ = some (zAQ now.sales) ∧ zL Pg (evL [.pointer (some ⟨B, 3, none⟩), zAQ (now.sales + 1)]) τ (.store 3 (.tmp 0) (.tmp 1)) = some (undef, τ1) ∧
  zD Pg τ1 3 ⟨B, 4, none⟩ = some (zAQ now.coins) ∧ zD Pg τ1 3 ⟨z, 5, none⟩ = some (zAQ x.b) ∧ zL Pg (evL [.pointer (some ⟨B, 4, none⟩), zAQ (now.coins + x.b)]) τ1 (.store 3 (.tmp 0) (.tmp 1)) = some (undef, τ2) ∧ LoS σ8 τ2 B { now with sales := now.sales + 1, coins := now.coins + x.b } lf p8 c8 wn p9 c9 := by
 have h1 := h.setNow { now with sales := now.sales + 1 }
 have w1 := w.own (ds := lkL { now with sales := now.sales + 1 }) (m := 5) hz
 refine ⟨_, _, ?_, h.st { now with sales := now.sales + 1 } rfl zQQ rfl (Nat.le_of_ble_eq_true rfl) rfl, ?_, ?_, h1.st { now with sales := now.sales + 1, coins := now.coins + x.b } rfl zQQ rfl (Nat.le_of_ble_eq_true rfl) rfl, h1.setNow _⟩
 ·simpa [zJ] using h.ow.rw.load1 (P := Pg) (t := 3) zP (k := 3) rfl
 ·simpa [zJ] using h1.ow.rw.load1 (P := Pg) (t := 3) zP (k := 4) rfl
 ·simpa [zJ] using w1.rw.load1 (P := Pg) (t := 3) zP (k := 5) rfl
theorem LoS.keep (h : LoS σ8 τ B now lf p8 c8 wn p9 c9) (w : Own τ z (yH x) 6) (hz8 : ¬ AtP p8 z) (hz9 : ¬ AtP p9 z) (hl : lf.length ≤ 1000) : ∃ q d τ1, zZ Pg 22 22 (.slice p8 lf.length c8) (.slice (some ⟨τ.next, 0, none⟩) 1 1) (τ.row (yH x) 6) = some (.slice q (lf.length + 1) d, τ1) ∧ LoS σ8 τ1 B now (lf ++ [x]) q d wn p9 c9 ∧ Own τ1 z (yH x) 6 ∧ ¬ AtP p9 z := by
 obtain ⟨q, d, τ1, g1, g2, g3, g4⟩ := yAC (yP x) zWS h.gl (Le.refl _) (zIO _) (by omega) h.N.nx (e := rfl) (hc := rfl)
 have hlt := h.ow.lt
 refine ⟨q, d, τ1, g1, ⟨(h.N.row').of_only g3 (fun b hb => (h.gl.bd hb).1), g3.own' h.ow.row h.b8, ?_, (h.gw.le (Le.row _ _ _)).only g3 (fun b hb e => h.d b e hb), fun hb => ?_, h.b9, fun b hb hb9 => ?_, h.hB⟩, g3.own' w.row hz8, hz9⟩
 ·rw [List.length_append, List.map_append]; exact g2
 ·rcases g4 B hb with e | e
  ·exact h.b8 e
  ·omega
 ·rcases g4 b hb with e | e
  ·exact h.d b e hb9
  ·have := (h.gw.bd hb9).2; omega
theorem LoS.told (h : LoS σ8 τ B now lf p8 c8 wn p9 c9) (w : Own τ z (yH x) 6) (hz9 : ¬ AtP p9 z) (hl : wn.length ≤ 1000) : ∃ q d τ1, zZ Pg 39 39 (.slice p9 wn.length c9) (.slice (some ⟨τ.next, 0, none⟩) 1 1) (τ.row (lkL now) 5) = some (.slice q (wn.length + 1) d, τ1) ∧ LoS σ8 τ1 B now lf p8 c8 (wn ++ [now]) q d ∧ Own τ1 z (yH x) 6 := by
 obtain ⟨q, d, τ1, g1, g2, g3, g4⟩ := yAC (lkV now) yOT h.gw (Le.refl _) (elOk_rlk _) (by omega) h.N.nx (e := rfl) (hc := rfl)
 have hlt := h.ow.lt
 refine ⟨q, d, τ1, g1, ⟨(h.N.row').of_only g3 (fun b hb => (h.gw.bd hb).1), g3.own' h.ow.row h.b9, (h.gl.le (Le.row _ _ _)).only g3 (fun b hb e => h.d b hb e), ?_, h.b8, fun hb => ?_, fun b hb hb9 => ?_, h.hB⟩, g3.own' w.row hz9⟩
 ·rw [List.length_append, List.map_append]; exact g2
 ·rcases g4 B hb with e | e
  ·exact h.b9 e
  ·omega
 ·rcases g4 b hb9 with e | e
  ·exact h.d b hb e
  ·have := (h.gl.bd hb).2; omega
theorem LoS.close (h : LoS σ8 τ B now lf p8 c8 wn p9 c9) (w : Own τ z (yH x) 6) (hz : z ≠ B) (hz9 : ¬ AtP p9 z) (hl : wn.length ≤ 1000) : ∃ τ1, zL Pg (evL [.pointer (some ⟨B, 2, none⟩), zAQ x.s]) τ (.store 3 (.tmp 0) (.tmp 1)) = some (undef, τ1) ∧ zD Pg τ1 3 ⟨B, 3, none⟩ = some (zAQ now.sales) ∧
  zD Pg τ1 57 ⟨B, 0, none⟩ = some (lkV { now with t := x.s }) ∧
  (zD Pg τ1 3 ⟨z, 0, none⟩ = some (zAQ x.m) ∧ zD Pg τ1 3 ⟨z, 1, none⟩ = some (zAQ x.s) ∧ ∃ τ3, zL Pg (evL [.pointer (some ⟨B, 0, none⟩), .agg ⟨zI x.m x.s 0 0 0⟩]) τ1 (.store 57 (.tmp 0) (.tmp 1)) = some (undef, τ3) ∧ LoS σ8 τ3 B ⟨x.m, x.s, 0, 0, 0⟩ lf p8 c8 wn p9 c9) ∧
  ∃ q d τ2, zZ Pg 39 39 (.slice p9 wn.length c9) (.slice (some ⟨τ1.next, 0, none⟩) 1 1) (τ1.row (lkL { now with t := x.s }) 5) = some (.slice q (wn.length + 1) d, τ2) ∧
  zD Pg τ2 3 ⟨z, 0, none⟩ = some (zAQ x.m) ∧ zD Pg τ2 3 ⟨z, 1, none⟩ = some (zAQ x.s) ∧ ∃ τ3, zL Pg (evL [.pointer (some ⟨B, 0, none⟩), .agg ⟨zI x.m x.s 0 0 0⟩]) τ2 (.store 57 (.tmp 0) (.tmp 1)) = some (undef, τ3) ∧ LoS σ8 τ3 B ⟨x.m, x.s, 0, 0, 0⟩ lf p8 c8 (wn ++ [{ now with t := x.s }]) q d := by
 have h1 := h.setNow { now with t := x.s }
 have w1 := w.own (ds := lkL { now with t := x.s }) (m := 5) hz
 obtain ⟨q, d, τ2, g1, g2, w2⟩ := h1.told w1 hz9 hl
 refine ⟨_, h.st { now with t := x.s } rfl zQQ rfl (Nat.le_of_ble_eq_true rfl) rfl, ?_, ?_, ⟨?_, ?_, _, h1.st ⟨x.m, x.s, 0, 0, 0⟩ rfl zKO rfl (Nat.le_of_ble_eq_true rfl) rfl, h1.setNow _⟩, q, d, τ2, g1, ?_, ?_, _, g2.st ⟨x.m, x.s, 0, 0, 0⟩ rfl zKO rfl (Nat.le_of_ble_eq_true rfl) rfl, g2.setNow _⟩
 ·simpa [zJ] using h1.ow.rw.load1 (P := Pg) (t := 3) zP (k := 3) rfl
 ·simpa [zJ] using h1.ow.rw.loadN (P := Pg) (t := 57) agg57 zKO (k := 0) (ds := lkL { now with t := x.s }) rfl rfl (by simp)
 ·simpa [zJ] using w1.rw.load1 (P := Pg) (t := 3) zP (k := 0) rfl
 ·simpa [zJ] using w1.rw.load1 (P := Pg) (t := 3) zP (k := 1) rfl
 ·simpa [zJ] using w2.rw.load1 (P := Pg) (t := 3) zP (k := 0) rfl
 ·simpa [zJ] using w2.rw.load1 (P := Pg) (t := 3) zP (k := 1) rfl
end
end Go.Proofs.Ytffgfojabcbegaa
