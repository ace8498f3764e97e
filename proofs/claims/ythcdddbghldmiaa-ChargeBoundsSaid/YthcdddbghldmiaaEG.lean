
import Derived.Test.YthcdddbghldmiaaCB
import Derived.Test.YthcdddbghldmiaaCM
import Derived.Test.YthcdddbghldmiaaEA
import Derived.Test.YthcdddbghldmiaaPM
import Derived.Test.YthcdddbghldmiaaXG
namespace Go.Proofs.Ythcdddbghldmiaa
open Go Go.Lay
open Try renaming prog → Pg
set_option linter.unusedVariables false
set_option linter.unusedSimpArgs false
set_option maxRecDepth 20000
theorem min3_see {a b c : Int} {σ : St} : seeOp Pg (evL [iV a, iV b, iV c]) σ (.call { callee := .builtin .min, args := ⟨tmpsTo 3⟩, argTypes := ⟨[3, 3, 3]⟩ }) = some (iV (min (min a b) c)) := by
 have e : pureVal Pg (Builtin.min_ ⟨[3, 3, 3]⟩ 0 ⟨[iV a, iV b, iV c]⟩) = some (iV (min (min a b) c)) := by
  rw [show min a b = if b < a then b else a by split <;> omega, show min (if b < a then b else a) c = if c < (if b < a then b else a) then c else (if b < a then b else a) by split <;> split <;> omega]
  simp only [Builtin.min_, List.foldlM, Builtin.min2]
  rfl
 have e2 : seeOp Pg (evL [iV a, iV b, iV c]) σ (.call { callee := .builtin .min, args := ⟨tmpsTo 3⟩, argTypes := ⟨[3, 3, 3]⟩ }) =
   match ((pureVal Pg (Builtin.min_ ⟨[3, 3, 3]⟩ 0 ⟨[iV a, iV b, iV c]⟩)).filter (rigidB RD)) with | some v => some v | none => lookOp Pg (evL [iV a, iV b, iV c]) σ (.call { callee := .builtin .min, args := ⟨tmpsTo 3⟩, argTypes := ⟨[3, 3, 3]⟩ }) := rfl
 rw [e2, e]; rfl
def GoodF (g : Gar) (F : K6 → Option Int) : Prop := ∀ (key : K6) (r : Int), F key = some r → ∀ (k : Nat) (nd : List Int), k ≤ g.ns → nd.length = 5 → key.1 = nd ++ [((g.ns - k : Nat) : Int)] → IsLeast (ChR g k nd) r
structure NdOK (nd : List Int) : Prop where
 len : nd.length = 5
 bd : ∀ i, 0 ≤ nd.getD i 0 ∧ nd.getD i 0 ≤ 1000
theorem NdOK.sum {nd : List Int} (h : NdOK nd) : nd.sum ≤ 5000 := by
 obtain ⟨a, b, c, d, e, rfl⟩ := five nd h.len
 have h0 := h.bd 0; have h1 := h.bd 1; have h2 := h.bd 2; have h3 := h.bd 3; have h4 := h.bd 4
 simp at h0 h1 h2 h3 h4
 simp only [List.sum_cons, List.sum_nil]
 omega
theorem NdOK.set {nd : List Int} {j : Nat} {v : Int} (h : NdOK nd) (hj : j < 5) (hv : 0 ≤ v ∧ v ≤ 1000) : NdOK (nd.set j v) := by
 refine ⟨by simpa using h.len, fun i => ?_⟩
 rw [getD_set (by have := h.len; omega)]
 split
 ·exact hv
 ·exact h.bd i
def key6 (nd : List Int) (h : nd.length = 5) (s : Int) : K6 := ⟨nd ++ [s], by simp [h]⟩
section
variable {σ z : St} {g : Gar} {p q : Option Addr} {c d kb : Nat} {F : K6 → Option Int}
theorem memo_call {f : FuncId} {args : List Value} {R : Int → Prop} (hM : MapF Pg z kb k6V intV F) (hG : GoodF g F)
  (h : RunsQ Pg f args z.re fun v s => Only (· = kb) z.re s ∧ ∃ r F', v = iV r ∧ MapF Pg s kb k6V intV F' ∧ GoodF g F' ∧ IsLeast R r) :
  ∃ r z' F', CallsA Pg f args z (iV r) z' ∧ Only (· = kb) z z' ∧ MapF Pg z' kb k6V intV F' ∧ GoodF g F' ∧ IsLeast R r := by
 obtain ⟨v, z', h1, h2, r, F', rfl, h3, h4, h5⟩ := mut2 (Q := fun v s => ∃ r F', v = iV r ∧ MapF Pg s kb k6V intV F' ∧ GoodF g F' ∧ IsLeast R r) (σ := z) (f := f) (args := args) (S := (· = kb)) (by
  refine h.mono ?_
  rintro v s ⟨h1, r, F', rfl, h2, h3, h4⟩
  exact ⟨h1, .inr (.inr ⟨r, F, rfl, hM, hG, h4⟩), r, F', rfl, h2, h3, h4⟩) (by
  rintro v s m ⟨r, F', rfl, h2, h3, h4⟩
  exact ⟨r, F', rfl, h2.le ⟨Nat.le_refl _, fun _ _ => rfl⟩, h3, h4⟩)
 exact ⟨r, z', F', h1, h2, h3, h4, h5⟩
def CheapAt (g : Gar) (p : Option Addr) (c : Nat) (q : Option Addr) (d kb k : Nat) : Prop := ∀ (z : St) (F : K6 → Option Int) (nd : List Int), NdOK nd → RefP z p g.ns q g.nb g → MapF Pg z kb k6V intV F → GoodF g F →
 ∃ r z' F', CallsA Pg 21 [.agg ⟨garL p g.ns c q g.nb d⟩, iV ((g.ns - k : Nat) : Int), .agg ⟨iL nd⟩, .map (some kb)] z (iV r) z' ∧ Only (· = kb) z z' ∧ MapF Pg z' kb k6V intV F' ∧ GoodF g F' ∧ IsLeast (ChR g k nd) r
theorem RefP.only {S : Nat → Prop} {z' : St} (h : RefP z p g.ns q g.nb g) (k : Only S z z') (hp : ∀ a, p = some a → ¬ S a.block) (hq : ∀ a, q = some a → ¬ S a.block) : RefP z' p g.ns q g.nb g := ⟨k.slv' h.sl hp, k.slv' h.bu hq⟩
theorem gives (hv : Valid g) {k : Nat} (hk : k + 1 ≤ g.ns) (hp : ∀ a, p = some a → a.block ≠ kb) (hq : ∀ a, q = some a → a.block ≠ kb) (ih : CheapAt g p c q d kb k) : ∀ (m : Nat), m ≤ g.nb → ∀ (z : St) (F : K6 → Option Int) (nd : List Int) (pw : Int), 0 ≤ pw → pw ≤ 1000 → NdOK nd → RefP z p g.ns q g.nb g → MapF Pg z kb k6V intV F → GoodF g F →
  ∃ r z' F', CallsA Pg 55 [.agg ⟨garL p g.ns c q g.nb d⟩, iV ((g.ns - (k + 1) : Nat) : Int), iV ((g.nb - m : Nat) : Int), iV pw, .agg ⟨iL nd⟩, .map (some kb)] z (iV r) z' ∧ Only (· = kb) z z' ∧ MapF Pg z' kb k6V intV F' ∧ GoodF g F' ∧ IsLeast (GvR g (ChR g k) (g.ns - (k + 1)) m pw nd) r := by
 have hns := hv.ns; have hnb := hv.nb
 intro m
 induction m with
 | zero =>
  intro hm z F nd pw p0 p1 hN hR hM hG
  refine memo_call hM hG ?_
  obtain ⟨y, hy⟩ : ∃ y, y = (z.re.row (garL p g.ns c q g.nb d) 2).row (iL nd) 1 := ⟨_, rfl⟩
  have N1 : New z.re y := by rw [hy]; exact (New.row _ _ _).row'
  have hle := (le0 z).trans N1.le
  have o2 : Own y (z.re.next + 1) (iL nd) 1 := by rw [hy]; exact own_new (z.re.row (garL p g.ns c q g.nb d) 2) _ _
  have hlen : (iL nd).length = 5 := by simpa using hN.len
  obtain ⟨r, y', F', c1, c2, c3, c4, c5⟩ := ih y F nd hN (hR.le hle) (hM.le hle) hG
  rw [show ((g.ns - k : Nat) : Int) = ((g.ns - (k + 1) : Nat) : Int) + 1 by omega] at c1
  have ld := o2.ldN (P := Pg) agg39 size39 (k := 0) (ds := iL nd) (by rw [List.drop_zero, List.take_of_length_le (by omega)]) hlen (by omega)
  rw [hy] at c1 ld
  refine rGive_ra ld c1 ⟨N1.only.trans' c2 (fun b _ h => .inl h), r, F', rfl, c3, c4, c5⟩
 | succ m ihm =>
  intro hm z F nd pw p0 p1 hN hR hM hG
  refine memo_call hM hG ?_
  obtain ⟨j, hj⟩ : ∃ j, j = g.nb - (m + 1) := ⟨_, rfl⟩
  have hjn : j < g.nb := by omega
  obtain ⟨s, hs⟩ : ∃ s, s = g.ns - (k + 1) := ⟨_, rfl⟩
  have hsn : s < g.ns := by omega
  rw [← hj, ← hs]
  obtain ⟨y0, hy0⟩ : ∃ y0, y0 = (z.re.row (garL p g.ns c q g.nb d) 2).row (iL nd) 1 := ⟨_, rfl⟩
  have N1 : New z.re y0 := by rw [hy0]; exact (New.row _ _ _).row'
  have hle := (le0 z).trans N1.le
  have o1 : Own y0 z.re.next (garL p g.ns c q g.nb d) 2 := by rw [hy0]; exact (own_new _ _ _).row
  have o2 : Own y0 (z.re.next + 1) (iL nd) 1 := by rw [hy0]; exact own_new (z.re.row (garL p g.ns c q g.nb d) 2) _ _
  have hlen : (iL nd).length = 5 := by simpa using hN.len
  have hkb : kb < z.next := hM.1
  have zr : z.re.next = z.next := rfl
  obtain ⟨B, hB⟩ : ∃ B, B = z.re.next := ⟨_, rfl⟩
  rw [← hB] at o1 o2
  have R0 := hR.le hle
  obtain ⟨aq, rfl, bus, hbus, ldb⟩ := slv_at R0.bu hjn
  have hBB := busB_iff (hv.b hbus)
  obtain ⟨az, rfl, sl, hsl, _, ldp0⟩ := pw_at R0.sl hsn
  have hpr := hv.pr s
  have epr : prS g s = sl.pr := prS_eq hsl
  have hndj := hN.bd j
  have hge : ∀ (i : Nat), (iL nd)[i]? = (nd[i]?).map fun x => iV x := fun i => by rw [List.getElem?_map]
  have hj5 : j < 5 := by omega
  have hndat : nd[j]? = some (nd.getD j 0) := by
   rw [List.getD_eq_getElem?_getD]
   have : j < nd.length := by have := hN.len; omega
   rw [List.getElem?_eq_getElem this]; rfl
  have hmz : mostZ g s j pw nd = if thereB bus (s : Int) then min (min pw bus.rate) (nd.getD j 0) else 0 := by unfold mostZ; rw [hbus]
  have hm0 : 0 ≤ mostZ g s j pw nd ∧ mostZ g s j pw nd ≤ 1000 ∧ mostZ g s j pw nd ≤ nd.getD j 0 ∧ mostZ g s j pw nd ≤ pw := by rw [hmz]; split <;> omega
  let R : Int → Int → Prop := fun i cc => ∃ n c' : Int, 0 ≤ n ∧ n < i ∧ GvR g (ChR g k) s m (pw - n) (nd.set j (nd.getD j 0 - n)) c' ∧ cc = c' + n * prS g s
  have loop : ∀ (mo : Int), mo = mostZ g s j pw nd → rGive_L1 (s : Int) (j : Int) pw kb B (B + 1) mo (-1) 0 y0 (fun best τ => Only (· = kb) z.re τ ∧ ∃ F', MapF Pg τ kb k6V intV F' ∧ GoodF g F' ∧ IsLeast (GvR g (ChR g k) s (m + 1) pw nd) best) := by
   rintro mo rfl
   refine rGive_loop1 (Inv := fun kk best i τ => ∃ F', 0 ≤ i ∧ i ≤ mostZ g s j pw nd + 1 ∧ kk = (mostZ g s j pw nd + 1 - i).toNat ∧ Only (· = kb) z.re τ ∧ Own τ B (garL (some az) g.ns c (some aq) g.nb d) 2 ∧ Own τ (B + 1) (iL nd) 1 ∧ MapF Pg τ kb k6V intV F' ∧ GoodF g F' ∧ IsLeast (R i) best) ?_ (mostZ g s j pw nd + 1 - 0).toNat _ _ _
    ⟨F, Int.le_refl _, by omega, rfl, N1.only, o1, o2, hM.le hle, hG, .inl ⟨rfl, fun cc ⟨n, c', h1, h2, _⟩ => by omega⟩⟩
   rintro kk best i τ ⟨F', h0, h1, rfl, h2, w1, w2, h3, h4, h5⟩
   by_cases hi : i ≤ mostZ g s j pw nd
   rotate_left
   ·refine rGive_s1e ⟨h2, F', h3, h4, h5.congr (fun cc => ?_)⟩
    constructor
    ·rintro ⟨n, c', a1, a2, a3, a4⟩
     exact ⟨n, c', a1, by rw [← hj]; omega, by rw [← hj]; exact a3, a4⟩
    ·rintro ⟨n, c', a1, a2, a3, a4⟩
     rw [← hj] at a2 a3
     exact ⟨n, c', a1, by omega, a3, a4⟩
   have tn := h2.next
   have w2l := w2.lt
   obtain ⟨y1, hy1⟩ : ∃ y1, y1 = (τ.row (ints5 0 0 0 0 0) 1).own τ.next (iL nd) 1 := ⟨_, rfl⟩
   obtain ⟨y2, hy2⟩ : ∃ y2, y2 = y1.own τ.next (iL (nd.set j (nd.getD j 0 - i))) 1 := ⟨_, rfl⟩
   have ox : Own y1 τ.next (iL nd) 1 := by rw [hy1]; exact (own_new τ (ints5 0 0 0 0 0) 1).put
   have n1 : New τ y1 := by rw [hy1]; exact (New.row _ _ _).own (Nat.le_refl _)
   have n2 : New τ y2 := by rw [hy2]; exact n1.own (Nat.le_refl _)
   have ox2 : Own y2 τ.next (iL (nd.set j (nd.getD j 0 - i))) 1 := by rw [hy2]; exact ox.put
   have st1 : effOp Pg (evL [.pointer (some ⟨τ.next, 0, none⟩), .agg ⟨iL nd⟩]) (τ.row (ints5 0 0 0 0 0) 1) (.store 39 (.tmp 0) (.tmp 1)) = some (undef, y1) := by
    rw [hy1]
    refine (own_new τ (ints5 0 0 0 0 0) 1).store (k := 0) (t := 39) (v := .agg ⟨iL nd⟩) (vs := iL nd) rfl (by rw [hlen]; exact size39) ?_ (by rw [hlen]; exact Nat.le_refl _) ?_
    ·simp only [List.all_eq_true, List.mem_map]; rintro v ⟨x, _, rfl⟩; rfl
    ·rw [hlen]; simp
   have l3 : loadA Pg y1 3 ⟨τ.next, 0 + Int.toNat (j : Int) * 1, none⟩ = some (iV (nd.getD j 0)) := ox.ldI (t := 3) agg3 (by rw [hge, hndat]; rfl)
   have st2 : effOp Pg (evL [.pointer (some ⟨τ.next, 0 + Int.toNat (j : Int) * 1, none⟩), iV (nd.getD j 0 - i)]) y1 (.store 3 (.tmp 0) (.tmp 1)) = some (undef, y2) := by
    have := ox.stI (P := Pg) (t := 3) (v := iV (nd.getD j 0 - i)) (i := j) rfl size3 rfl (by omega)
    rw [hy2, show iL (nd.set j (nd.getD j 0 - i)) = (iL nd).set j (iV (nd.getD j 0 - i)) by simp [iL, List.map_set]]
    exact this
   have hlen2 : (iL (nd.set j (nd.getD j 0 - i))).length = 5 := by simpa using hN.len
   have l6 := ox2.ldN (P := Pg) agg39 size39 (k := 0) (ds := iL (nd.set j (nd.getD j 0 - i))) (by rw [List.drop_zero, List.take_of_length_le (by omega)]) hlen2 (by omega)
   have l1 := w2.ldN (P := Pg) agg39 size39 (k := 0) (ds := iL nd) (by rw [List.drop_zero, List.take_of_length_le (by omega)]) hlen (by omega)
   have l5 := (w1.le n2.le).ldN (P := Pg) agg25 size25 (k := 0) (ds := garL (some az) g.ns c (some aq) g.nb d) rfl rfl (by simp)
   have hN2 : NdOK (nd.set j (nd.getD j 0 - i)) := hN.set hj5 (by omega)
   have Rτ : RefP y2 (some az) g.ns (some aq) g.nb g := ((hR.le (le0 z)).only h2 (fun a e => hp a e) (fun a e => hq a e)).le n2.le
   obtain ⟨r', y3, F2, c1, c2, c3, c4, c5⟩ := ihm (by omega) y2 F' (nd.set j (nd.getD j 0 - i)) (pw - i) (by omega) (by omega) hN2 Rτ (h3.le n2.le) h4
   rw [← hs] at c1 c5
   rw [show ((g.nb - m : Nat) : Int) = (j : Int) + 1 by omega] at c1
   have k1 : Only (· = kb) τ y3 := n2.only.trans' c2 (fun b _ h => .inl h)
   have w1' := k1.own' w1 (by omega)
   have w2' := k1.own' w2 (by omega)
   have K := h2.trans' k1 (fun b _ h => .inl h)
   have l8 := w1'.ld (P := Pg) rfl agg22 (k := 0) (v := .slice (some az) g.ns c) rfl
   obtain ⟨_, e, sl', hsl', _, l9⟩ := pw_at ((hR.le (le0 z)).only K (fun a e => hp a e) (fun a e => hq a e)).sl hsn
   cases e
   rw [hsl] at hsl'; cases hsl'
   have hmul := mul_bd (a := i) (b := sl.pr) h0 (by omega) (by rw [← epr]; exact hpr.1) (by rw [← epr]; exact hpr.2)
   have hrb : r' = -1 ∨ (0 ≤ r' ∧ r' ≤ 5000000) := by
    rcases c5 with ⟨h, _⟩ | ⟨_, h, _⟩
    ·exact .inl h
    ·have := GvR.bd hv hnb (fun nd c hl h => ChR.bd hv hnb hl h) (by omega) hN2.len h
     have := hN2.sum
     exact .inr (by omega)
   have hbb : best = -1 ∨ (0 ≤ best ∧ best ≤ 6000000) := by
    rcases h5 with ⟨h, _⟩ | ⟨h, ⟨n, c', a1, a2, a3, a4⟩, _⟩
    ·exact .inl h
    ·right
     have hN3 : NdOK (nd.set j (nd.getD j 0 - n)) := hN.set hj5 (by omega)
     have b1 := GvR.bd hv hnb (fun nd c hl h => ChR.bd hv hnb hl h) (by omega) hN3.len a3
     have b2 := hN3.sum
     have b3 := mul_bd (a := n) (b := prS g s) a1 (by omega) hpr.1 hpr.2
     omega
   have hstep : ∀ cc, (R i cc ∨ ∃ c', GvR g (ChR g k) s m (pw - i) (nd.set j (nd.getD j 0 - i)) c' ∧ cc = c' + i * sl.pr) ↔ R (i + 1) cc := fun cc => by
    constructor
    ·rintro (⟨n, c', a1, a2, a3, a4⟩ | ⟨c', a3, a4⟩)
     ·exact ⟨n, c', a1, by omega, a3, a4⟩
     ·exact ⟨i, c', h0, by omega, a3, by rw [epr]; exact a4⟩
    ·rintro ⟨n, c', a1, a2, a3, a4⟩
     by_cases e : n = i
     ·subst e; exact .inr ⟨c', a3, by rw [← epr]; exact a4⟩
     ·exact .inl ⟨n, c', a1, by omega, a3, a4⟩
   rw [hy2] at c1 l5 l6 st2
   have fin : ∀ best', IsLeast (fun cc => R i cc ∨ ∃ c', GvR g (ChR g k) s m (pw - i) (nd.set j (nd.getD j 0 - i)) c' ∧ cc = c' + i * sl.pr) best' → ∃ k', k' < (mostZ g s j pw nd + 1 - i).toNat ∧ ∃ F', 0 ≤ i + 1 ∧ i + 1 ≤ mostZ g s j pw nd + 1 ∧ k' = (mostZ g s j pw nd + 1 - (i + 1)).toNat ∧ Only (· = kb) z.re y3 ∧ Own y3 B (garL (some az) g.ns c (some aq) g.nb d) 2 ∧ Own y3 (B + 1) (iL nd) 1 ∧ MapF Pg y3 kb k6V intV F' ∧ GoodF g F' ∧ IsLeast (R (i + 1)) best' :=
    fun best' h => ⟨_, by omega, F2, by omega, by omega, rfl, K, w1', w2', c3, c4, h.congr hstep⟩
   by_cases hr : 0 ≤ r'
   rotate_left
   ·exact rGive_s1d l1 st1 l3 st2 l5 l6 c1 (fin best (h5.skip c5 hr))
   by_cases hb : best < 0
   ·exact rGive_s1a l1 st1 l3 st2 l5 l6 c1 l8 l9 (fin _ (h5.take c5 hr hmul.1 (.inl hb)))
   by_cases hb2 : r' + i * sl.pr < best
   ·exact rGive_s1b l1 st1 l3 st2 l5 l6 c1 l8 l9 (fin _ (h5.take c5 hr hmul.1 (.inr hb2)))
   ·exact rGive_s1c l1 st1 l3 st2 l5 l6 c1 l8 l9 (fin best (h5.keep c5 hr hb hb2))
  have tail : ∀ (mo best : Int) (τ : St), (Only (· = kb) z.re τ ∧ ∃ F', MapF Pg τ kb k6V intV F' ∧ GoodF g F' ∧ IsLeast (GvR g (ChR g k) s (m + 1) pw nd) best) → rGive_K1_0 (s : Int) (j : Int) pw kb B (B + 1) mo best τ
    (fun v s_1 => Only (· = kb) z.re s_1 ∧ ∃ r F', v = iV r ∧ MapF Pg s_1 kb k6V intV F' ∧ GoodF g F' ∧ IsLeast (GvR g (ChR g k) s (m + 1) pw nd) r) := by
   rintro mo best τ ⟨h1, F', h2, h3, h4⟩
   exact rGive_t1x0a ⟨h1, best, F', rfl, h2, h3, h4⟩
  have ct := rThere_c (σ := y0) (b := bus) (s := (s : Int))
  have ldr : loadA Pg y0 3 (aadd aq (Int.toNat (j : Int) * 9 + 2)) = some (iV bus.rate) := slv_fld R0.bu (by rw [List.getElem?_map, hbus]; rfl) (k := 2) rfl agg3
  have ldn : loadA Pg y0 3 ⟨B + 1, 0 + Int.toNat (j : Int) * 1, none⟩ = some (iV (nd.getD j 0)) := o2.ldI (t := 3) agg3 (by rw [hge, hndat]; rfl)
  cases ht : thereB bus (s : Int) with
  | true =>
   rw [ht] at ct hmz
   have L := loop _ (by rw [hmz]; first | done | rfl)
   rw [hB, hy0] at ldn L
   rw [hy0] at ldb ct ldr
   rw [hB] at tail
   exact rGive_rb ldb ct ldr ldn min3_see L (fun best τ h => tail _ best τ h)
  | false =>
   rw [ht] at ct hmz
   have L := loop 0 (by rw [hmz]; first | done | rfl)
   rw [hB, hy0] at L
   rw [hy0] at ldb ct
   rw [hB] at tail
   exact rGive_rc ldb ct L (fun best τ h => tail _ best τ h)
theorem cheap (hv : Valid g) (hp : ∀ a, p = some a → a.block ≠ kb) (hq : ∀ a, q = some a → a.block ≠ kb) : ∀ (k : Nat), k ≤ g.ns → CheapAt g p c q d kb k := by
 have hns := hv.ns; have hnb := hv.nb
 intro k
 induction k with
 | zero =>
  intro hk z F nd hN hR hM hG
  refine memo_call hM hG ?_
  obtain ⟨y, hy⟩ : ∃ y, y = (z.re.row (garL p g.ns c q g.nb d) 2).row (iL nd) 1 := ⟨_, rfl⟩
  have N1 : New z.re y := by rw [hy]; exact (New.row _ _ _).row'
  have hle := (le0 z).trans N1.le
  have o2 : Own y (z.re.next + 1) (iL nd) 1 := by rw [hy]; exact own_new (z.re.row (garL p g.ns c q g.nb d) 2) _ _
  have hlen : (iL nd).length = 5 := by simpa using hN.len
  have ld := o2.ldN (P := Pg) agg39 size39 (k := 0) (ds := iL nd) (by rw [List.drop_zero, List.take_of_length_le (by omega)]) hlen (by omega)
  have hM' := hM.le hle
  rw [hy] at ld hM' N1
  have eq := arr5_eq (a := nd) (b := [0, 0, 0, 0, 0]) hN.len rfl (o1 := .tmp 18) (o2 := .tmp 19)
  by_cases h0 : nd = [0, 0, 0, 0, 0]
  ·rw [decide_eq_true h0] at eq
   exact rCheapest_ra ld eq ⟨N1.only, 0, F, rfl, hM', hG, .inr ⟨Int.le_refl _, ⟨h0, rfl⟩, fun c hc => by rw [hc.2]; exact Int.le_refl _⟩⟩
  ·rw [decide_eq_false h0] at eq
   exact rCheapest_rb ld eq ⟨N1.only, -1, F, rfl, hM', hG, .inl ⟨rfl, fun c hc => h0 hc.1⟩⟩
 | succ k ih =>
  intro hk z F nd hN hR hM hG
  refine memo_call hM hG ?_
  have ih := ih (by omega)
  obtain ⟨s, hs⟩ : ∃ s, s = g.ns - (k + 1) := ⟨_, rfl⟩
  have hsn : s < g.ns := by omega
  obtain ⟨n1, n2, n3, n4, n5, hnd⟩ := five nd hN.len
  obtain ⟨y1, hy1⟩ : ∃ y1, y1 = (z.re.row (garL p g.ns c q g.nb d) 2).row (iL nd) 1 := ⟨_, rfl⟩
  obtain ⟨y, hy⟩ : ∃ y, y = (y1.row (ints6 0 0 0 0 0 0) 1).own (z.re.next + 2) (ints6 n1 n2 n3 n4 n5 (s : Int)) 1 := ⟨_, rfl⟩
  have nx1 : y1.next = z.re.next + 2 := by rw [hy1]; rfl
  have N1 : New z.re y1 := by rw [hy1]; exact (New.row _ _ _).row'
  have N2 : New y1 y := by rw [hy]; exact (New.row _ _ _).own (by omega)
  have N3 := N1.trans N2
  have hle := (le0 z).trans N3.le
  have o2 : Own y1 (z.re.next + 1) (iL nd) 1 := by rw [hy1]; exact own_new (z.re.row (garL p g.ns c q g.nb d) 2) _ _
  have o3 : Own y (z.re.next + 2) (ints6 n1 n2 n3 n4 n5 (s : Int)) 1 := by
   have := (own_new y1 (ints6 0 0 0 0 0 0) 1).put (ds := ints6 n1 n2 n3 n4 n5 (s : Int))
   rw [nx1] at this
   rw [hy]; exact this
  have hM' := hM.le hle
  have R1 := hR.le hle
  have hkb : kb < z.next := hM.1
  have zr : z.re.next = z.next := rfl
  have ge : ∀ i x, nd[i]? = some x → loadA Pg y1 3 ⟨z.re.next + 1, i, none⟩ = some (iV x) := fun i x h => o2.ld rfl agg3 (by rw [List.getElem?_map, h]; rfl)
  have l1 := ge 0 n1 (by rw [hnd]; rfl)
  have l2 := ge 1 n2 (by rw [hnd]; rfl)
  have l3 := ge 2 n3 (by rw [hnd]; rfl)
  have l4 := ge 3 n4 (by rw [hnd]; rfl)
  have l5 := ge 4 n5 (by rw [hnd]; rfl)
  have hkey : k6V (key6 nd hN.len (s : Int)) = .agg ⟨ints6 n1 n2 n3 n4 n5 (s : Int)⟩ := by subst hnd; rfl
  rw [← hs]
  cases hF : F (key6 nd hN.len (s : Int)) with
  | some r =>
   have lk := hM'.look1 keyK mapK zero3 hF
   rw [hkey, hy, hy1] at lk
   rw [hy1] at l1 l2 l3 l4 l5
   rw [hy, hy1] at hM' N3
   refine rCheapest_rc l1 l2 l3 l4 l5 lk ⟨N3.only, r, F, rfl, hM', hG, hG _ _ hF (k + 1) nd hk hN.len ?_⟩
   rw [← hs]; rfl
  | none =>
   have lk := hM'.look0 keyK mapK zero3 hF
   obtain ⟨az, rfl, sl, hsl, ldw, _⟩ := pw_at R1.sl hsn
   have epw : pwS g s = sl.pw := pwS_eq hsl
   have hpw := hv.pw s
   obtain ⟨r, y4, F', c1, c2, c3, c4, c5⟩ := gives hv hk hp hq ih g.nb (Nat.le_refl _) y F nd sl.pw (by rw [← epw]; exact hpw.1) (by rw [← epw]; exact hpw.2) hN R1 hM' hG
   rw [← hs, Nat.sub_self] at c1
   have hlen : (iL nd).length = 5 := by simpa using hN.len
   have l8 := (o2.le N2.le).ldN (P := Pg) agg39 size39 (k := 0) (ds := iL nd) (by rw [List.drop_zero, List.take_of_length_le (by omega)]) hlen (by omega)
   have o4 := c2.own' o3 (by omega)
   have l10 := o4.ldN (P := Pg) agg112 size112 (k := 0) (ds := ints6 n1 n2 n3 n4 n5 (s : Int)) rfl rfl (by simp)
   obtain ⟨es, st, mB⟩ := c3.put keyK mapK (key6 nd hN.len (s : Int)) r
   rw [hkey] at st lk
   rw [hy, hy1] at lk ldw l8 c1
   rw [hy1] at l1 l2 l3 l4 l5
   refine rCheapest_rd l1 l2 l3 l4 l5 lk ldw l8 c1 l10 st ⟨(N3.only.trans' c2 (fun b _ h => .inl h)).trans' (Only.put (S := (· = kb)) (.inr rfl)) (fun b _ h => .inl h), r, _, rfl, mB, ?_, ?_⟩
   ·intro key r' hk' k2 nd2 h1 h2 h3
    dsimp only at hk'
    by_cases e : key = key6 nd hN.len (s : Int)
    ·rw [if_pos e] at hk'
     cases hk'
     subst e
     have h3 : nd ++ [(s : Int)] = nd2 ++ [((g.ns - k2 : Nat) : Int)] := h3
     obtain ⟨e1, e2⟩ := List.append_inj h3 (by rw [hN.len, h2])
     subst e1
     have e2 : (s : Int) = ((g.ns - k2 : Nat) : Int) := by simpa using e2
     have : k2 = k + 1 := by omega
     subst this
     have c5' := c5
     rw [← epw, hs] at c5'
     exact c5'
    ·rw [if_neg e] at hk'
     exact c4 key r' hk' k2 nd2 h1 h2 h3
   ·rw [← epw, hs] at c5; exact c5
end
end Go.Proofs.Ythcdddbghldmiaa
