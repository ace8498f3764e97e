import Derived.Test.YtffgfojabcbegaaWC
import Derived.Test.YtffgfojabcbegaaUS
import Derived.Test.YtffgfojabcbegaaVG
import Derived.Test.YtffgfojabcbegaaTy
import Derived.Test.YtffgfojabcbegaaVD
import Derived.Test.YtffgfojabcbegaaWB

namespace Go.Proofs.Ytffgfojabcbegaa
open Go Go.Lay
open Try renaming prog → Pg
set_option linter.unusedVariables false
set_option linter.unusedSimpArgs false
set_option maxRecDepth 20000
def zLD (f : Nat → Rec → Rec) (L : List Rec) (s : Nat) : List Rec := L.mapIdx fun j r => if j < s then f j r else r
section
variable {f : Nat → Rec → Rec} {L : List Rec}
theorem zIL {s j : Nat} : (zLD f L s)[j]? = (L[j]?).map fun r => if j < s then f j r else r := by simp [zLD, List.getElem?_mapIdx]
theorem yGS {s : Nat} : (zLD f L s).length = L.length := by simp [zLD]
theorem upTo_0 : zLD f L 0 = L := by
 apply List.ext_getElem?
 intro j
 rw [zIL]
 cases L[j]? <;> simp
theorem yZH : zLD f L L.length = L.mapIdx f := by
 apply List.ext_getElem?
 intro j
 rw [zIL, List.getElem?_mapIdx]
 cases e : L[j]? with
 | none => rfl
 | some r =>
  have := (List.getElem?_eq_some_iff.1 e).1
  simp [this]
theorem yCO {s : Nat} {x : Rec} (h : L[s]? = some x) : (zLD f L s)[s]? = some x := by rw [zIL, h]; simp
theorem yZG {s j : Nat} {x : Rec} (h : L[j]? = some x) (hj : j < s) : (zLD f L s)[j]? = some (f j x) := by rw [zIL, h]; simp [hj]
theorem yZF {s : Nat} {x : Rec} (h : L[s]? = some x) : zLD f L (s + 1) = (zLD f L s).set s (f s x) := by
 have hlt := (List.getElem?_eq_some_iff.1 h).1
 apply List.ext_getElem?
 intro j
 rw [List.getElem?_set, zIL, zIL, yGS]
 by_cases e : s = j
 ·subst e; rw [if_pos rfl, if_pos hlt, h]; simp
 ·rw [if_neg e]
  have : (j < s + 1) = (j < s) := by apply propext; omega
  simp only [this]
theorem ySL {s : Nat} {x : Rec} (h : L[s]? = some x) (hf : f s x = x) : zLD f L (s + 1) = zLD f L s := by
 rw [yZF h, hf]
 apply List.ext_getElem?
 intro j
 rw [List.getElem?_set]
 by_cases e : s = j
 ·subst e
  rw [yCO h]
  have := (List.getElem?_eq_some_iff.1 (yCO (f := f) h)).1
  simp [this]
 ·rw [if_neg e]
end
theorem zZG : ∀ (l : List Rec) (i k : Nat) (x x' : Rec) (v : Value), l[i]? = some x → k < 6 → (yN x).set k v = yN x' → (l.flatMap yN).set (i * 6 + k) v = (l.set i x').flatMap yN
 | [], i, k, x, x', v, h, _, _ => by simp at h
 | y :: l, 0, k, x, x', v, h, hk, e => by
  cases h
  rw [List.set_cons_zero, List.flatMap_cons, List.flatMap_cons, Nat.zero_mul, Nat.zero_add, List.set_append_left _ _ (by simpa using hk), e]
 | y :: l, i + 1, k, x, x', v, h, hk, e => by
  rw [List.set_cons_succ, List.flatMap_cons, List.flatMap_cons, ← zZG l i k x x' v (by simpa using h) hk e, List.set_append_right _ _ (by simp; omega)]
  congr 2
  simp; omega
section
variable {σ τ : St}
theorem gr_fst {n0 c l k t : Nat} {p : Option Addr} {L : List Rec} (h : Gr Pg τ n0 59 6 p l c (L.map yE)) {i : Nat} {x : Rec} (x' : Rec) {v : Value} (hx : L[i]? = some x) (hk : k < 6) (he : (yN x).set k v = yN x') (hv : v.cells.toList = [v]) (hc : cellB v = true) (ht : xF Pg t = some 1) :
  ∃ a τ', p = some a ∧ zK Pg (evL [.pointer (some (zG a (i * 6 + k))), v]) τ (.store t (.tmp 0) (.tmp 1)) = some (undef, τ') ∧ Gr Pg τ' n0 59 6 p l c ((L.set i x').map yE) ∧ Only (AtP p) τ τ' ∧ τ'.next = τ.next := by
 have hi := (List.getElem?_eq_some_iff.1 hx).1
 have hL := h.len_eq
 have ha := h.app
 rw [zEQ] at ha
 obtain ⟨cs, hcs⟩ : ∃ cs, cs = L.flatMap yN := ⟨_, rfl⟩
 have hcl : cs.length = L.length * 6 := by rw [hcs, zEE]
 have hLl : L.length = l := by simpa using hL
 rw [← hcs] at ha
 cases ha with
 | nil => omega
 | more h1 h2 h3 h4 h5 h6 h7 =>
  rename_i b s0 nx sp log
  subst h2
  have hw : xI τ ⟨b, 0 + (i * 6 + k), sp⟩ [v] = some (τ.put b (.cells ((L.set i x').flatMap yN) 6 [(sp.getD 0, cs.length)] nx false)) := by
   have hcc : (Nat.beq (sp.getD 0) (sp.getD 0) && Nat.ble (0 + (i * 6 + k) + 1) cs.length && !false && [v].all cellB) = true := by
    rw [Nat.beq_refl, (zP _ _).2 (show 0 + (i * 6 + k) + 1 ≤ cs.length by omega)]; simp [hc]
   unfold xI
   simp only [h1, zZ, List.length_singleton, hcc, cond_true, zDR, St.write_eq]
   have e : cs.take (0 + (i * 6 + k)) ++ ([v] ++ cs.drop (0 + (i * 6 + k) + 1)) = (L.set i x').flatMap yN := by
    rw [Nat.zero_add, ← zZG L i k x x' v hx hk he, ← hcs, List.set_eq_take_append_cons_drop, if_pos (by omega)]; rfl
   rw [e]
  refine ⟨⟨b, 0, sp⟩, τ.put b (.cells ((L.set i x').flatMap yN) 6 [(sp.getD 0, cs.length)] nx false), rfl, ?_, ⟨?_, by simp [hLl], ?_⟩, Only.put (.inr ⟨_, rfl, rfl⟩), rfl⟩
  ·have e0 : zK Pg (evL [.pointer (some (zG ⟨b, 0, sp⟩ (i * 6 + k))), v]) τ (.store t (.tmp 0) (.tmp 1)) = (xI τ ⟨b, 0 + (i * 6 + k), sp⟩ [v]).map fun σ' => (undef, σ') := by
    have e1 : ∀ l : List Value, evL l (.tmp 0) = l.getD 0 undef := fun _ => rfl
    have e2 : ∀ l : List Value, evL l (.tmp 1) = l.getD 1 undef := fun _ => rfl
    unfold zK
    simp only [e1, e2, List.getD_cons_zero, List.getD_cons_succ, zGR, ht, hv]
    rfl
   rw [e0, hw]; rfl
  ·rw [zEQ]
   have e2 : ((L.set i x').flatMap yN).length = cs.length := by rw [zEE, hcl]; simp
   refine .more (log := []) (nx := nx) (s := sp.getD 0) ?_ rfl h3 h4 (by rw [e2]; omega) h6 h7
   rw [St.put_get, if_pos rfl, e2]
  ·intro v hv
   obtain ⟨y, _, rfl⟩ := List.mem_map.1 hv
   exact zHI y
theorem rLog_g {p : Option Addr} {l c : Nat} {xs : List Rec} (h : yU σ 59 p l xs) (hl : l ≤ 1000000) (hc : zAZ xs) : ∃ p' c' σ', zF Pg 21 [.slice p l c] σ (.slice p' (uT xs).length c') σ' ∧ New σ σ' ∧ Gr Pg σ' σ.next 59 6 p' (uT xs).length c' ((uT xs).map yE) := by
 obtain ⟨v, σ', h1, h2, p', c', rfl, h3⟩ := zM.new (P := Pg) (f := 21) (args := [.slice p l c]) (σ := σ) (Q := fun v s => ∃ p' c', v = .slice p' (uT xs).length c' ∧ Gr Pg s σ.next 59 6 p' (uT xs).length c' ((uT xs).map yE)) (rLog_run h hl hc) (by rintro v s s' ⟨q, d, rfl, g⟩ hle; exact ⟨q, d, rfl, g.le hle⟩) (by
  rintro v s hr ⟨q, d, rfl, g⟩
  refine ⟨q, d, rfl, ?_⟩
  cases q with
  | none =>
   have e := g.nil_len
   have hA := g.app
   have h0 : (uT xs).length = 0 := by have := congrArg List.length e; simpa using this
   refine ⟨?_, by simp, g.el⟩
   generalize wL ((uT xs).map yE) = cs at hA
   generalize (uT xs).length = n at hA
   cases hA; exact .nil
  | some a => exact Bool.noConfusion (show false = true from hr))
 exact ⟨p', c', σ', h1, h2, h3⟩
end
end Go.Proofs.Ytffgfojabcbegaa

namespace Go.Proofs.Ytffgfojabcbegaa
open Go Go.Lay
set_option linter.unusedVariables false
set_option linter.unusedSimpArgs false
set_option maxRecDepth 20000
theorem yFQ {xs : List Rec} (h : xR [xs] = 0) : xs.length ≤ 60 ∧ ∀ x ∈ xs, yG x = true := by
 obtain ⟨_, h2, h3⟩ := zRM h
 exact ⟨h2 xs (by simp), h3 xs (by simp)⟩
section
variable {σ : St}
end
end Go.Proofs.Ytffgfojabcbegaa

namespace Go.Proofs.Ytffgfojabcbegaa
open Go Go.Lay
set_option linter.unusedVariables false
set_option linter.unusedSimpArgs false
set_option maxRecDepth 20000
section
variable {σ : St}
theorem codeZ_0 {xs : List Rec} (hcz : zFM [xs] = 0) : xR [xs] = 0 ∧ zJN xs = true := by
 have hflat : ([xs] : List (List Rec)).flatten = xs := by simp
 have hz : xR [xs] = 0 := by
  unfold zFM at hcz
  by_cases e : xR [xs] = 0
  ·exact e
  ·rw [if_neg e] at hcz; exact absurd hcz e
 refine ⟨hz, ?_⟩
 unfold zFM at hcz
 rw [if_pos hz, hflat] at hcz
 cases e : zJN xs with
 | true => rfl
 | false => rw [e] at hcz; cases hcz
theorem yXG {p : Option Addr} {l c : Nat} {xs : List Rec} (h : yU σ 59 p l xs) (hl : l ≤ 1000000) : ∃ b σ7, zF Try.prog 16 [.slice p l c] σ (.slice (some ⟨b, 0, none⟩) 1 1) σ7 ∧ New σ σ7 ∧ zF Try.prog 19 [.slice (some ⟨b, 0, none⟩) 1 1] σ7 (iV (zFM [xs])) σ7 := by
 have hlen := h.len
 obtain ⟨b, σ7, k3, n3, o3, _⟩ := one_c (c := c) h
 exact ⟨b, σ7, k3, n3, fault_c (c := 1) (zAY.single agg22 o3 (SlV.le h n3.le)) (by omega) (by intro r hr; simp at hr; subst hr; omega) (by rw [show ([xs] : List (List Rec)).flatten = xs by simp]; omega)⟩
end
end Go.Proofs.Ytffgfojabcbegaa
