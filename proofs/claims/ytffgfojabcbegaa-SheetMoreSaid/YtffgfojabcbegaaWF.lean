
import Derived.Test.YtffgfojabcbegaaPB
import Derived.Test.YtffgfojabcbegaaWB
import Derived.Test.YtffgfojabcbegaaVG
namespace Go.Proofs.Ytffgfojabcbegaa
open Go Go.Lay
open Try renaming prog → Pg
set_option linter.unusedVariables false
set_option linter.unusedSimpArgs false
set_option maxRecDepth 20000
def zNJ (f : Nat → Rec → Rec) (L : List Rec) (s : Nat) : List Rec := L.mapIdx fun j r => if j < s then f j r else r
section
variable {f : Nat → Rec → Rec} {L : List Rec}
theorem zGW {s j : Nat} : (zNJ f L s)[j]? = (L[j]?).map fun r => if j < s then f j r else r := by simp [zNJ, List.getElem?_mapIdx]
theorem yWL {s : Nat} : (zNJ f L s).length = L.length := by simp [zNJ]
theorem upTo_0 : zNJ f L 0 = L := by
 apply List.ext_getElem?
 intro j
 rw [zGW]
 cases L[j]? <;> simp
theorem yWM : zNJ f L L.length = L.mapIdx f := by
 apply List.ext_getElem?
 intro j
 rw [zGW, List.getElem?_mapIdx]
 cases e : L[j]? with
 | none => rfl
 | some r =>
  have := (List.getElem?_eq_some_iff.1 e).1
  simp [this]
theorem yAN {s : Nat} {x : Rec} (h : L[s]? = some x) : (zNJ f L s)[s]? = some x := by rw [zGW, h]; simp
theorem yDX {s j : Nat} {x : Rec} (h : L[j]? = some x) (hj : j < s) : (zNJ f L s)[j]? = some (f j x) := by rw [zGW, h]; simp [hj]
theorem yWK {s : Nat} {x : Rec} (h : L[s]? = some x) : zNJ f L (s + 1) = (zNJ f L s).set s (f s x) := by
 have hlt := (List.getElem?_eq_some_iff.1 h).1
 apply List.ext_getElem?
 intro j
 rw [List.getElem?_set, zGW, zGW, yWL]
 by_cases e : s = j
 ·subst e; rw [if_pos rfl, if_pos hlt, h]; simp
 ·rw [if_neg e]
  have : (j < s + 1) = (j < s) := by apply propext; omega
  simp only [this]
theorem upTo_id {s : Nat} {x : Rec} (h : L[s]? = some x) (hf : f s x = x) : zNJ f L (s + 1) = zNJ f L s := by
 rw [yWK h, hf]
 apply List.ext_getElem?
 intro j
 rw [List.getElem?_set]
 by_cases e : s = j
 ·subst e
  rw [yAN h]
  have := (List.getElem?_eq_some_iff.1 (yAN (f := f) h)).1
  simp [this]
 ·rw [if_neg e]
end
theorem zPH : ∀ (l : List Rec) (i k : Nat) (x x' : Rec) (v : Value), l[i]? = some x → k < 6 → (yI x).set k v = yI x' → (l.flatMap yI).set (i * 6 + k) v = (l.set i x').flatMap yI
 | [], i, k, x, x', v, h, _, _ => by simp at h
 | y :: l, 0, k, x, x', v, h, hk, e => by
  cases h
  rw [List.set_cons_zero, List.flatMap_cons, List.flatMap_cons, Nat.zero_mul, Nat.zero_add, List.set_append_left _ _ (by simpa using hk), e]
 | y :: l, i + 1, k, x, x', v, h, hk, e => by
  rw [List.set_cons_succ, List.flatMap_cons, List.flatMap_cons, ← zPH l i k x x' v (by simpa using h) hk e, List.set_append_right _ _ (by simp; omega)]
  congr 2
  simp; omega
section
variable {σ τ : St}
theorem gr_fst {n0 c l k t : Nat} {p : Option Addr} {L : List Rec} (h : Gr Pg τ n0 59 6 p l c (L.map yH)) {i : Nat} {x : Rec} (x' : Rec) {v : Value} (hx : L[i]? = some x) (hk : k < 6) (he : (yI x).set k v = yI x') (hv : v.cells.toList = [v]) (hc : cellB v = true) (ht : xC Pg t = some 1) :
  ∃ a τ', p = some a ∧ zL Pg (evL [.pointer (some (zG a (i * 6 + k))), v]) τ (.store t (.tmp 0) (.tmp 1)) = some (undef, τ') ∧ Gr Pg τ' n0 59 6 p l c ((L.set i x').map yH) ∧ Only (AtP p) τ τ' ∧ τ'.next = τ.next := by
 have hi := (List.getElem?_eq_some_iff.1 hx).1
 have hL := h.len_eq
 have ha := h.app
 rw [zAN] at ha
 obtain ⟨cs, hcs⟩ : ∃ cs, cs = L.flatMap yI := ⟨_, rfl⟩
 have hcl : cs.length = L.length * 6 := by rw [hcs, zBG]
 have hLl : L.length = l := by simpa using hL
 rw [← hcs] at ha
 cases ha with
 | nil => omega
 | more h1 h2 h3 h4 h5 h6 h7 =>
  rename_i b s0 nx sp log
  subst h2
  have hw : xJ τ ⟨b, 0 + (i * 6 + k), sp⟩ [v] = some (τ.put b (.cells ((L.set i x').flatMap yI) 6 [(sp.getD 0, cs.length)] nx false)) := by
   have hcc : (Nat.beq (sp.getD 0) (sp.getD 0) && Nat.ble (0 + (i * 6 + k) + 1) cs.length && !false && [v].all cellB) = true := by
    rw [Nat.beq_refl, (zO _ _).2 (show 0 + (i * 6 + k) + 1 ≤ cs.length by omega)]; simp [hc]
   unfold xJ
   simp only [h1, zW, List.length_singleton, hcc, cond_true, zEH, St.write_eq]
   have e : cs.take (0 + (i * 6 + k)) ++ ([v] ++ cs.drop (0 + (i * 6 + k) + 1)) = (L.set i x').flatMap yI := by
    rw [Nat.zero_add, ← zPH L i k x x' v hx hk he, ← hcs, List.set_eq_take_append_cons_drop, if_pos (by omega)]; rfl
   rw [e]
  refine ⟨⟨b, 0, sp⟩, τ.put b (.cells ((L.set i x').flatMap yI) 6 [(sp.getD 0, cs.length)] nx false), rfl, ?_, ⟨?_, by simp [hLl], ?_⟩, Only.put (.inr ⟨_, rfl, rfl⟩), rfl⟩
  ·have e0 : zL Pg (evL [.pointer (some (zG ⟨b, 0, sp⟩ (i * 6 + k))), v]) τ (.store t (.tmp 0) (.tmp 1)) = (xJ τ ⟨b, 0 + (i * 6 + k), sp⟩ [v]).map fun σ' => (undef, σ') := by
    have e1 : ∀ l : List Value, evL l (.tmp 0) = l.getD 0 undef := fun _ => rfl
    have e2 : ∀ l : List Value, evL l (.tmp 1) = l.getD 1 undef := fun _ => rfl
    unfold zL
    simp only [e1, e2, List.getD_cons_zero, List.getD_cons_succ, zFI, ht, hv]
    rfl
   rw [e0, hw]; rfl
  ·rw [zAN]
   have e2 : ((L.set i x').flatMap yI).length = cs.length := by rw [zBG, hcl]; simp
   refine .more (log := []) (nx := nx) (s := sp.getD 0) ?_ rfl h3 h4 (by rw [e2]; omega) h6 h7
   rw [St.put_get, if_pos rfl, e2]
  ·intro v hv
   obtain ⟨y, _, rfl⟩ := List.mem_map.1 hv
   exact zIC y
theorem rLog_g {p : Option Addr} {l c : Nat} {xs : List Rec} (h : yZ σ 59 p l xs) (hl : l ≤ 1000000) (hc : vD xs) : ∃ p' c' σ', zD Pg 21 [.slice p l c] σ (.slice p' (xM xs).length c') σ' ∧ New σ σ' ∧ Gr Pg σ' σ.next 59 6 p' (xM xs).length c' ((xM xs).map yH) := by
 obtain ⟨v, σ', h1, h2, p', c', rfl, h3⟩ := zK.new (P := Pg) (f := 21) (args := [.slice p l c]) (σ := σ) (Q := fun v s => ∃ p' c', v = .slice p' (xM xs).length c' ∧ Gr Pg s σ.next 59 6 p' (xM xs).length c' ((xM xs).map yH)) (yXM h hl hc) (by rintro v s s' ⟨q, d, rfl, g⟩ hle; exact ⟨q, d, rfl, g.le hle⟩) (by
  rintro v s hr ⟨q, d, rfl, g⟩
  refine ⟨q, d, rfl, ?_⟩
  cases q with
  | none =>
   have e := g.nil_len
   have hA := g.app
   have h0 : (xM xs).length = 0 := by have := congrArg List.length e; simpa using this
   refine ⟨?_, by simp, g.el⟩
   generalize zAI ((xM xs).map yH) = cs at hA
   generalize (xM xs).length = n at hA
   cases hA; exact .nil
  | some a => exact Bool.noConfusion (show false = true from hr))
 exact ⟨p', c', σ', h1, h2, h3⟩
end
end Go.Proofs.Ytffgfojabcbegaa
