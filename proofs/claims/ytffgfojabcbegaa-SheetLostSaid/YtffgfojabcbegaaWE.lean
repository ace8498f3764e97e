import Derived.Test.YtffgfojabcbegaaWC
import Derived.Test.YtffgfojabcbegaaUS
import Derived.Test.YtffgfojabcbegaaVG
import Derived.Test.YtffgfojabcbegaaTy
import Derived.Test.YtffgfojabcbegaaVD
import Derived.Test.YtffgfojabcbegaaWB

namespace Go.Proofs.Ytffgfojabcbegaa
open Go Go.Lay
open Try renaming prog → Pg
set_option linter.unusedVariables false
set_option linter.unusedSimpArgs false
set_option maxRecDepth 20000
def zKF (f : Nat → Rec → Rec) (L : List Rec) (s : Nat) : List Rec := L.mapIdx fun j r => if j < s then f j r else r
section
variable {f : Nat → Rec → Rec} {L : List Rec}
theorem zHI {s j : Nat} : (zKF f L s)[j]? = (L[j]?).map fun r => if j < s then f j r else r := by simp [zKF, List.getElem?_mapIdx]
theorem yEN {s : Nat} : (zKF f L s).length = L.length := by simp [zKF]
theorem upTo_0 : zKF f L 0 = L := by
 apply List.ext_getElem?
 intro j
 rw [zHI]
 cases L[j]? <;> simp
theorem yWX : zKF f L L.length = L.mapIdx f := by
 apply List.ext_getElem?
 intro j
 rw [zHI, List.getElem?_mapIdx]
 cases e : L[j]? with
 | none => rfl
 | some r =>
  have := (List.getElem?_eq_some_iff.1 e).1
  simp [this]
theorem yAY {s : Nat} {x : Rec} (h : L[s]? = some x) : (zKF f L s)[s]? = some x := by rw [zHI, h]; simp
theorem yWW {s j : Nat} {x : Rec} (h : L[j]? = some x) (hj : j < s) : (zKF f L s)[j]? = some (f j x) := by rw [zHI, h]; simp [hj]
theorem yWV {s : Nat} {x : Rec} (h : L[s]? = some x) : zKF f L (s + 1) = (zKF f L s).set s (f s x) := by
 have hlt := (List.getElem?_eq_some_iff.1 h).1
 apply List.ext_getElem?
 intro j
 rw [List.getElem?_set, zHI, zHI, yEN]
 by_cases e : s = j
 ·subst e; rw [if_pos rfl, if_pos hlt, h]; simp
 ·rw [if_neg e]
  have : (j < s + 1) = (j < s) := by apply propext; omega
  simp only [this]
theorem yPM {s : Nat} {x : Rec} (h : L[s]? = some x) (hf : f s x = x) : zKF f L (s + 1) = zKF f L s := by
 rw [yWV h, hf]
 apply List.ext_getElem?
 intro j
 rw [List.getElem?_set]
 by_cases e : s = j
 ·subst e
  rw [yAY h]
  have := (List.getElem?_eq_some_iff.1 (yAY (f := f) h)).1
  simp [this]
 ·rw [if_neg e]
end
theorem zXY : ∀ (l : List Rec) (i k : Nat) (x x' : Rec) (v : Value), l[i]? = some x → k < 6 → (yH x).set k v = yH x' → (l.flatMap yH).set (i * 6 + k) v = (l.set i x').flatMap yH
 | [], i, k, x, x', v, h, _, _ => by simp at h
 | y :: l, 0, k, x, x', v, h, hk, e => by
  cases h
  rw [List.set_cons_zero, List.flatMap_cons, List.flatMap_cons, Nat.zero_mul, Nat.zero_add, List.set_append_left _ _ (by simpa using hk), e]
 | y :: l, i + 1, k, x, x', v, h, hk, e => by
  rw [List.set_cons_succ, List.flatMap_cons, List.flatMap_cons, ← zXY l i k x x' v (by simpa using h) hk e, List.set_append_right _ _ (by simp; omega)]
  congr 2
  simp; omega
section
variable {σ τ : St}
theorem gr_fst {n0 c l k t : Nat} {p : Option Addr} {L : List Rec} (h : Gr Pg τ n0 59 6 p l c (L.map yP)) {i : Nat} {x : Rec} (x' : Rec) {v : Value} (hx : L[i]? = some x) (hk : k < 6) (he : (yH x).set k v = yH x') (hv : v.cells.toList = [v]) (hc : cellB v = true) (ht : xI Pg t = some 1) :
  ∃ a τ', p = some a ∧ zL Pg (evL [.pointer (some (zJ a (i * 6 + k))), v]) τ (.store t (.tmp 0) (.tmp 1)) = some (undef, τ') ∧ Gr Pg τ' n0 59 6 p l c ((L.set i x').map yP) ∧ Only (AtP p) τ τ' ∧ τ'.next = τ.next := by
 have hi := (List.getElem?_eq_some_iff.1 hx).1
 have hL := h.len_eq
 have ha := h.app
 rw [zDV] at ha
 obtain ⟨cs, hcs⟩ : ∃ cs, cs = L.flatMap yH := ⟨_, rfl⟩
 have hcl : cs.length = L.length * 6 := by rw [hcs, zDK]
 have hLl : L.length = l := by simpa using hL
 rw [← hcs] at ha
 cases ha with
 | nil => omega
 | more h1 h2 h3 h4 h5 h6 h7 =>
  rename_i b s0 nx sp log
  subst h2
  have hw : xM τ ⟨b, 0 + (i * 6 + k), sp⟩ [v] = some (τ.put b (.cells ((L.set i x').flatMap yH) 6 [(sp.getD 0, cs.length)] nx false)) := by
   have hcc : (Nat.beq (sp.getD 0) (sp.getD 0) && Nat.ble (0 + (i * 6 + k) + 1) cs.length && !false && [v].all cellB) = true := by
    rw [Nat.beq_refl, (zR _ _).2 (show 0 + (i * 6 + k) + 1 ≤ cs.length by omega)]; simp [hc]
   unfold xM
   simp only [h1, yA, List.length_singleton, hcc, cond_true, zDA, St.write_eq]
   have e : cs.take (0 + (i * 6 + k)) ++ ([v] ++ cs.drop (0 + (i * 6 + k) + 1)) = (L.set i x').flatMap yH := by
    rw [Nat.zero_add, ← zXY L i k x x' v hx hk he, ← hcs, List.set_eq_take_append_cons_drop, if_pos (by omega)]; rfl
   rw [e]
  refine ⟨⟨b, 0, sp⟩, τ.put b (.cells ((L.set i x').flatMap yH) 6 [(sp.getD 0, cs.length)] nx false), rfl, ?_, ⟨?_, by simp [hLl], ?_⟩, Only.put (.inr ⟨_, rfl, rfl⟩), rfl⟩
  ·have e0 : zL Pg (evL [.pointer (some (zJ ⟨b, 0, sp⟩ (i * 6 + k))), v]) τ (.store t (.tmp 0) (.tmp 1)) = (xM τ ⟨b, 0 + (i * 6 + k), sp⟩ [v]).map fun σ' => (undef, σ') := by
    have e1 : ∀ l : List Value, evL l (.tmp 0) = l.getD 0 undef := fun _ => rfl
    have e2 : ∀ l : List Value, evL l (.tmp 1) = l.getD 1 undef := fun _ => rfl
    unfold zL
    simp only [e1, e2, List.getD_cons_zero, List.getD_cons_succ, zFR, ht, hv]
    rfl
   rw [e0, hw]; rfl
  ·rw [zDV]
   have e2 : ((L.set i x').flatMap yH).length = cs.length := by rw [zDK, hcl]; simp
   refine .more (log := []) (nx := nx) (s := sp.getD 0) ?_ rfl h3 h4 (by rw [e2]; omega) h6 h7
   rw [St.put_get, if_pos rfl, e2]
  ·intro v hv
   obtain ⟨y, _, rfl⟩ := List.mem_map.1 hv
   exact zIO y
theorem rLog_g {p : Option Addr} {l c : Nat} {xs : List Rec} (h : xB σ 59 p l xs) (hl : l ≤ 1000000) (hc : zBO xs) : ∃ p' c' σ', zG Pg 21 [.slice p l c] σ (.slice p' (vZ xs).length c') σ' ∧ New σ σ' ∧ Gr Pg σ' σ.next 59 6 p' (vZ xs).length c' ((vZ xs).map yP) := by
 obtain ⟨v, σ', h1, h2, p', c', rfl, h3⟩ := zO.new (P := Pg) (f := 21) (args := [.slice p l c]) (σ := σ) (Q := fun v s => ∃ p' c', v = .slice p' (vZ xs).length c' ∧ Gr Pg s σ.next 59 6 p' (vZ xs).length c' ((vZ xs).map yP)) (yYF h hl hc) (by rintro v s s' ⟨q, d, rfl, g⟩ hle; exact ⟨q, d, rfl, g.le hle⟩) (by
  rintro v s hr ⟨q, d, rfl, g⟩
  refine ⟨q, d, rfl, ?_⟩
  cases q with
  | none =>
   have e := g.nil_len
   have hA := g.app
   have h0 : (vZ xs).length = 0 := by have := congrArg List.length e; simpa using this
   refine ⟨?_, by simp, g.el⟩
   generalize zAS ((vZ xs).map yP) = cs at hA
   generalize (vZ xs).length = n at hA
   cases hA; exact .nil
  | some a => exact Bool.noConfusion (show false = true from hr))
 exact ⟨p', c', σ', h1, h2, h3⟩
end
end Go.Proofs.Ytffgfojabcbegaa

namespace Go.Proofs.Ytffgfojabcbegaa
open Go Go.Lay
set_option linter.unusedVariables false
set_option linter.unusedSimpArgs false
set_option maxRecDepth 20000
theorem yOT : AppT Try.prog 39 39 57 5 := zMW (by kernel_rfl)
theorem elOk_rlk (x : Lk) : zMZ Try.prog 57 5 (lkV x) := .inr ⟨agg57, zKO, _, rfl, rfl⟩
section
variable {σ : St}
theorem lacks_c {p q : Option Addr} {l c d : Nat} {o : List Lk} (h1 : SlV Try.prog σ 70 5 p l (o.map lkV)) (h2 : SlV Try.prog σ 57 5 q l (o.map lkV)) (hl : l ≤ 100000) : zG Try.prog 22 [.slice p l c, .slice q l d] σ (.bool true) σ := by
 refine zO.pure (lacks_rb (Pr := fun _ _ => False) (P0 := fun τ => New σ.re τ) (yHB (Inv := fun k i τ => ∃ s : Nat, i = s ∧ s + k = l ∧ New σ.re τ) ?_ l 0 σ.re ⟨0, rfl, by omega, New.refl _⟩) (fun t τ h => h.elim) (fun τ h => yHA ⟨rfl, h.lw⟩) rfl)
 rintro k i τ ⟨s, rfl, hk, hN⟩
 by_cases hs : s < l
 rotate_left
 ·exact yUK hN (by omega)
 have e1 := (SlV.le h1 (le0 σ)).le hN.le
 have e2 := (SlV.le h2 (le0 σ)).le hN.le
 obtain ⟨a, rfl, x, hx, ld1⟩ := zCG (f := lkV) e1 hs
 obtain ⟨b, rfl, y, hy, ld2⟩ := zCG (f := lkV) e2 hs
 rw [hx] at hy; cases hy
 have ga : ∀ τ' : St, Le τ τ' → zD Try.prog τ' 70 (zJ a (Int.toNat (s : Int) * 5)) = some (lkV x) := fun τ' hle => (SlV.le e1 hle).at rfl (by rw [List.getElem?_map, hx]; rfl)
 have gb : ∀ τ' : St, Le τ τ' → zD Try.prog τ' 57 (zJ b (Int.toNat (s : Int) * 5)) = some (lkV x) := fun τ' hle => (SlV.le e2 hle).at rfl (by rw [List.getElem?_map, hx]; rfl)
 have M1 : New τ (τ.row (zI 0 0 0 0 0) 5) := New.row _ _ _
 have M2 : New τ ((τ.row (zI 0 0 0 0 0) 5).row (zI 0 0 0 0 0) 5) := M1.row'
 have M3 : New τ (((τ.row (zI 0 0 0 0 0) 5).row (zI 0 0 0 0 0) 5).own τ.next (lkL x) 5) := M2.own (Nat.le_refl _)
 have M4 : New τ ((((τ.row (zI 0 0 0 0 0) 5).row (zI 0 0 0 0 0) 5).own τ.next (lkL x) 5).own (τ.next + 1) (lkL x) 5) := M3.own (by omega)
 exact yUL (ga _ (Le.refl _)) (gb _ (Le.refl _)) (ga _ M1.le) (ga _ M2.le) (gb _ M1.le) (gb _ M2.le) (gb _ M3.le) ⟨k - 1, by omega, s + 1, by omega, by omega, hN.trans M4⟩ (by omega) ⟨by omega, by omega⟩ ⟨by omega, by omega⟩ rfl rfl rfl rfl rfl (by omega) (zTH e1 a rfl) (zTH e2 b rfl)
end
end Go.Proofs.Ytffgfojabcbegaa

namespace Go.Proofs.Ytffgfojabcbegaa
open Go Go.Lay
set_option linter.unusedVariables false
set_option linter.unusedSimpArgs false
set_option maxRecDepth 20000
theorem yDN {xs : List Rec} (h : xV [xs] = 0) : xs.length ≤ 60 ∧ ∀ x ∈ xs, yL x = true := by
 obtain ⟨_, h2, h3⟩ := zQG h
 exact ⟨h2 xs (by simp), h3 xs (by simp)⟩
section
variable {σ : St}
end
end Go.Proofs.Ytffgfojabcbegaa

namespace Go.Proofs.Ytffgfojabcbegaa
open Go Go.Lay
set_option linter.unusedVariables false
set_option linter.unusedSimpArgs false
set_option maxRecDepth 20000
section
variable {σ : St}
theorem codeZ_0 {xs : List Rec} (hcz : zEV [xs] = 0) : xV [xs] = 0 ∧ zIP xs = true := by
 have hflat : ([xs] : List (List Rec)).flatten = xs := by simp
 have hz : xV [xs] = 0 := by
  unfold zEV at hcz
  by_cases e : xV [xs] = 0
  ·exact e
  ·rw [if_neg e] at hcz; exact absurd hcz e
 refine ⟨hz, ?_⟩
 unfold zEV at hcz
 rw [if_pos hz, hflat] at hcz
 cases e : zIP xs with
 | true => rfl
 | false => rw [e] at hcz; cases hcz
theorem yUD {p : Option Addr} {l c : Nat} {xs : List Rec} (h : xB σ 59 p l xs) (hl : l ≤ 1000000) : ∃ b σ7, zG Try.prog 16 [.slice p l c] σ (.slice (some ⟨b, 0, none⟩) 1 1) σ7 ∧ New σ σ7 ∧ zG Try.prog 19 [.slice (some ⟨b, 0, none⟩) 1 1] σ7 (iV (zEV [xs])) σ7 := by
 have hlen := h.len
 obtain ⟨b, σ7, k3, n3, o3, _⟩ := one_c (c := c) h
 exact ⟨b, σ7, k3, n3, fault_c (c := 1) (zAT.single agg22 o3 (SlV.le h n3.le)) (by omega) (by intro r hr; simp at hr; subst hr; omega) (by rw [show ([xs] : List (List Rec)).flatten = xs by simp]; omega)⟩
end
end Go.Proofs.Ytffgfojabcbegaa
