
import Derived.Test.YthcdddbghldmiaaLayC
set_option linter.unusedVariables false
set_option linter.unusedSimpArgs false
namespace Go.Lay
open Go
def Keys : List (Nat × Nat) → Nat → Prop
 | [], _ => True
 | (k, _) :: l, nx => k < nx ∧ Keys l k
theorem Keys.mono : ∀ {l : List (Nat × Nat)} {m n : Nat}, Keys l m → m ≤ n → Keys l n
 | [], _, _, _, _ => trivial
 | (_, _) :: _, _, _, h, hm => ⟨Nat.lt_of_lt_of_le h.1 hm, h.2⟩
theorem Keys.lt : ∀ {l r : List (Nat × Nat)} {k e m : Nat}, Keys (l ++ (k, e) :: r) m → k < m
 | [], _, _, _, _, h => h.1
 | (_, _) :: l, _, _, _, _, h => Nat.lt_trans (Keys.lt h.2) h.1
theorem Keys.drop : ∀ {l r : List (Nat × Nat)} {m : Nat}, Keys (l ++ r) m → Keys r m
 | [], _, _, h => h
 | (_, _) :: l, _, _, h => (Keys.drop h.2).mono (Nat.le_of_lt h.1)
theorem Keys.find : ∀ {l r : List (Nat × Nat)} {k e m : Nat}, Keys (l ++ (k, e) :: r) m → extOf (l ++ (k, e) :: r) k = some e ∧ logFrom (l ++ (k, e) :: r) k = (k, e) :: r
 | [], r, k, e, _, _ => by simp [extOf, logFrom]
 | (k', e') :: l, r, k, e, _, h => by
  have h1 : k < k' := Keys.lt h.2
  have h2 : Nat.beq k' k = false := by rw [Bool.eq_false_iff]; intro e; have := Nat.eq_of_beq_eq_true e; omega
  obtain ⟨h3, h4⟩ := Keys.find h.2
  exact ⟨by rw [List.cons_append, extOf, h2, cond_false]; exact h3, by rw [List.cons_append, logFrom, h2, cond_false]; exact h4⟩
def Stk (z : St) (n0 : Nat) (p : Option Addr) (len c : Nat) (xs : List Value) (sf : List (Nat × Nat)) : Prop :=
 (p = none ∧ len = 0 ∧ c = 0 ∧ xs = [] ∧ sf = []) ∨ ∃ b s bc pre r nx, p = some ⟨b, 0, s⟩ ∧ c = len + INEX ∧ xs.length = len ∧ 0 < len ∧ sf = (s.getD 0, len) :: r ∧ n0 ≤ b ∧ b < z.next ∧ getB z.heap b = some (.cells bc 1 (pre ++ sf) nx false) ∧ bc.take len = xs ∧ Keys (pre ++ sf) nx
def Kid (n0 : Nat) (p : Option Addr) (len c : Nat) (xs : List Value) (sf : List (Nat × Nat)) (p' : Option Addr) (xs' : List Value) (sf' : List (Nat × Nat)) : Prop :=
 (p = none ∧ len = 0 ∧ c = 0 ∧ xs = [] ∧ sf = []) ∨ ∃ b s s' e r, p = some ⟨b, 0, s⟩ ∧ p' = some ⟨b, 0, s'⟩ ∧ sf' = e :: sf ∧ sf = (s.getD 0, len) :: r ∧ c = len + INEX ∧ xs.length = len ∧ 0 < len ∧ xs'.take len = xs ∧ n0 ≤ b
section
variable {P : Program} {S : Nat → Prop} {z z' : St} {n0 len c len' c' : Nat} {p p' : Option Addr} {xs xs' : List Value} {sf sf' : List (Nat × Nat)}
theorem Stk.nil : Stk z n0 none 0 0 [] [] := .inl ⟨rfl, rfl, rfl, rfl, rfl⟩
theorem Stk.leq (h : Stk z n0 p len c xs sf) : xs.length = len := by
 rcases h with ⟨_, rfl, _, rfl, _⟩ | ⟨_, _, _, _, _, _, _, _, h, _⟩
 ·rfl
 ·exact h
theorem Stk.bd (h : Stk z n0 p len c xs sf) : ∀ b, AtP p b → n0 ≤ b ∧ b < z.next := by
 rintro b ⟨a, rfl, rfl⟩
 rcases h with ⟨h, _⟩ | ⟨b, s, bc, pre, r, nx, h1, h2, h3, h4, h5, h6, h7, _⟩
 ·cases h
 ·cases h1; exact ⟨h6, h7⟩
theorem Stk.only (h : Stk z n0 p len c xs sf) (k : Only S z z') (hs : ∀ b, AtP p b → ¬ S b) : Stk z' n0 p len c xs sf := by
 rcases h with h | ⟨b, s, bc, pre, r, nx, rfl, h2, h3, h4, h5, h6, h7, h8, h9⟩
 ·exact .inl h
 ·exact .inr ⟨b, s, bc, pre, r, nx, rfl, h2, h3, h4, h5, h6, Nat.lt_of_lt_of_le h7 k.next, by rw [k.get b h7 (hs b ⟨_, rfl, rfl⟩)]; exact h8, h9⟩
theorem Stk.le (h : Stk z n0 p len c xs sf) (k : Le z z') : Stk z' n0 p len c xs sf := by
 rcases h with h | ⟨b, s, bc, pre, r, nx, rfl, h2, h3, h4, h5, h6, h7, h8, h9⟩
 ·exact .inl h
 ·exact .inr ⟨b, s, bc, pre, r, nx, rfl, h2, h3, h4, h5, h6, Nat.lt_of_lt_of_le h7 k.next, by rw [k.get b h7]; exact h8, h9⟩
theorem Stk.slp (h : Stk z n0 p len c xs sf) : SlP z 1 p len xs := by
 rcases h with ⟨rfl, rfl, _, rfl, _⟩ | ⟨b, s, bc, pre, r, nx, rfl, h2, h3, h4, rfl, h6, h7, h8, h9, h10⟩
 ·exact SlP.nil _ _
 ·refine ⟨by omega, ?_, h7⟩
  have hle : Nat.ble (0 + len) len = true := (ble_iff _ _).2 (by omega)
  unfold readRow
  simp only [h8, stampOf, (Keys.find h10).1, hle, cond_true, List.drop_zero, h3, h9]
theorem Stk.slv {t : Nat} (h : Stk z n0 p len c xs sf) (he : ∀ v ∈ xs, elOk P t 1 v ∧ v.cells.toList = [v]) : SlV P z t 1 p len xs := by
 have hf : flat xs = xs := by
  have : ∀ l : List Value, (∀ v ∈ l, v.cells.toList = [v]) → flat l = l := by
   intro l
   induction l with
   | nil => intro _; rfl
   | cons v l ih =>
    intro h
    have h1 := h v List.mem_cons_self
    have h2 := ih (fun x hx => h x (List.mem_cons_of_mem _ hx))
    have : flat (v :: l) = v.cells.toList ++ flat l := by simp [flat]
    rw [this, h1, h2]; rfl
  exact this xs (fun v hv => (he v hv).2)
 exact ⟨by rw [hf]; exact h.slp, h.leq, fun v hv => (he v hv).1⟩
theorem Kid.pop (h : Kid n0 p len c xs sf p' xs' sf') (k : Stk z n0 p' len' c' xs' sf') : Stk z n0 p len c xs sf := by
 rcases h with h | ⟨b, s, s', e, r, rfl, rfl, rfl, rfl, rfl, h1, h2, h3, h4⟩
 ·exact .inl h
 ·rcases k with ⟨k, _⟩ | ⟨b', s2, bc, pre, r', nx, k1, k2, k3, k4, k5, k6, k7, k8, k9, k10⟩
  ·cases k
  ·cases k1
   refine .inr ⟨b, s, bc, pre ++ [e], r, nx, rfl, rfl, h1, h2, rfl, h4, k7, ?_, ?_, ?_⟩
   ·rw [List.append_assoc]; exact k8
   ·have hl : len ≤ len' := by
     have := congrArg List.length h3
     simp at this; omega
    rw [← h3, ← k9, List.take_take, Nat.min_eq_left hl]
   ·rw [List.append_assoc]; exact k10
theorem Stk.push {st xt e : Nat} {v : Value} (T : AppT P st xt e 1) (h : Stk z n0 p len c xs sf) (hc : cellB v = true) (hroom : len + 1 ≤ 1073741824) (hn : n0 ≤ z.next) :
  ∃ p' c' sf' z', appendA P st xt (.slice p len c) (.slice (some ⟨z.next, 0, none⟩) 1 1) (z.row [v] 1) = some (.slice p' (len + 1) c', z') ∧ Stk z' n0 p' (len + 1) c' (xs ++ [v]) sf' ∧ Kid n0 p len c xs sf p' (xs ++ [v]) sf' ∧ Only (AtP p) z z' ∧ z'.low ≤ z.low ∧ ∀ b, AtP p' b → AtP p b ∨ z.next ≤ b := by
 obtain ⟨xd, hxd, hxi⟩ := T.src
 obtain ⟨ei, zv, hei, hz, hby, hrz, hzl⟩ := T.info
 have hrow := row_new z [v] 1
 have hsrc : appSrc (z.row [v] 1) 1 zv xd (.slice (some ⟨z.next, 0, none⟩) 1 1) = some (1, [v]) := by
  have : srcCells (z.row [v] 1) 1 (.slice (some ⟨z.next, 0, none⟩) 1 1) = some (1, [v]) := by
   have hrd := hrow.rd
   have hrd : readRow (z.row [v] 1) ⟨z.next, 0, none⟩ (1 * 1) = some [v] := hrd
   simp [srcCells, hrd]
  unfold appSrc
  cases xd with
  | int _ => cases hxi
  | _ => simp only [this]
 have hcond : (roomy (len + 1) 1 ei.bytes && [v].all cellB && Nat.beq [v].length (1 * 1) && rigidB RD zv && Nat.beq zv.cells.toList.length 1) = true := by
  unfold roomy
  have : Nat.beq [v].length (1 * 1) = true := rfl
  rw [(ble_iff _ _).2 hroom, (ble_iff _ _).2 T.le, (ble_iff _ _).2 hby, this, hrz, hzl]
  simp [hc]
 have hc0 : capLow 0 = 0 := by unfold capLow; have := inex_pos; rw [if_neg (by omega)]
 have hc1 : capExact 0 = true := (capExact_iff 0).2 inex_pos
 rcases h with ⟨rfl, rfl, rfl, rfl, rfl⟩ | ⟨b, s, bc, pre, r, nx, rfl, rfl, h3, h4, rfl, h6, h7, h8, h9, h10⟩
 ·refine ⟨some ⟨(z.row [v] 1).next, 0, none⟩, 0 + 1 + INEX, [(0, 1)], (z.row [v] 1).add (.cells [v] 1 [(0, 1)] 1 false), ?_, ?_, .inl ⟨rfl, rfl, rfl, rfl, rfl⟩, ?_, Nat.le_refl _, fun b hb => .inr (by obtain ⟨a, e, rfl⟩ := hb; cases e; simp)⟩
  ·have hble : Nat.ble (0 + 1) 0 = false := rfl
   unfold appendA
   simp only [T.el, hxd, hei, hz, hsrc, hcond, cond_true, appRows, hc0, hble, cond_false, hc1, newRow_eq]
   rfl
  ·refine .inr ⟨(z.row [v] 1).next, none, [v], [], [], 1, rfl, rfl, rfl, by omega, rfl, by simp; omega, by simp, ?_, rfl, ⟨by simp, trivial⟩⟩
   rw [St.add_get, if_pos rfl]; rfl
  ·exact (Only.row _ _ _).trans' (Only.add _ _ : Only (AtP none) _ _) (fun b _ h => .inl h)
 ·obtain ⟨f1, f2⟩ := Keys.find h10
  have hcx : capExact (len + INEX) = false := by unfold capExact; rw [(ble_iff _ _).2 (by omega)]; rfl
  have hcl : capLow (len + INEX) = len := capLow_inex _
  have hble : Nat.ble (len + 1) len = false := by rw [Bool.eq_false_iff]; intro e; have := (ble_iff _ _).1 e; omega
  have hgb : getB (z.row [v] 1).heap b = some (.cells bc 1 (pre ++ (s.getD 0, len) :: r) nx false) := by
   rw [(Le.row z [v] 1).get b h7]; exact h8
  have hg : (Nat.beq len len && Nat.beq (0 + len * 1) len && Nat.beq 1 1 && !false && Nat.blt 0 1) = true := by
   rw [Nat.beq_refl, show 0 + len * 1 = len by omega, Nat.beq_refl]; rfl
  have hbl : (bc.take len).length = len := by rw [h9]; exact h3
  refine ⟨some ⟨b, 0, some nx⟩, len + 1 + INEX, (nx, len + 1) :: (s.getD 0, len) :: r, (z.row [v] 1).put b (.cells (bc.take len ++ [v]) 1 ((nx, len + 1) :: (s.getD 0, len) :: r) (nx + 1) false), ?_, ?_, ?_, ?_, ?_, fun b' hb => .inl (by obtain ⟨a, e, rfl⟩ := hb; cases e; exact ⟨_, rfl, rfl⟩)⟩
  ·unfold appendA
   simp only [T.el, hxd, hei, hz, hsrc, hcond, cond_true, appRows, hcl, hble, cond_false, hcx]
   unfold appGrow
   simp only [hgb, stampOf, f1, f2, hg, cond_true, fVs_eq, fN_eq, St.write_eq]
  ·refine .inr ⟨b, some nx, bc.take len ++ [v], [], (s.getD 0, len) :: r, nx + 1, rfl, rfl, by simp [h3], by omega, rfl, h6, by simp; omega, ?_, ?_, ⟨by omega, ?_⟩⟩
   ·rw [St.put_get, if_pos rfl]; rfl
   ·rw [List.take_of_length_le (by simp [hbl]), h9]
   ·have := h10.drop
    exact ⟨Keys.lt h10, this.2⟩
  ·exact .inr ⟨b, s, some nx, (nx, len + 1), r, rfl, rfl, rfl, rfl, rfl, h3, h4, by rw [List.take_append_of_le_length (by omega), List.take_of_length_le (by omega)], h6⟩
  ·exact (Only.row _ _ _).trans' (Only.put (S := AtP (some ⟨b, 0, s⟩)) (.inr ⟨_, rfl, rfl⟩)) (fun b _ h => .inl h)
  ·simp; omega
end
end Go.Lay
