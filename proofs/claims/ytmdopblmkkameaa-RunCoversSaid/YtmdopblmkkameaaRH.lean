
import Derived.Test.YtmdopblmkkameaaRD
import Derived.Test.YtmdopblmkkameaaXD
import Derived.Test.YtmdopblmkkameaaXE
namespace Go.Proofs.Ytmdopblmkkameaa
open Go Go.Lay
open Try renaming prog → Pg
set_option linter.unusedVariables false
set_option linter.unusedSimpArgs false
set_option maxRecDepth 20000
section
variable {σ : St}
theorem read_take {a : Addr} {n m : Nat} {xs : List Value} (h : yM σ a n = some xs) (hm : m ≤ n) : yM σ a m = some (xs.take m) := by
 unfold yM at h ⊢
 cases hb : yE σ.heap a.block with
 | none => rw [hb] at h; cases h
 | some y =>
  rw [hb] at h
  cases y with
  | cells cs es lg nx ro =>
   simp only at h ⊢
   cases he : vN lg (yF a) with
   | none => rw [he] at h; cases h
   | some e =>
    rw [he] at h
    simp only at h ⊢
    cases hle : Nat.ble (a.off + n) e with
    | false => rw [hle, cond_false] at h; cases h
    | true =>
     rw [hle, cond_true] at h
     have h1 := (zW _ _).1 hle
     have hle2 : Nat.ble (a.off + m) e = true := (zW _ _).2 (by omega)
     rw [hle2, cond_true]
     have h2 := Option.some.inj h
     rw [← h2, List.take_take, Nat.min_eq_left hm]
  | _ => simp at h
theorem copy_own {q k len c slen c2 m : Nat} {cs xs : List Value} {a : Addr} (o : Own σ q cs 1) (hr : Row σ a xs) (hx : xs.length = slen) (hm : min slen len = m) (hp : 0 < m) (hc : xs.all cellB = true) (hk : k + m ≤ cs.length) :
  zX Pg (evL [.slice (some ⟨q, k, none⟩) len c, .slice (some a) slen c2]) σ (.call { callee := .builtin .copy, args := ⟨yI 2⟩, argTypes := ⟨[41, 41]⟩ }) = some (iV (m : Int), σ.own q (cs.take k ++ (xs.take m ++ cs.drop (k + m))) 1) := by
 have he : xV Pg 41 = some (3, 1) := by kernel_rfl
 have hxl : (xs.take m).length = m := by simp; omega
 have hrd : yM σ a m = some (xs.take m) := read_take hr.rd (by omega)
 have hw : uQ σ ⟨q, k, none⟩ (xs.take m) = some (σ.own q (cs.take k ++ (xs.take m ++ cs.drop (k + m))) 1) := by
  have h2 : (Nat.beq 0 0 && Nat.ble (k + m) cs.length && !false && (xs.take m).all cellB) = true := by
   have h3 : (xs.take m).all cellB = true := List.all_eq_true.2 fun v hv => List.all_eq_true.1 hc v (List.mem_of_mem_take hv)
   rw [h3, (zW _ _).2 hk]; rfl
  unfold uQ
  simp only [o.get, yF, Option.getD_none, h2, cond_true, zGB, St.write_eq, hxl]
  unfold St.own
  have hl : (cs.take k ++ (xs.take m ++ cs.drop (k + m))).length = cs.length := by simp; omega
  rw [hl]
 have hmin : Nat.min slen len = m := hm
 have hb : Nat.beq m 0 = false := by rw [Bool.eq_false_iff]; intro e; have := Nat.eq_of_beq_eq_true e; omega
 have e0 : ∀ l : List Value, evL l (.tmp 0) = l.getD 0 undef := fun _ => rfl
 have e1 : ∀ l : List Value, evL l (.tmp 1) = l.getD 1 undef := fun _ => rfl
 unfold zX
 simp only [show yI 2 = [.tmp 0, .tmp 1] from rfl, List.map_cons, List.map_nil, e0, e1, List.getD_cons_zero, List.getD_cons_succ, he, vX, hmin, Nat.mul_one, hrd, Option.map_some, hb, cond_false, hw]
 rfl
theorem copy_zero {q k c slen c2 : Nat} {xs : List Value} {a : Addr} (hr : Row σ a xs) (hx : xs.length = slen) :
  zX Pg (evL [.slice (some ⟨q, k, none⟩) 0 c, .slice (some a) slen c2]) σ (.call { callee := .builtin .copy, args := ⟨yI 2⟩, argTypes := ⟨[41, 41]⟩ }) = some (iV 0, σ) := by
 have he : xV Pg 41 = some (3, 1) := by kernel_rfl
 have hrd : ∃ ys, yM σ a 0 = some ys := ⟨_, read_take hr.rd (Nat.zero_le _)⟩
 obtain ⟨ys, hrd⟩ := hrd
 have hmin : Nat.min slen 0 = 0 := by simp
 have e0 : ∀ l : List Value, evL l (.tmp 0) = l.getD 0 undef := fun _ => rfl
 have e1 : ∀ l : List Value, evL l (.tmp 1) = l.getD 1 undef := fun _ => rfl
 unfold zX
 simp only [show yI 2 = [.tmp 0, .tmp 1] from rfl, List.map_cons, List.map_nil, e0, e1, List.getD_cons_zero, List.getD_cons_succ, he, vX, hmin, Nat.zero_mul, hrd, Option.map_some]
 rfl
theorem bmul64_c {n : Nat} (hn : n ≤ 12) : zD Pg 99 [.int .u64 1, .int .u64 (n : Int)] σ (.tuple ⟨[.int .u64 0, .int .u64 (n : Int)]⟩) σ := by
 have h : n = 0 ∨ n = 1 ∨ n = 2 ∨ n = 3 ∨ n = 4 ∨ n = 5 ∨ n = 6 ∨ n = 7 ∨ n = 8 ∨ n = 9 ∨ n = 10 ∨ n = 11 ∨ n = 12 := by omega
 refine zN.pure (bmul64_ra (n1 := 1) (n2 := 0) (n3 := (n : Int)) (n4 := 0) (z5 := (n : Int)) (z6 := 0) (n7 := 0) (z8 := 0) (n9 := 0) (n10 := 0) (z11 := 0) (z12 := 0) (z13 := 0) (z14 := 0) (n15 := 0) (z16 := 0) (z17 := (n : Int)) ?_ ?_ ?_ ?_ ?_ ?_ ?_ ?_ ?_ ?_ ?_ ?_ ?_ ?_ ?_ ?_ ?_ ⟨rfl, Nat.le_refl _⟩)
 all_goals rcases h with rfl | rfl | rfl | rfl | rfl | rfl | rfl | rfl | rfl | rfl | rfl | rfl | rfl <;> kernel_rfl
theorem bmul_c {n : Nat} (hn : n ≤ 12) : zD Pg 93 [.int .u64 1, .int .u64 (n : Int)] σ (.tuple ⟨[.int .u64 0, .int .u64 (n : Int)]⟩) σ :=
 zN.pure (bmul_ra (bmul64_c hn) ⟨rfl, Nat.le_refl _⟩)
theorem flat_vec {n : Nat} {P : Nat → Int} : wH (zAO n P) = zAO n P := by
 have : zAO n P = ((List.range n).map P).map fun x => iV x := by simp [zAO]
 rw [this, flat_ints]
theorem vec_fill {n k m : Nat} (hk : k + m ≤ n) : (zAO n fun s => if s < k then -1 else 0).take k ++ ((List.replicate m (wM (-1))) ++ (zAO n fun s => if s < k then -1 else 0).drop (k + m)) = zAO n fun s => if s < k + m then -1 else 0 := by
 apply List.ext_getElem?
 intro i
 by_cases h1 : i < k
 ·rw [List.getElem?_append_left (by simp [wS]; omega), List.getElem?_take_of_lt h1, zCF (by omega), zCF (by omega), if_pos h1, if_pos (by omega)]
 ·rw [List.getElem?_append_right (by simp [wS]; omega)]
  simp only [List.length_take, wS, Nat.min_eq_left (show k ≤ n by omega)]
  by_cases h2 : i < k + m
  ·rw [List.getElem?_append_left (by simp; omega), List.getElem?_replicate, if_pos (by omega), zCF (by omega), if_pos h2]
  ·rw [List.getElem?_append_right (by simp; omega), List.getElem?_drop]
   simp only [List.length_replicate]
   rw [show k + m + (i - k - m) = i by omega]
   by_cases h3 : i < n
   ·rw [zCF h3, zCF h3, if_neg h1, if_neg h2]
   ·rw [List.getElem?_eq_none (by rw [wS]; omega), List.getElem?_eq_none (by rw [wS]; omega)]
theorem repeat_c {a : Addr} {c n : Nat} (hr : Row σ a [wM (-1)]) (hn : n ≤ 12) : ∃ q c' σ', zD Pg 79 [.slice (some a) 1 c, iV (n : Int)] σ (.slice (some ⟨q, 0, none⟩) n c') σ' ∧ New σ σ' ∧ Own σ' q (zAO n fun _ => -1) 1 ∧ σ.next ≤ q := by
 suffices hmain : zN Pg 79 [.slice (some a) 1 c, iV (n : Int)] σ.re fun v s => New σ.re s ∧ ∃ q c', v = .slice (some ⟨q, 0, none⟩) n c' ∧ Own s q (zAO n fun _ => -1) 1 ∧ σ.next ≤ q by
  obtain ⟨v, σ', h1, h2, q, c', rfl, h3⟩ := zN.new hmain (by rintro v s s' ⟨q, c', rfl, q1, q2⟩ hle; exact ⟨q, c', rfl, q1.le hle, q2⟩) (by rintro v s hr ⟨q, c', rfl, _⟩; exact Bool.noConfusion (show false = true from hr))
  exact ⟨q, c', σ', h1, h2, h3⟩
 have mk := make_sl (P := Pg) (σ := σ.re) (st := 41) (e := 3) (z := iV 0) (n := 1) (by kernel_rfl) (by kernel_rfl) (len := n) (by omega)
 obtain ⟨σ1, hσ1⟩ : ∃ σ1, σ1 = σ.re.row (xG (Value.int .i64 0).cells.toList n) 1 := ⟨_, rfl⟩
 have hz : xG (Value.int .i64 0).cells.toList n = zAO n fun _ => 0 := zeros_vec _
 have o1 : Own σ1 σ.next (zAO n fun _ => 0) 1 := by rw [hσ1, hz]; exact zC _ _ _
 have n1 : New σ.re σ1 := by rw [hσ1]; exact New.row _ _ _
 rw [← hσ1] at mk
 have hw1 : zBQ .u64 (((1 : Nat) : Int)) = 1 := by decide
 have hw2 : zBQ .u64 (n : Int) = (n : Int) := by
  have h : n = 0 ∨ n = 1 ∨ n = 2 ∨ n = 3 ∨ n = 4 ∨ n = 5 ∨ n = 6 ∨ n = 7 ∨ n = 8 ∨ n = 9 ∨ n = 10 ∨ n = 11 ∨ n = 12 := by omega
  rcases h with rfl | rfl | rfl | rfl | rfl | rfl | rfl | rfl | rfl | rfl | rfl | rfl | rfl <;> decide
 have hrow1 : Row σ1 a [wM (-1)] := (hr.le (le0 σ)).le n1.le
 obtain ⟨m0, σ2, hcp, hm0, hO⟩ : ∃ m0 σ2, zX Pg (evL [.slice (some ⟨σ.next, 0, none⟩) n n, .slice (some a) 1 c]) σ1 (.call { callee := .builtin .copy, args := ⟨yI 2⟩, argTypes := ⟨[41, 41]⟩ }) = some (iV ((m0 : Nat) : Int), σ2) ∧ (m0 ≤ n ∧ (0 < n → 0 < m0)) ∧ New σ.re σ2 ∧ Own σ2 σ.next (zAO n fun s => if s < m0 then -1 else 0) 1 := by
  by_cases h0 : n = 0
  ·subst h0
   exact ⟨0, σ1, copy_zero hrow1 rfl, ⟨Nat.le_refl _, fun h => by omega⟩, n1, by simpa using o1⟩
  ·have := copy_own (k := 0) (len := n) (c := n) (c2 := c) (m := 1) (slen := 1) o1 hrow1 rfl (by omega) (by omega) rfl (by rw [wS]; omega)
   refine ⟨1, _, this, ⟨by omega, fun _ => by omega⟩, n1.own (Nat.le_refl _), ?_⟩
   have e := vec_fill (n := n) (k := 0) (m := 1) (by omega)
   simp only [Nat.not_lt_zero, if_false] at e
   have e2 : [wM (-1)].take 1 = List.replicate 1 (wM (-1)) := rfl
   rw [e2, e]
   exact Own.put o1
 obtain ⟨hO1, hO2⟩ := hO
 refine repeat__ra (z1 := 1) (z2 := (n : Int)) (n3 := 0) (n4 := (n : Int)) hw1 hw2 (bmul_c hn) mk hcp (P0 := fun s => New σ.re s ∧ Own s σ.next (zAO n fun _ => -1) 1) ?_ (fun s h => repeat__t1x0a ⟨h.1, _, _, rfl, h.2, Nat.le_refl _⟩) (by omega) (by omega) (by omega)
 refine repeat__loop1 (Inv := fun k i τ => ∃ s : Nat, i = s ∧ s + k = n ∧ (0 < n → 0 < s) ∧ New σ.re τ ∧ Own τ σ.next (zAO n fun x => if x < s then -1 else 0) 1) ?_ (n - m0) (m0 : Int) σ2 ⟨m0, rfl, by omega, hm0.2, hO1, hO2⟩
 rintro k i τ ⟨s, rfl, hk, hp, h1, h2⟩
 by_cases hs : s < n
 rotate_left
 ·have : s = n := by omega
  subst this
  refine repeat__s1b ⟨h1, ?_⟩
  rw [vecL_congr (Q := fun _ => -1) (fun x hx => if_pos hx)] at h2; exact h2
 have hp' := hp (by omega)
 obtain ⟨m, hm⟩ : ∃ m, m = min s (n - s) := ⟨_, rfl⟩
 have hcap : xA n = true := (xC n).2 (by unfold zBP; omega)
 have hA : ArgS τ 1 (some ⟨σ.next, 0, none⟩) n n := .inr ⟨σ.next, _, _, _, rfl, Nat.le_refl _, hcap, h2.get, by rw [wS]; omega, h2.lt⟩
 have hV : SlV Pg τ 3 1 (some ⟨σ.next, 0, none⟩) n (zAO n fun x => if x < s then -1 else 0) := by
  have hfl := flat_vec (n := n) (P := fun x => if x < s then (-1 : Int) else 0)
  refine ⟨⟨by rw [hfl, wS]; omega, ?_⟩, wS, ?_⟩
  ·show Row τ ⟨σ.next, 0, none⟩ (wH _)
   rw [hfl]; exact h2.rw
  ·intro v hv
   obtain ⟨x, _, rfl⟩ := List.mem_map.1 hv
   exact zHA _
 obtain ⟨l1, _, _⟩ := hA.part (t := 41) (lo := s) (hi := n) (lo' := some (iV (s : Int))) (hi' := none) hV Try.underlying41 (by kernel_rfl) (bound_some rfl (by omega)) rfl (by omega) (Nat.le_refl _)
 obtain ⟨l2, v2, _⟩ := hA.part (t := 41) (lo := 0) (hi := s) (lo' := none) (hi' := some (iV (s : Int))) hV Try.underlying41 (by kernel_rfl) rfl (bound_some rfl (by omega)) (by omega) (by omega)
 have hb1 : Nat.beq n s = false := by rw [Bool.eq_false_iff]; intro e; have := Nat.eq_of_beq_eq_true e; omega
 have hb2 : Nat.beq n 0 = false := by rw [Bool.eq_false_iff]; intro e; have := Nat.eq_of_beq_eq_true e; omega
 simp only [partP, hb1, hb2, cond_false, zH, Nat.zero_add, Nat.mul_one, Nat.zero_mul, Nat.sub_zero] at l1 l2
 have hrow : Row τ ⟨σ.next, 0, none⟩ (List.replicate s (wM (-1))) := by
  refine ⟨?_, h2.lt⟩
  have e : (zAO n fun x => if x < s then -1 else 0).take s = List.replicate s (wM (-1)) := by
   apply List.ext_getElem?
   intro i
   by_cases hi : i < s
   ·rw [List.getElem?_take_of_lt hi, zCF (by omega), if_pos hi, List.getElem?_replicate, if_pos hi]
   ·rw [List.getElem?_eq_none (by simp [wS]; omega), List.getElem?_eq_none (by simp; omega)]
  have hle : Nat.ble (0 + s) n = true := (zW _ _).2 (by omega)
  unfold yM
  simp only [h2.get, yF, Option.getD_none, vN, Nat.beq_refl, cond_true, wS, List.length_replicate, hle, List.drop_zero, e]
 have cp := copy_own (k := s) (len := n - s) (c := n - s) (c2 := n) (m := m) (slen := s) h2 hrow (by simp) (by omega) (by omega) (List.all_eq_true.2 fun v hv => by rw [(List.mem_replicate.1 hv).2]; rfl) (by rw [wS]; omega)
 have e2 : (List.replicate s (wM (-1))).take m = List.replicate m (wM (-1)) := by rw [List.take_replicate, Nat.min_eq_left (by omega)]
 rw [e2, vec_fill (by omega)] at cp
 refine repeat__s1a l1 l2 cp ⟨k - m, by omega, s + m, by omega, by omega, fun _ => by omega, h1.own (Nat.le_refl _), Own.put h2⟩
def yL (n : Nat) (f : Nat → Bool) : List Value := (List.range n).map fun k => .bool (f k)
theorem wD {n : Nat} {f : Nat → Bool} : (yL n f).length = n := by simp [yL]
theorem boolL_get {n k : Nat} {f : Nat → Bool} (h : k < n) : (yL n f)[k]? = some (.bool (f k)) := by simp [yL, h]
theorem zJR {n : Nat} {f g : Nat → Bool} (h : ∀ k, k < n → f k = g k) : yL n f = yL n g := by
 unfold yL
 exact List.map_congr_left fun k hk => by rw [h k (by simpa using hk)]
theorem boolL_set {n k : Nat} {f : Nat → Bool} {b : Bool} (h : k < n) : (yL n f).set k (.bool b) = yL n fun j => if j = k then b else f j := by
 apply List.ext_getElem?
 intro i
 rw [List.getElem?_set]
 by_cases e : k = i
 ·subst e; simp [yL, h]
 ·rw [if_neg e]
  by_cases hi : i < n
  ·rw [boolL_get hi, boolL_get hi, if_neg (fun x => e x.symm)]
  ·rw [List.getElem?_eq_none (by rw [wD]; omega), List.getElem?_eq_none (by rw [wD]; omega)]
theorem boolL_cells {n : Nat} {f : Nat → Bool} : (yL n f).all cellB = true := List.all_eq_true.2 fun v hv => by
 obtain ⟨k, _, rfl⟩ := List.mem_map.1 hv; rfl
theorem own_stB {P : Program} {b n i : Nat} {f : Nat → Bool} {v : Bool} {t : TypeId} (h : Own σ b (yL n f) 1) (hs : xE P t = some 1) (hi : i < n) :
  zX P (evL [.pointer (some (zH ⟨b, 0, none⟩ (Int.toNat (i : Int) * 1))), .bool v]) σ (.store t (.tmp 0) (.tmp 1)) = some (undef, σ.own b (yL n fun j => if j = i then v else f j) 1) := by
 have := h.stI (P := P) (t := t) (v := .bool v) (i := i) rfl hs rfl (by rw [wD]; exact hi)
 rw [boolL_set hi] at this; exact this
theorem zEC {P : Program} {b n i : Nat} {f : Nat → Bool} {t : TypeId} (h : Own σ b (yL n f) 1) (ht : zBB P t = some false) (hi : i < n) : zB P σ t (zH ⟨b, 0, none⟩ (Int.toNat (i : Int) * 1)) = some (.bool (f i)) := by
 have := h.ldI (P := P) (t := t) (i := i) ht (boolL_get hi); simpa [zH] using this
theorem falses : [Value.bool false, .bool false, .bool false, .bool false, .bool false, .bool false, .bool false, .bool false, .bool false, .bool false, .bool false, .bool false] = yL 12 fun _ => false := rfl
theorem every_c : zD Pg 49 [] σ (.agg ⟨yL 12 fun _ => true⟩) σ := by
 suffices h : zN Pg 49 [] σ.re fun v' s => v' = .agg ⟨yL 12 fun _ => true⟩ ∧ σ.next ≤ s.low from zN.pure h (by kernel_rfl)
 refine every_ra (P0 := fun τ => Own τ σ.next (yL 12 fun _ => true) 1 ∧ New σ.re τ) (every_loop1 (Inv := fun k i τ => ∃ s : Nat, i = s ∧ s + k = 12 ∧ Own τ σ.next (yL 12 fun j => decide (j < s)) 1 ∧ New σ.re τ) ?_ 12 0 _ ⟨0, rfl, rfl, zC _ _ _, New.row _ _ _⟩) ?_
 ·rintro k i τ ⟨s, rfl, hk, h1, h2⟩
  by_cases hs : s < 12
  rotate_left
  ·have : s = 12 := by omega
   subst this
   refine every_s1b ⟨?_, h2⟩ (by omega)
   rw [zJR (g := fun _ => true) (fun k hk => decide_eq_true hk)] at h1; exact h1
  have st := own_stB h1 (P := Pg) (t := 4) (v := true) (i := s) size4 hs
  refine every_s1a st ⟨k - 1, by omega, s + 1, by omega, by omega, ?_, h2.own (Nat.le_refl _)⟩ (by omega) (by omega)
  have e2 : yL 12 (fun j => decide (j < s + 1)) = yL 12 fun j => if j = s then true else decide (j < s) := zJR fun j hj => by
   by_cases e : j = s
   ·subst e; simp
   ·rw [if_neg e]; exact decide_eq_decide.2 (by omega)
  rw [e2]
  exact Own.put h1
 ·rintro τ ⟨h1, h2⟩
  have ld := fun (τ : St) (h1 : Own τ σ.next (yL 12 fun _ => true) 1) => h1.ldN (P := Pg) (t := 84) agg84 size84 (k := 0) (ds := yL 12 fun _ => true) (by rw [List.drop_zero, List.take_of_length_le (by rw [wD]; omega)]) wD (by rw [wD]; omega)
  have st := h1.store (P := Pg) (k := 0) (t := 84) (v := .agg ⟨yL 12 fun _ => true⟩) (vs := yL 12 fun _ => true) (ds := yL 12 fun _ => true) rfl (by rw [wD]; exact size84) boolL_cells (by omega) (by
   rw [List.drop_of_length_le (by rw [wD]; omega)]; simp)
  exact every_t1x0a (ld τ h1) st (ld _ h1.put) ⟨rfl, (h2.own (Nat.le_refl _)).low _ (Nat.le_refl _) (Nat.le_refl _)⟩
end
end Go.Proofs.Ytmdopblmkkameaa
