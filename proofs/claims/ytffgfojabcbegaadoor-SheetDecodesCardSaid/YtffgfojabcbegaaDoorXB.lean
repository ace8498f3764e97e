import Derived.Test.YtffgfojabcbegaaDoorXA
import Derived.Test.YtffgfojabcbegaaDoorPA
set_option linter.unusedVariables false
set_option linter.unusedSimpArgs false
set_option maxRecDepth 20000
namespace Go.Proofs.YtffgfojabcbegaaDoor
open Go Go.Lay
open Tryd renaming prog → Pg
abbrev intV (n : Int) : Value := iV n
abbrev recL (x : Rec) : List Value := rcd x.m x.s x.t x.k x.a x.b
abbrev recV (x : Rec) : Value := .agg ⟨recL x⟩
def inB (n lo hi : Int) : Bool := decide (lo ≤ n) && decide (n ≤ hi)
theorem inB_iff {n lo hi : Int} : inB n lo hi = true ↔ lo ≤ n ∧ n ≤ hi := by simp [inB]
theorem inB_false {n lo hi : Int} : inB n lo hi = false ↔ ¬ (lo ≤ n ∧ n ≤ hi) := by rw [← Bool.not_eq_true, inB_iff]
theorem take_snoc {α : Type} {xs : List α} {i : Nat} {x : α} (h : xs[i]? = some x) : xs.take (i + 1) = xs.take i ++ [x] := by
 rw [List.take_add_one, h]; rfl
def rightB (x : Rec) : Bool := inB x.m 0 999 && inB x.s 1 9999 && inB x.t 0 1000000 && (if x.k = 0 then inB x.a 0 99 && inB x.b 0 10000 else if x.k = 1 then inB x.a 0 1000000 && decide (x.b = 0) else if x.k = 2 then inB x.a 0 9999 && inB x.b 0 10000000 else false)
theorem rightB_iff {x : Rec} (h : rightB x = true) : 0 ≤ x.m ∧ x.m ≤ 999 ∧ 1 ≤ x.s ∧ x.s ≤ 9999 ∧ 0 ≤ x.t ∧ x.t ≤ 1000000 ∧ 0 ≤ x.k ∧ x.k ≤ 2 ∧ 0 ≤ x.a ∧ x.a ≤ 1000000 ∧ 0 ≤ x.b ∧ x.b ≤ 10000000 := by
 unfold rightB at h
 simp only [Bool.and_eq_true, inB_iff] at h
 obtain ⟨⟨⟨h1, h2⟩, h3⟩, h4⟩ := h
 split at h4
 ·simp only [Bool.and_eq_true, inB_iff] at h4; omega
 ·split at h4
  ·simp only [Bool.and_eq_true, inB_iff, decide_eq_true_eq] at h4; omega
  ·split at h4
   ·simp only [Bool.and_eq_true, inB_iff] at h4; omega
   ·cases h4
section
variable {σ : St}
theorem le0 (σ : St) : Le σ σ.re := Le.re' (Le.refl _)
theorem slv_at {α : Type} {t n len i : Nat} {p : Option Addr} {xs : List α} {f : α → Value} (h : SlV Tryd.prog σ t n p len (xs.map f)) (hi : i < len) : ∃ a, p = some a ∧ ∃ x, xs[i]? = some x ∧ loadA Tryd.prog σ t (aadd a (Int.toNat (i : Int) * n)) = some (f x) := by
 obtain ⟨a, rfl, _⟩ := h.some hi
 have hl : i < xs.length := by have := h.2.1; simp at this; omega
 exact ⟨a, rfl, xs[i], by simp, h.at rfl (by simp [hl])⟩
theorem within_c {n lo hi : Int} : CallsA Tryd.prog 31 [iV n, iV lo, iV hi] σ (.bool (inB n lo hi)) σ := by
 by_cases h1 : lo ≤ n <;> by_cases h2 : n ≤ hi
 ·exact (within_ra ⟨by simp [inB, h1, h2], Nat.le_refl _⟩).pure
 ·exact (within_rb ⟨by simp [inB, h1, h2], Nat.le_refl _⟩).pure
 ·exact (within_rc ⟨by simp [inB, h1], Nat.le_refl _⟩).pure
 ·exact (within_rc ⟨by simp [inB, h1], Nat.le_refl _⟩).pure
theorem rIn_c {n lo hi : Int} : CallsA Tryd.prog 48 [iV n, iV lo, iV hi] σ (.bool (inB n lo hi)) σ := by
 by_cases h1 : lo ≤ n <;> by_cases h2 : n ≤ hi
 ·exact (rIn_ra ⟨by simp [inB, h1, h2], Nat.le_refl _⟩).pure
 ·exact (rIn_rb ⟨by simp [inB, h1, h2], Nat.le_refl _⟩).pure
 ·exact (rIn_rc ⟨by simp [inB, h1], Nat.le_refl _⟩).pure
 ·exact (rIn_rc ⟨by simp [inB, h1], Nat.le_refl _⟩).pure
theorem sale_c {x : Rec} : CallsA Tryd.prog 61 [recV x] σ (.bool (inB x.a 0 99 && inB x.b 0 10000)) σ := by
 cases h : inB x.a 0 99 with
 | true => exact (sale_ra (by rw [← h]; exact within_c) within_c ⟨by rw [Bool.true_and], Nat.le_refl _⟩).pure
 | false => exact (sale_rb (by rw [← h]; exact within_c) ⟨rfl, Nat.le_refl _⟩).pure
theorem sync_c {x : Rec} : CallsA Tryd.prog 62 [recV x] σ (.bool (inB x.a 0 1000000 && decide (x.b = 0))) σ := by
 cases h : inB x.a 0 1000000 with
 | true =>
  by_cases hb : x.b = 0
  ·exact (sync_ra (by rw [← h]; exact within_c) ⟨by simp [hb], Nat.le_refl _⟩ hb).pure
  ·exact (sync_rb (by rw [← h]; exact within_c) ⟨by simp [hb], Nat.le_refl _⟩ hb).pure
 | false => exact (sync_rc (by rw [← h]; exact within_c) ⟨rfl, Nat.le_refl _⟩).pure
theorem closes_c {x : Rec} : CallsA Tryd.prog 63 [recV x] σ (.bool (inB x.a 0 9999 && inB x.b 0 10000000)) σ := by
 cases h : inB x.a 0 9999 with
 | true => exact (closes_ra (by rw [← h]; exact within_c) within_c ⟨by rw [Bool.true_and], Nat.le_refl _⟩).pure
 | false => exact (closes_rb (by rw [← h]; exact within_c) ⟨rfl, Nat.le_refl _⟩).pure
end
abbrev RecsP (σ : St) (t : Nat) (p : Option Addr) (l : Nat) (xs : List Rec) : Prop := SlV Tryd.prog σ t 6 p l (xs.map recV)
section
variable {σ : St} {ts te : Nat}
theorem RecsP.len {t : Nat} {p : Option Addr} {l : Nat} {xs : List Rec} (h : RecsP σ t p l xs) : xs.length = l := by have := h.2.1; simpa using this
end
def Byte (x : Rec) : Prop := 0 ≤ x.k ∧ x.k ≤ 255
abbrev kindL : List Value := [.func (.func 61) ⟨[]⟩ ⟨[]⟩, .func (.func 62) ⟨[]⟩ ⟨[]⟩, .func (.func 63) ⟨[]⟩ ⟨[]⟩]
section
variable {σ : St}
theorem conv8 {n : Int} {τ : St} (h : 0 ≤ n ∧ n ≤ 255) : (belowL τ.q [.int .u8 n] ∧ goodB RD (iV n) = true) ∧ seeOp Pg (evL [.int .u8 n]) τ (.convert 5 3 (.tmp 0)) = some (iV n) := by
 refine ⟨⟨rfl, rfl⟩, ?_⟩
 have e : seeOp Pg (evL [.int .u8 n]) τ (.convert 5 3 (.tmp 0)) = some (iV (wrapK .i64 n)) := by kernel_rfl
 rw [e, wrap64 (by omega) (by omega)]
theorem kinds_c : ∃ b σ', CallsA Pg 44 [] σ (.slice (some ⟨b, 0, none⟩) 3 3) σ' ∧ New σ σ' ∧ Own σ' b kindL 1 := by
 obtain ⟨v, σ', h1, h2, b, rfl, h3⟩ := RunsQ.new (P := Pg) (f := 44) (args := []) (σ := σ) (Q := fun v s => ∃ b, v = .slice (some ⟨b, 0, none⟩) 3 3 ∧ Own s b kindL 1) (kinds_ra ⟨New.row _ _ _, _, rfl, own_new _ _ _⟩)
  (by rintro v s s' ⟨b, rfl, h⟩ hl; exact ⟨b, rfl, h.le hl⟩) (by rintro v s hr ⟨b, rfl, _⟩; exact Bool.noConfusion (show false = true from hr))
 exact ⟨b, σ', h1, h2, h3⟩
theorem valid_c {x : Rec} (hx : Byte x) : CallsA Pg 45 [recV x] σ (.bool (rightB x)) σ := by
 obtain ⟨m, s, t, k, a, b⟩ := x
 obtain ⟨hk0, hk1⟩ := hx
 simp only at hk0 hk1
 cases h1 : inB m 0 999 with
 | false => exact (valid_re (by rw [← h1]; exact within_c) ⟨by simp [rightB, h1], (New.row _ _ _).lw⟩).pure
 | true =>
 cases h2 : inB s 1 9999 with
 | false => exact (valid_rd (by rw [← h1]; exact within_c) (by rw [← h2]; exact within_c) ⟨by simp [rightB, h2], (New.row _ _ _).lw⟩).pure
 | true =>
 cases h3 : inB t 0 1000000 with
 | false => exact (valid_rc (by rw [← h1]; exact within_c) (by rw [← h2]; exact within_c) (by rw [← h3]; exact within_c) ⟨by simp [rightB, h3], (New.row _ _ _).lw⟩).pure
 | true =>
 obtain ⟨b1, σ5, k1, n1, o1⟩ := kinds_c (σ := σ.re.row (rcd m s t k a b) 6)
 have oR : Own (σ.re.row (rcd m s t k a b) 6) σ.q (rcd m s t k a b) 6 := own_new _ _ _
 have N1 : New σ.re (σ.re.row (rcd m s t k a b) 6) := New.row _ _ _
 by_cases hk : k < 3
 rotate_left
 ·exact (valid_rb (by rw [← h1]; exact within_c) (by rw [← h2]; exact within_c) (by rw [← h3]; exact within_c) k1 (belowL_cons (belowB_sl1 o1.lt) belowL_nil) ⟨⟨(oR.le n1.le).lt, rfl⟩, (oR.le n1.le).ld rfl agg5 rfl⟩ (conv8 ⟨hk0, hk1⟩) (conv8 ⟨hk0, hk1⟩)
   ⟨by simp [rightB, show ¬ k = 0 by omega, show ¬ k = 1 by omega, show ¬ k = 2 by omega], (N1.trans n1).lw⟩).pure
 obtain ⟨b2, σ7, k2, n2, o2⟩ := kinds_c (σ := σ5)
 have o5 := oR.le n1.le
 have o7 := o5.le n2.le
 have NN := (N1.trans n1).trans n2
 have key : ∀ (g : FuncId) (B : Bool), loadA Pg σ7 107 (aadd ⟨b2, 0, none⟩ (Int.toNat k * 1 + 0)) = some (.func (.func g) ⟨[]⟩ ⟨[]⟩) → CallsA Pg g [.agg ⟨rcd m s t k a b⟩] σ7 (.bool B) σ7 → B = rightB ⟨m, s, t, k, a, b⟩ → CallsA Pg 45 [recV ⟨m, s, t, k, a, b⟩] σ (.bool (rightB ⟨m, s, t, k, a, b⟩)) σ := by
  intro g B hl hc hB
  exact (valid_ra (by rw [← h1]; exact within_c) (by rw [← h2]; exact within_c) (by rw [← h3]; exact within_c) k1 k2 (o7.ld rfl agg5 rfl) hl (o7.ldN agg40 size40 (k := 0) rfl rfl (by simp)) hc (belowL_cons (belowB_sl1 o1.lt) belowL_nil) (belowL_cons (belowB_ptr o7.lt) belowL_nil) (belowL_cons (belowB_ptr o2.lt) belowL_nil) (belowL_cons (belowB_ptr o7.lt) belowL_nil) rfl
   ⟨⟨o5.lt, rfl⟩, o5.ld rfl agg5 rfl⟩ (conv8 ⟨hk0, hk1⟩) (conv8 ⟨hk0, hk1⟩) ⟨⟨o5.lt, rfl⟩, o5.ld rfl agg5 rfl⟩ ⟨⟨o7.lt, rfl⟩, o7.ld rfl agg5 rfl⟩ ⟨⟨o5.lt, rfl⟩, o5.ldN agg40 size40 (k := 0) rfl rfl (by simp)⟩ ⟨⟨o7.lt, rfl⟩, o7.ldN agg40 size40 (k := 0) rfl rfl (by simp)⟩ ⟨by rw [hB], NN.lw⟩).pure
 have hkk : k = 0 ∨ k = 1 ∨ k = 2 := by omega
 rcases hkk with rfl | rfl | rfl
 ·exact key 61 _ (o2.ld rfl agg107 (k := 0) rfl) (sale_c (x := ⟨m, s, t, 0, a, b⟩)) (by simp [rightB, h1, h2, h3])
 ·exact key 62 _ (o2.ld rfl agg107 (k := 1) rfl) (sync_c (x := ⟨m, s, t, 1, a, b⟩)) (by simp [rightB, h1, h2, h3])
 ·exact key 63 _ (o2.ld rfl agg107 (k := 2) rfl) (closes_c (x := ⟨m, s, t, 2, a, b⟩)) (by simp [rightB, h1, h2, h3])
theorem rRight_c {x : Rec} : CallsA Pg 24 [recV x] σ (.bool (rightB x)) σ := by
 obtain ⟨m, s, t, k, a, b⟩ := x
 have N1 := (New.row σ.re (rcd m s t k a b) 6).lw
 cases h1 : inB m 0 999 with
 | false => exact (rRight_rk (by rw [← h1]; exact rIn_c) ⟨by simp [rightB, h1], N1⟩).pure
 | true =>
 cases h2 : inB s 1 9999 with
 | false => exact (rRight_rj (by rw [← h1]; exact rIn_c) (by rw [← h2]; exact rIn_c) ⟨by simp [rightB, h2], N1⟩).pure
 | true =>
 cases h3 : inB t 0 1000000 with
 | false => exact (rRight_ri (by rw [← h1]; exact rIn_c) (by rw [← h2]; exact rIn_c) (by rw [← h3]; exact rIn_c) ⟨by simp [rightB, h3], N1⟩).pure
 | true =>
 by_cases k0 : k = 0
 ·subst k0
  cases h4 : inB a 0 99 with
  | true => exact (rRight_ra (by rw [← h1]; exact rIn_c) (by rw [← h2]; exact rIn_c) (by rw [← h3]; exact rIn_c) (by rw [← h4]; exact rIn_c) rIn_c ⟨by simp [rightB, h1, h2, h3, h4], N1⟩ rfl).pure
  | false => exact (rRight_rb (by rw [← h1]; exact rIn_c) (by rw [← h2]; exact rIn_c) (by rw [← h3]; exact rIn_c) (by rw [← h4]; exact rIn_c) ⟨by simp [rightB, h4], N1⟩ rfl).pure
 by_cases k1 : k = 1
 ·subst k1
  cases h4 : inB a 0 1000000 with
  | true =>
   by_cases hb : b = 0
   ·exact (rRight_rc (by rw [← h1]; exact rIn_c) (by rw [← h2]; exact rIn_c) (by rw [← h3]; exact rIn_c) (by rw [← h4]; exact rIn_c) ⟨by simp [rightB, h1, h2, h3, h4, hb], N1⟩ k0 rfl hb).pure
   ·exact (rRight_rd (by rw [← h1]; exact rIn_c) (by rw [← h2]; exact rIn_c) (by rw [← h3]; exact rIn_c) (by rw [← h4]; exact rIn_c) ⟨by simp [rightB, h1, h2, h3, h4, hb], N1⟩ k0 rfl hb).pure
  | false => exact (rRight_re (by rw [← h1]; exact rIn_c) (by rw [← h2]; exact rIn_c) (by rw [← h3]; exact rIn_c) (by rw [← h4]; exact rIn_c) ⟨by simp [rightB, h4], N1⟩ k0 rfl).pure
 by_cases k2 : k = 2
 ·subst k2
  cases h4 : inB a 0 9999 with
  | true => exact (rRight_rf (by rw [← h1]; exact rIn_c) (by rw [← h2]; exact rIn_c) (by rw [← h3]; exact rIn_c) (by rw [← h4]; exact rIn_c) rIn_c ⟨by simp [rightB, h1, h2, h3, h4], N1⟩ k0 k1 rfl).pure
  | false => exact (rRight_rg (by rw [← h1]; exact rIn_c) (by rw [← h2]; exact rIn_c) (by rw [← h3]; exact rIn_c) (by rw [← h4]; exact rIn_c) ⟨by simp [rightB, h4], N1⟩ k0 k1 rfl).pure
 exact (rRight_rh (by rw [← h1]; exact rIn_c) (by rw [← h2]; exact rIn_c) (by rw [← h3]; exact rIn_c) ⟨by simp [rightB, k0, k1, k2], N1⟩ k0 k1 k2).pure
theorem record_c {x : Rec} : CallsA Pg 26 [recV x] σ (recV x) σ := (record_ra ⟨rfl, by simp⟩).pure
end
theorem appT_rec : AppT Pg 24 24 40 6 := appT_of (by kernel_rfl)
theorem appT_ref : AppT Pg 28 28 63 6 := appT_of (by kernel_rfl)
theorem elOk_rec (x : Rec) : elOk Pg 40 6 (recV x) := .inr ⟨agg40, size40, _, rfl, rfl⟩
theorem elOk_ref (x : Rec) : elOk Pg 63 6 (recV x) := .inr ⟨agg63, size63, _, rfl, rfl⟩
def recQ (j : Nat) : IntKind := if j = 3 then .u8 else .i64
theorem rec_at (x : Rec) (j : Nat) (n : Int) (h : [x.m, x.s, x.t, x.k, x.a, x.b][j]? = some n) : (⟨recL x⟩ : Array Value)[j]? = some (.int (recQ j) n) := by
 rcases j with _ | _ | _ | _ | _ | _ | j <;> simp_all [recQ]
theorem rec_list {x y : Rec} : [x.m, x.s, x.t, x.k, x.a, x.b] = [y.m, y.s, y.t, y.k, y.a, y.b] ↔ x = y := by
 constructor
 ·intro h; simp at h; cases x; cases y; simp_all
 ·rintro rfl; rfl
theorem pv_eq79 (x y : Rec) : pureVal Pg (Op.equal 40 (recV x) (recV y)) = some (decide (x = y)) := by
 have h := pv_recK (P := Pg) (t := 40) (n := 6) (d := 9998) recQ (by kernel_rfl) («as» := [x.m, x.s, x.t, x.k, x.a, x.b]) (bs := [y.m, y.s, y.t, y.k, y.a, y.b]) (xs := ⟨recL x⟩) (ys := ⟨recL y⟩) rfl rfl (rec_at x) (rec_at y)
 rw [show decide (x = y) = decide ([x.m, x.s, x.t, x.k, x.a, x.b] = [y.m, y.s, y.t, y.k, y.a, y.b]) from decide_eq_decide.2 rec_list.symm]
 exact h
theorem neq79 {x y : Rec} {o1 o2 : Operand} : binA Pg .neq 40 o1 o2 (recV x) (recV y) = some (.bool (!decide (x = y))) := by
 have e : ∀ (x1 x2 x3 x4 x5 x6 y1 y2 y3 y4 y5 y6 : Int), binA Pg .neq 40 o1 o2 (.agg ⟨rcd x1 x2 x3 x4 x5 x6⟩) (.agg ⟨rcd y1 y2 y3 y4 y5 y6⟩) = (pureVal Pg (do eqGuard .neq 40 o1 o2 (.agg ⟨rcd x1 x2 x3 x4 x5 x6⟩) (.agg ⟨rcd y1 y2 y3 y4 y5 y6⟩); binOp .neq 40 (.agg ⟨rcd x1 x2 x3 x4 x5 x6⟩) (.agg ⟨rcd y1 y2 y3 y4 y5 y6⟩))).filter (rigidB RD) := fun _ _ _ _ _ _ _ _ _ _ _ _ => by kernel_rfl
 have e1 : ∀ (x1 x2 x3 x4 x5 x6 y1 y2 y3 y4 y5 y6 : Int), pureVal Pg (eqGuard .neq 40 o1 o2 (.agg ⟨rcd x1 x2 x3 x4 x5 x6⟩) (.agg ⟨rcd y1 y2 y3 y4 y5 y6⟩)) = some () := fun _ _ _ _ _ _ _ _ _ _ _ _ => by kernel_rfl
 have e2 : ∀ x y : List Value, binOp .neq 40 (.agg ⟨x⟩) (.agg ⟨y⟩) = (do let r ← Op.equal 40 (.agg ⟨x⟩) (.agg ⟨y⟩); pure (.bool (!r))) := fun _ _ => rfl
 rw [e, pv_bind, e1]
 simp only [Option.bind_some]
 rw [e2, pv_bind, pv_eq79]
 rfl
section
variable {σ : St}
theorem same_c {p q : Option Addr} {l m c d : Nat} {xs ys : List Rec} (h1 : RecsP σ 40 p l xs) (h2 : RecsP σ 63 q m ys) (hl : l ≤ 1073741824) : CallsA Pg 10 [.slice p l c, .slice q m d] σ (.bool (decide (xs = ys))) σ := by
 have e1 := h1.len
 have e2 := h2.len
 by_cases hm : l = m
 rotate_left
 ·exact (same_ra ⟨by rw [decide_eq_false (fun e => hm (by rw [← e1, ← e2, e]))], Nat.le_refl _⟩ (by omega)).pure
 subst hm
 refine RunsQ.pure (same_rb (Pr := fun b τ => τ = σ.re ∧ b = decide (xs = ys)) (P0 := fun τ => τ = σ.re ∧ xs = ys) (same_loop1 (Inv := fun k i τ => ∃ s : Nat, i = s ∧ s + k = l ∧ τ = σ.re ∧ xs.take s = ys.take s) ?_ l 0 σ.re ⟨0, rfl, by omega, rfl, rfl⟩) (fun b τ h => same_t1xra ⟨by rw [h.2], by rw [h.1]; exact Nat.le_refl _⟩) (fun τ h => same_t1x0a ⟨by rw [h.2, decide_eq_true rfl], by rw [h.1]; exact Nat.le_refl _⟩) (by omega))
 rintro k i τ ⟨s, rfl, hk, rfl, ha⟩
 by_cases hs : s < l
 rotate_left
 ·refine same_s1c ⟨rfl, ?_⟩ (by omega)
  rwa [List.take_of_length_le (by omega), List.take_of_length_le (by omega)] at ha
 have s1 := SlV.le h1 (le0 σ)
 have s2 := SlV.le h2 (le0 σ)
 obtain ⟨a, rfl, x, hx, l1⟩ := slv_at s1 hs
 obtain ⟨b, rfl, y, hy, l2⟩ := slv_at s2 hs
 have ba := slv_lt s1 a rfl
 have bb := slv_lt s2 b rfl
 by_cases e : x = y
 ·exact same_s1b l1 l2 record_c (by rw [neq79, decide_eq_true e]; rfl) ⟨k - 1, by omega, s + 1, by omega, by omega, rfl, by rw [take_snoc hx, take_snoc hy, ha, e]⟩
 ·refine same_s1a l1 l2 record_c (by rw [neq79, decide_eq_false e]; rfl) ⟨rfl, ?_⟩
  rw [decide_eq_false]
  intro k
  rw [k, hy] at hx
  exact e (Option.some.inj hx).symm
end
section
variable {s q3 q5 q6 slices qA p6_2 qU qQ qG parts q1 p2_1 qF qO b p3_1 qB qN qI qV qC p4_1 qJ : Option Addr} {s_l s_c l3 c3 l5 c5 l6 c6 slices_l slices_c lA cA l6_2 c6_2 lU cU lQ cQ lH cH parts_l parts_c l1 c1 l2_1 c2_1 lG cF lO cO b_l b_c l3_1 c3_1 lB cB lN cN lI cI lV cV lD cC BA l4_1 c4_1 lJ cJ : Nat} {n n1 n2 i3_1 i11_1 i27_2 r_Machine r_Seq r_Minute r_Kind r_A r_B i0_1 zD zB zA i4_1 i9_1 nA zF i5_1 i6_1 i7_1 z3 zE : Int} {σ4 σ σW σJ σ2 σB σD σK σU σO σC σI : St} {Q : Value → St → Prop} {Inv : Nat → (Option Addr) → Nat → Nat → Int → St → Prop} {Q0 P0 Q2 P2 : (Option Addr) → Nat → Nat → St → Prop} {slices_a b_a q5_a q1_a : Addr} {Nx : (Option Addr) → Nat → Nat → Int → St → Prop} {cs1 : List Value}
theorem growB_ra (h1 : seeOp Pg (evL [.slice s s_l s_c]) σ (.call { callee := .builtin .cap, args := ⟨tmpsTo 1⟩, argTypes := ⟨[22]⟩ }) = some (iV n1)) (h2 : seeOp Pg (evL [.slice s s_l s_c]) σ (.call { callee := .builtin .cap, args := ⟨tmpsTo 1⟩, argTypes := ⟨[22]⟩ }) = some (iV n2)) (h3 : sliceA Pg σ 22 (.slice s s_l s_c) none (some (iV n2)) none = some (.slice q3 l3 c3)) (h4 : appendA Pg 22 3 (.slice q3 l3 c3) (iV (n - (n1 - ((s_l : Nat) : Int)))) σ = some (.slice q5 l5 c5, σ4)) (h5 : sliceA Pg σ4 22 (.slice q5 l5 c5) none (some (iV ((s_l : Nat) : Int))) none = some (.slice q6 l6 c6)) (nx : Q (.slice q6 l6 c6) σ4) (u1 : ¬ n < 0 := by omega) (u2 : -9223372036854775808 ≤ n1 - ((s_l : Nat) : Int) ∧ n1 - ((s_l : Nat) : Int) ≤ 9223372036854775807 := by omega) (u3 : -9223372036854775808 ≤ n - (n1 - ((s_l : Nat) : Int)) ∧ n - (n1 - ((s_l : Nat) : Int)) ≤ 9223372036854775807 := by omega) (u4 : 0 < (n - (n1 - ((s_l : Nat) : Int))) := by omega) : RunsQ Pg 72 [.slice s s_l s_c, iV n] σ Q :=
 runsQ_of [.g, .g, .b false, .g, .g, .v (iV n1), .g, .g, .n (n1 - ((s_l : Nat) : Int)), .n (n - (n1 - ((s_l : Nat) : Int))), .g, .g, .b true, .g, .g, .v (iV n2), .v (.slice q3 l3 c3), .g, .e (.slice q5 l5 c5) σ4, .g, .g, .v (.slice q6 l6 c6), .g, .g, .g] (kc (by kernel_rfl) (ai (ltI_ff u1) (ai h1 (ai (wrap64 (n := n1 - ((s_l : Nat) : Int)) u2.1 u2.2) (ai (wrap64 (n := n - (n1 - ((s_l : Nat) : Int))) u3.1 u3.2) (ai (ltI_tt u4) (ai h2 (ai h3 (ai h4 (ai h5 nx))))))))))
theorem growB_rb (h1 : seeOp Pg (evL [.slice s s_l s_c]) σ (.call { callee := .builtin .cap, args := ⟨tmpsTo 1⟩, argTypes := ⟨[22]⟩ }) = some (iV n1)) (nx : Q (.slice s s_l s_c) σ) (u1 : ¬ n < 0 := by omega) (u2 : -9223372036854775808 ≤ n1 - ((s_l : Nat) : Int) ∧ n1 - ((s_l : Nat) : Int) ≤ 9223372036854775807 := by omega) (u3 : -9223372036854775808 ≤ n - (n1 - ((s_l : Nat) : Int)) ∧ n - (n1 - ((s_l : Nat) : Int)) ≤ 9223372036854775807 := by omega) (u4 : ¬ 0 < (n - (n1 - ((s_l : Nat) : Int))) := by omega) : RunsQ Pg 72 [.slice s s_l s_c, iV n] σ Q :=
 runsQ_of [.g, .g, .b false, .g, .g, .v (iV n1), .g, .g, .n (n1 - ((s_l : Nat) : Int)), .n (n - (n1 - ((s_l : Nat) : Int))), .g, .g, .b false, .g, .g] (kc (by kernel_rfl) (ai (ltI_ff u1) (ai h1 (ai (wrap64 (n := n1 - ((s_l : Nat) : Int)) u2.1 u2.2) (ai (wrap64 (n := n - (n1 - ((s_l : Nat) : Int))) u3.1 u3.2) (ai (ltI_ff u4) nx))))))
noncomputable def concB_c1 : Code := (Code.part [1, 1, 0, 1, 0, 0] (bodyOf Pg 54))
def concB_l1 (slices : Option Addr) (slices_l slices_c : Nat) (i3_1 i11_1 : Int) : List (Nat × Value) := [(0, .slice slices slices_l slices_c), (3, iV i3_1), (9, .slice slices slices_l slices_c), (10, iV ((slices_l : Nat) : Int)), (11, iV i11_1)]
def concB_a1n (slices : Option Addr) (slices_l slices_c : Nat) (Q : Int → Int → St → Prop) : Alt := ⟨Int × Int, .normal, fun t => concB_l1 slices slices_l slices_c t.1 t.2, fun t => [], fun t σ => Q t.1 t.2 σ⟩
def concB_l1x0 (slices : Option Addr) (slices_l slices_c : Nat) (i3_1 : Int) : List (Nat × Value) := [(0, .slice slices slices_l slices_c), (3, iV i3_1)]
def concB_a1x0 (slices : Option Addr) (slices_l slices_c : Nat) (Q : Int → St → Prop) : Alt := ⟨Int, (.exit 0), fun t => concB_l1x0 slices slices_l slices_c t, fun t => [], fun t σ => Q t σ⟩
def concB_B1 (slices : Option Addr) (slices_l slices_c : Nat) (i3_1 i11_1 : Int) (σ : St) (Nx : Int → Int → St → Prop) (Q0 : Int → St → Prop) : Prop := BodyG Pg (runA Pg) none concB_c1 36 (concB_l1 slices slices_l slices_c i3_1 i11_1) [] [concB_a1n slices slices_l slices_c Nx, concB_a1x0 slices slices_l slices_c Q0] σ
def concB_L1 (slices : Option Addr) (slices_l slices_c : Nat) (i3_1 i11_1 : Int) (σ : St) (Q0 : Int → St → Prop) : Prop := LoopG Pg (runA Pg) none concB_c1 36 (concB_l1 slices slices_l slices_c i3_1 i11_1) [] [concB_a1x0 slices slices_l slices_c Q0] σ
theorem concB_loop1 {Inv : Nat → Int → Int → St → Prop} {Q0 : Int → St → Prop} (hb : ∀ k i3_1 i11_1 σ, Inv k i3_1 i11_1 σ → concB_B1 slices slices_l slices_c i3_1 i11_1 σ (fun i3_1' i11_1' σ' => ∃ k', k' < k ∧ Inv k' i3_1' i11_1' σ') Q0) : ∀ k i3_1 i11_1 σ, Inv k i3_1 i11_1 σ → concB_L1 slices slices_l slices_c i3_1 i11_1 σ Q0 :=
 fun k i3_1 i11_1 σ h => loopG_inv (alts := [concB_a1x0 slices slices_l slices_c Q0]) (T := Int × Int) (lf := fun t => concB_l1 slices slices_l slices_c t.1 t.2) (mf := fun t => []) (Inv := fun k t σ => Inv k t.1 t.2 σ) (ai (exNe 0) trivial) (fun k t σ h => hb k t.1 t.2 σ h) k (i3_1, i11_1) σ h
theorem concB_s1a {Nx : Int → Int → St → Prop} {Q0 : Int → St → Prop} (h1 : loadA Pg σ 22 (aadd slices_a (Int.toNat i11_1 * 1)) = some (.slice qA lA cA)) (nx : Nx (i3_1 + ((lA : Nat) : Int)) (i11_1 + 1) σ) (u1 : i11_1 < ((slices_l : Nat) : Int) := by omega) (u2 : 0 ≤ i11_1 ∧ i11_1 < ((slices_l : Nat) : Int) := by omega) (u3 : -9223372036854775808 ≤ i3_1 + ((lA : Nat) : Int) ∧ i3_1 + ((lA : Nat) : Int) ≤ 9223372036854775807 := by omega) (u4 : ¬ (i3_1 + ((lA : Nat) : Int)) < 0 := by omega) (u5 : -9223372036854775808 ≤ i11_1 + 1 ∧ i11_1 + 1 ≤ 9223372036854775807 := by omega) : concB_B1 (some slices_a) slices_l slices_c i3_1 i11_1 σ Nx Q0 :=
 body_of [.b true, .i, .l (.slice qA lA cA), .g, .g, .g, .g, .n (i3_1 + ((lA : Nat) : Int)), .g, .g, .b false, .n (i11_1 + 1), .g, .fin (concB_a1n (some slices_a) slices_l slices_c Nx) ((i3_1 + ((lA : Nat) : Int)), i11_1 + 1)] (fun g => kc (by kernel_rfl) (ai (ltI_tt u1) (ai u2 (ai h1 (ai (wrap64 (n := i3_1 + ((lA : Nat) : Int)) u3.1 u3.2) (ai (ltI_ff u4) (ai (wrap64 (n := i11_1 + 1) u5.1 u5.2) (fin (alts := [concB_a1n (some slices_a) slices_l slices_c Nx, concB_a1x0 (some slices_a) slices_l slices_c Q0]) (concB_a1n (some slices_a) slices_l slices_c Nx) ((i3_1 + ((lA : Nat) : Int)), i11_1 + 1) nx in0))))))))
theorem concB_s1b {Nx : Int → Int → St → Prop} {Q0 : Int → St → Prop} (nx : Q0 i3_1 σ) (u1 : ¬ i11_1 < ((slices_l : Nat) : Int) := by omega) : concB_B1 slices slices_l slices_c i3_1 i11_1 σ Nx Q0 :=
 body_of [.b false, .fin (concB_a1x0 slices slices_l slices_c Q0) i3_1] (fun g => kc (by kernel_rfl) (ai (ltI_ff u1) (fin (alts := [concB_a1n slices slices_l slices_c Nx, concB_a1x0 slices slices_l slices_c Q0]) (concB_a1x0 slices slices_l slices_c Q0) i3_1 nx (inS in0))))
def concB_K1_0 (slices : Option Addr) (slices_l slices_c : Nat) (i3_1 : Int) (σ : St) (Q : Value → St → Prop) : Prop := ∀ g : Nat → Value, ∃ an, Hid (kAt Pg (runA Pg) none (bodyOf Pg 54) [1, 1, 0, 1, 0] (kFn Pg 54 Q) (.exit 0) ⟨Fm 36 (ov (concB_l1x0 slices slices_l slices_c i3_1) g), []⟩ σ an)
theorem concB_ra {P0 : Int → St → Prop} (hL : concB_L1 slices slices_l slices_c 0 0 σ P0) (k0 : ∀ i3_1' σ', P0 i3_1' σ' → concB_K1_0 slices slices_l slices_c i3_1' σ' Q) : RunsQ Pg 54 [.slice slices slices_l slices_c] σ Q :=
 runsQ_of [.g, .g, .g, .g, .g, .lf 36 (concB_l1 slices slices_l slices_c 0 0) [concB_a1x0 slices slices_l slices_c P0]] (kc (by kernel_rfl) (ai (ai tt (ai (arf (concB_l1 slices slices_l slices_c 0 0)) hL)) (ai (fun (t : Int) (g' : Nat → Value) (σ' : St) (q : P0 t σ') => k0 t σ' q g') trivial)))
noncomputable def concB_c2 : Code := (Code.part [1, 1, 1, 1, 0, 1, 0, 0] (bodyOf Pg 54))
def concB_l2 (slices : Option Addr) (slices_l slices_c : Nat) (p6_2 : Option Addr) (l6_2 c6_2 : Nat) (i27_2 : Int) : List (Nat × Value) := [(6, .slice p6_2 l6_2 c6_2), (25, .slice slices slices_l slices_c), (26, iV ((slices_l : Nat) : Int)), (27, iV i27_2)]
def concB_a2n (slices : Option Addr) (slices_l slices_c : Nat) (Q : (Option Addr) → Nat → Nat → Int → St → Prop) : Alt := ⟨(Option Addr) × Nat × Nat × Int, .normal, fun t => concB_l2 slices slices_l slices_c t.1 t.2.1 t.2.2.1 t.2.2.2, fun t => [], fun t σ => Q t.1 t.2.1 t.2.2.1 t.2.2.2 σ⟩
def concB_l2x2 (slices : Option Addr) (slices_l slices_c : Nat) (p6_2 : Option Addr) (l6_2 c6_2 : Nat) : List (Nat × Value) := [(6, .slice p6_2 l6_2 c6_2)]
def concB_a2x2 (slices : Option Addr) (slices_l slices_c : Nat) (Q : (Option Addr) → Nat → Nat → St → Prop) : Alt := ⟨(Option Addr) × Nat × Nat, (.exit 2), fun t => concB_l2x2 slices slices_l slices_c t.1 t.2.1 t.2.2, fun t => [], fun t σ => Q t.1 t.2.1 t.2.2 σ⟩
def concB_B2 (slices : Option Addr) (slices_l slices_c : Nat) (p6_2 : Option Addr) (l6_2 c6_2 : Nat) (i27_2 : Int) (σ : St) (Nx : (Option Addr) → Nat → Nat → Int → St → Prop) (Q2 : (Option Addr) → Nat → Nat → St → Prop) : Prop := BodyG Pg (runA Pg) none concB_c2 36 (concB_l2 slices slices_l slices_c p6_2 l6_2 c6_2 i27_2) [] [concB_a2n slices slices_l slices_c Nx, concB_a2x2 slices slices_l slices_c Q2] σ
def concB_L2 (slices : Option Addr) (slices_l slices_c : Nat) (p6_2 : Option Addr) (l6_2 c6_2 : Nat) (i27_2 : Int) (σ : St) (Q2 : (Option Addr) → Nat → Nat → St → Prop) : Prop := LoopG Pg (runA Pg) none concB_c2 36 (concB_l2 slices slices_l slices_c p6_2 l6_2 c6_2 i27_2) [] [concB_a2x2 slices slices_l slices_c Q2] σ
theorem concB_loop2 (hb : ∀ k p6_2 l6_2 c6_2 i27_2 σ, Inv k p6_2 l6_2 c6_2 i27_2 σ → concB_B2 slices slices_l slices_c p6_2 l6_2 c6_2 i27_2 σ (fun p6_2' l6_2' c6_2' i27_2' σ' => ∃ k', k' < k ∧ Inv k' p6_2' l6_2' c6_2' i27_2' σ') Q2) : ∀ k p6_2 l6_2 c6_2 i27_2 σ, Inv k p6_2 l6_2 c6_2 i27_2 σ → concB_L2 slices slices_l slices_c p6_2 l6_2 c6_2 i27_2 σ Q2 :=
 fun k p6_2 l6_2 c6_2 i27_2 σ h => loopG_inv (alts := [concB_a2x2 slices slices_l slices_c Q2]) (T := (Option Addr) × Nat × Nat × Int) (lf := fun t => concB_l2 slices slices_l slices_c t.1 t.2.1 t.2.2.1 t.2.2.2) (mf := fun t => []) (Inv := fun k t σ => Inv k t.1 t.2.1 t.2.2.1 t.2.2.2 σ) (ai (exNe 2) trivial) (fun k t σ h => hb k t.1 t.2.1 t.2.2.1 t.2.2.2 σ h) k (p6_2, l6_2, c6_2, i27_2) σ h
theorem concB_s2a (h1 : loadA Pg σ 22 (aadd slices_a (Int.toNat i27_2 * 1)) = some (.slice qU lU cU)) (h2 : appendA Pg 22 22 (.slice p6_2 l6_2 c6_2) (.slice qU lU cU) σ = some (.slice qQ lQ cQ, σW)) (nx : Nx qQ lQ cQ (i27_2 + 1) σW) (u1 : i27_2 < ((slices_l : Nat) : Int) := by omega) (u2 : 0 ≤ i27_2 ∧ i27_2 < ((slices_l : Nat) : Int) := by omega) (u3 : -9223372036854775808 ≤ i27_2 + 1 ∧ i27_2 + 1 ≤ 9223372036854775807 := by omega) : concB_B2 (some slices_a) slices_l slices_c p6_2 l6_2 c6_2 i27_2 σ Nx Q2 :=
 body_of [.b true, .i, .l (.slice qU lU cU), .g, .g, .g, .e (.slice qQ lQ cQ) σW, .g, .n (i27_2 + 1), .g, .fin (concB_a2n (some slices_a) slices_l slices_c Nx) (qQ, lQ, cQ, i27_2 + 1)] (fun g => kc (by kernel_rfl) (ai (ltI_tt u1) (ai u2 (ai h1 (ai h2 (ai (wrap64 (n := i27_2 + 1) u3.1 u3.2) (fin (alts := [concB_a2n (some slices_a) slices_l slices_c Nx, concB_a2x2 (some slices_a) slices_l slices_c Q2]) (concB_a2n (some slices_a) slices_l slices_c Nx) (qQ, lQ, cQ, i27_2 + 1) nx in0)))))))
theorem concB_s2b (nx : Q2 p6_2 l6_2 c6_2 σ) (u1 : ¬ i27_2 < ((slices_l : Nat) : Int) := by omega) : concB_B2 slices slices_l slices_c p6_2 l6_2 c6_2 i27_2 σ Nx Q2 :=
 body_of [.b false, .fin (concB_a2x2 slices slices_l slices_c Q2) (p6_2, l6_2, c6_2)] (fun g => kc (by kernel_rfl) (ai (ltI_ff u1) (fin (alts := [concB_a2n slices slices_l slices_c Nx, concB_a2x2 slices slices_l slices_c Q2]) (concB_a2x2 slices slices_l slices_c Q2) (p6_2, l6_2, c6_2) nx (inS in0))))
def concB_K2_2 (slices : Option Addr) (slices_l slices_c : Nat) (p6_2 : Option Addr) (l6_2 c6_2 : Nat) (σ : St) (Q : Value → St → Prop) : Prop := ∀ g : Nat → Value, ∃ an, Hid (kAt Pg (runA Pg) none (bodyOf Pg 54) [1, 1, 1, 1, 0, 1, 0] (kFn Pg 54 Q) (.exit 2) ⟨Fm 36 (ov (concB_l2x2 slices slices_l slices_c p6_2 l6_2 c6_2) g), []⟩ σ an)
theorem concB_t1x0a (h1 : CallsA Pg 72 [.slice none 0 0, iV i3_1] σ (.slice qG lH cH) σJ) (hL : concB_L2 slices slices_l slices_c qG lH cH 0 σJ P2) (k2 : ∀ p6_2' l6_2' c6_2' σ', P2 p6_2' l6_2' c6_2' σ' → concB_K2_2 slices slices_l slices_c p6_2' l6_2' c6_2' σ' Q) : concB_K1_0 slices slices_l slices_c i3_1 σ Q :=
 fun g => ⟨[.g, .c (.slice qG lH cH) σJ, .g, .g, .g, .g, .lf 36 (concB_l2 slices slices_l slices_c qG lH cH 0) [concB_a2x2 slices slices_l slices_c P2]], kc (by kernel_rfl) (ai h1 (ai (ai tt (ai (arf (concB_l2 slices slices_l slices_c qG lH cH 0)) hL)) (ai (fun (t : (Option Addr) × Nat × Nat) (g' : Nat → Value) (σ' : St) (q : P2 t.1 t.2.1 t.2.2 σ') => k2 t.1 t.2.1 t.2.2 σ' q g') trivial)))⟩
theorem concB_t2x2a (nx : Q (.slice p6_2 l6_2 c6_2) σ) : concB_K2_2 slices slices_l slices_c p6_2 l6_2 c6_2 σ Q :=
 fun g => ⟨[.g, .g], kc (by kernel_rfl) nx⟩
theorem join_ra (h1 : CallsA Pg 54 [.slice parts parts_l parts_c] σ (.slice q1 l1 c1) σ2) (nx : Q (.slice q1 l1 c1) σ2) : RunsQ Pg 28 [.slice parts parts_l parts_c] σ Q :=
 runsQ_of [.g, .g, .c (.slice q1 l1 c1) σ2, .g] (kc (by kernel_rfl) (ai h1 nx))
theorem fields_ra (nx : Q (.agg ⟨ints6 r_Machine r_Seq r_Minute r_Kind r_A r_B⟩) (((σ.row (rcd r_Machine r_Seq r_Minute r_Kind r_A r_B) 6).row (ints6 0 0 0 0 0 0) 1).own (σ.q + 1) (ints6 r_Machine r_Seq r_Minute r_Kind r_A r_B) 1)) (u1 : -9223372036854775808 ≤ r_Kind ∧ r_Kind ≤ 9223372036854775807 := by omega) : RunsQ Pg 64 [.agg ⟨rcd r_Machine r_Seq r_Minute r_Kind r_A r_B⟩] σ Q :=
 runsQ_of [.g, .g, .g, .l (iV r_Machine), .g, .l (iV r_Seq), .g, .l (iV r_Minute), .g, .l (.int .u8 r_Kind), .n r_Kind, .g, .l (iV r_A), .g, .l (iV r_B), .g, .e undef (((σ.row (rcd r_Machine r_Seq r_Minute r_Kind r_A r_B) 6).row (ints6 0 0 0 0 0 0) 1).own (σ.q + 1) (ints6 r_Machine r_Seq r_Minute r_Kind r_A r_B) 1), .l (.agg ⟨ints6 r_Machine r_Seq r_Minute r_Kind r_A r_B⟩)] (kc (by kernel_rfl) (ai ((own_new _ _ _).row.rw.ld agg3 (k := 0) rfl : loadA Pg ((σ.row (rcd r_Machine r_Seq r_Minute r_Kind r_A r_B) 6).row (ints6 0 0 0 0 0 0) 1) 3 ⟨σ.q, 0, none⟩ = some (iV r_Machine)) (ai ((own_new _ _ _).row.rw.ld agg3 (k := 1) rfl : loadA Pg ((σ.row (rcd r_Machine r_Seq r_Minute r_Kind r_A r_B) 6).row (ints6 0 0 0 0 0 0) 1) 3 ⟨σ.q, 1, none⟩ = some (iV r_Seq)) (ai ((own_new _ _ _).row.rw.ld agg3 (k := 2) rfl : loadA Pg ((σ.row (rcd r_Machine r_Seq r_Minute r_Kind r_A r_B) 6).row (ints6 0 0 0 0 0 0) 1) 3 ⟨σ.q, 2, none⟩ = some (iV r_Minute)) (ai ((own_new _ _ _).row.rw.ld agg5 (k := 3) rfl : loadA Pg ((σ.row (rcd r_Machine r_Seq r_Minute r_Kind r_A r_B) 6).row (ints6 0 0 0 0 0 0) 1) 5 ⟨σ.q, 3, none⟩ = some (.int .u8 r_Kind)) (ai (wrap64 (n := r_Kind) u1.1 u1.2) (ai ((own_new _ _ _).row.rw.ld agg3 (k := 4) rfl : loadA Pg ((σ.row (rcd r_Machine r_Seq r_Minute r_Kind r_A r_B) 6).row (ints6 0 0 0 0 0 0) 1) 3 ⟨σ.q, 4, none⟩ = some (iV r_A)) (ai ((own_new _ _ _).row.rw.ld agg3 (k := 5) rfl : loadA Pg ((σ.row (rcd r_Machine r_Seq r_Minute r_Kind r_A r_B) 6).row (ints6 0 0 0 0 0 0) 1) 3 ⟨σ.q, 5, none⟩ = some (iV r_B)) (ai ((own_new _ _ _).store (vs := (ints6 r_Machine r_Seq r_Minute r_Kind r_A r_B)) rfl size98 rfl (by first | (simp; done) | (simp; omega)) rfl : effOp Pg (evL [.pointer (some ⟨(σ.q + 1), 0, none⟩), .agg ⟨ints6 r_Machine r_Seq r_Minute r_Kind r_A r_B⟩]) ((σ.row (rcd r_Machine r_Seq r_Minute r_Kind r_A r_B) 6).row (ints6 0 0 0 0 0 0) 1) (.store 98 (.tmp 0) (.tmp 1)) = some (undef, (((σ.row (rcd r_Machine r_Seq r_Minute r_Kind r_A r_B) 6).row (ints6 0 0 0 0 0 0) 1).own (σ.q + 1) (ints6 r_Machine r_Seq r_Minute r_Kind r_A r_B) 1))) (ai ((own_new _ _ _).put.rw.ldN agg98 size98 (k := 0) rfl rfl (by first | (simp; done) | (simp; omega)) : loadA Pg (((σ.row (rcd r_Machine r_Seq r_Minute r_Kind r_A r_B) 6).row (ints6 0 0 0 0 0 0) 1).own (σ.q + 1) (ints6 r_Machine r_Seq r_Minute r_Kind r_A r_B) 1) 98 ⟨(σ.q + 1), 0, none⟩ = some (.agg ⟨ints6 r_Machine r_Seq r_Minute r_Kind r_A r_B⟩)) nx))))))))))
noncomputable def number_c1 : Code := (Code.part [1, 0, 0, 0] (bodyOf Pg 65))
def number_l1 (i0_1 : Int) (p2_1 : Option Addr) (l2_1 c2_1 : Nat) : List (Nat × Value) := [(0, iV i0_1), (2, .slice p2_1 l2_1 c2_1)]
def number_a1n (Q : Int → (Option Addr) → Nat → Nat → St → Prop) : Alt := ⟨Int × (Option Addr) × Nat × Nat, .normal, fun t => number_l1 t.1 t.2.1 t.2.2.1 t.2.2.2, fun t => [], fun t σ => Q t.1 t.2.1 t.2.2.1 t.2.2.2 σ⟩
def number_l1x0 (i0_1 : Int) (p2_1 : Option Addr) (l2_1 c2_1 : Nat) : List (Nat × Value) := [(0, iV i0_1), (2, .slice p2_1 l2_1 c2_1)]
def number_a1x0 (Q : Int → (Option Addr) → Nat → Nat → St → Prop) : Alt := ⟨Int × (Option Addr) × Nat × Nat, (.exit 0), fun t => number_l1x0 t.1 t.2.1 t.2.2.1 t.2.2.2, fun t => [], fun t σ => Q t.1 t.2.1 t.2.2.1 t.2.2.2 σ⟩
def number_B1 (i0_1 : Int) (p2_1 : Option Addr) (l2_1 c2_1 : Nat) (σ : St) (Nx : Int → (Option Addr) → Nat → Nat → St → Prop) (Q0 : Int → (Option Addr) → Nat → Nat → St → Prop) : Prop := BodyG Pg (runA Pg) none number_c1 19 (number_l1 i0_1 p2_1 l2_1 c2_1) [] [number_a1n Nx, number_a1x0 Q0] σ
def number_L1 (i0_1 : Int) (p2_1 : Option Addr) (l2_1 c2_1 : Nat) (σ : St) (Q0 : Int → (Option Addr) → Nat → Nat → St → Prop) : Prop := LoopG Pg (runA Pg) none number_c1 19 (number_l1 i0_1 p2_1 l2_1 c2_1) [] [number_a1x0 Q0] σ
theorem number_loop1 {Inv : Nat → Int → (Option Addr) → Nat → Nat → St → Prop} {Q0 : Int → (Option Addr) → Nat → Nat → St → Prop} (hb : ∀ k i0_1 p2_1 l2_1 c2_1 σ, Inv k i0_1 p2_1 l2_1 c2_1 σ → number_B1 i0_1 p2_1 l2_1 c2_1 σ (fun i0_1' p2_1' l2_1' c2_1' σ' => ∃ k', k' < k ∧ Inv k' i0_1' p2_1' l2_1' c2_1' σ') Q0) : ∀ k i0_1 p2_1 l2_1 c2_1 σ, Inv k i0_1 p2_1 l2_1 c2_1 σ → number_L1 i0_1 p2_1 l2_1 c2_1 σ Q0 :=
 fun k i0_1 p2_1 l2_1 c2_1 σ h => loopG_inv (alts := [number_a1x0 Q0]) (T := Int × (Option Addr) × Nat × Nat) (lf := fun t => number_l1 t.1 t.2.1 t.2.2.1 t.2.2.2) (mf := fun t => []) (Inv := fun k t σ => Inv k t.1 t.2.1 t.2.2.1 t.2.2.2 σ) (ai (exNe 0) trivial) (fun k t σ h => hb k t.1 t.2.1 t.2.2.1 t.2.2.2 σ h) k (i0_1, p2_1, l2_1, c2_1) σ h
theorem number_s1a {Nx : Int → (Option Addr) → Nat → Nat → St → Prop} {Q0 : Int → (Option Addr) → Nat → Nat → St → Prop} (h1 : wrapK .u8 ((Int.tmod i0_1 128)) = zD) (h2 : wrapK .u8 (Int.add zD 128) = zB) (h3 : appendA Pg 22 22 (.slice p2_1 l2_1 c2_1) (.slice (some ⟨σ.q, 0, none⟩) 1 1) (σ.row [.int .u8 zB] 1) = some (.slice qF lG cF, σB)) (h4 : IntKind.wrap .i64 (Int.tdiv i0_1 128) = Int.tdiv i0_1 128) (nx : Nx (Int.tdiv i0_1 128) qF lG cF σB) (u1 : 127 < i0_1 := by omega) : number_B1 i0_1 p2_1 l2_1 c2_1 σ Nx Q0 :=
 body_of [.g, .b true, .g, .g, .g, .n zD, .n zB, .g, .e (.slice qF lG cF) σB, .g, .g, .n (Int.tdiv i0_1 128), .g, .fin (number_a1n Nx) (Int.tdiv i0_1 128, qF, lG, cF)] (fun g => kc (by kernel_rfl) (ai (ltI_tt u1) (ai h1 (ai h2 (ai h3 (ai h4 (fin (alts := [number_a1n Nx, number_a1x0 Q0]) (number_a1n Nx) (Int.tdiv i0_1 128, qF, lG, cF) nx in0)))))))
theorem number_s1b {Nx : Int → (Option Addr) → Nat → Nat → St → Prop} {Q0 : Int → (Option Addr) → Nat → Nat → St → Prop} (nx : Q0 i0_1 p2_1 l2_1 c2_1 σ) (u1 : ¬ 127 < i0_1 := by omega) : number_B1 i0_1 p2_1 l2_1 c2_1 σ Nx Q0 :=
 body_of [.g, .b false, .fin (number_a1x0 Q0) (i0_1, p2_1, l2_1, c2_1)] (fun g => kc (by kernel_rfl) (ai (ltI_ff u1) (fin (alts := [number_a1n Nx, number_a1x0 Q0]) (number_a1x0 Q0) (i0_1, p2_1, l2_1, c2_1) nx (inS in0))))
def number_K1_0 (i0_1 : Int) (p2_1 : Option Addr) (l2_1 c2_1 : Nat) (σ : St) (Q : Value → St → Prop) : Prop := ∀ g : Nat → Value, ∃ an, Hid (kAt Pg (runA Pg) none (bodyOf Pg 65) [1, 0, 0] (kFn Pg 65 Q) (.exit 0) ⟨Fm 19 (ov (number_l1x0 i0_1 p2_1 l2_1 c2_1) g), []⟩ σ an)
theorem number_ra {P0 : Int → (Option Addr) → Nat → Nat → St → Prop} (hL : number_L1 n none 0 0 σ P0) (k0 : ∀ i0_1' p2_1' l2_1' c2_1' σ', P0 i0_1' p2_1' l2_1' c2_1' σ' → number_K1_0 i0_1' p2_1' l2_1' c2_1' σ' Q) : RunsQ Pg 65 [iV n] σ Q :=
 runsQ_of [.g, .lf 19 (number_l1 n none 0 0) [number_a1x0 P0]] (kc (by kernel_rfl) (ai (ai tt (ai (arf (number_l1 n none 0 0)) hL)) (ai (fun (t : Int × (Option Addr) × Nat × Nat) (g' : Nat → Value) (σ' : St) (q : P0 t.1 t.2.1 t.2.2.1 t.2.2.2 σ') => k0 t.1 t.2.1 t.2.2.1 t.2.2.2 σ' q g') trivial)))
theorem number_t1x0a (h1 : wrapK .u8 (i0_1) = zA) (h2 : appendA Pg 22 22 (.slice p2_1 l2_1 c2_1) (.slice (some ⟨σ.q, 0, none⟩) 1 1) (σ.row [.int .u8 zA] 1) = some (.slice qO lO cO, σJ)) (nx : Q (.slice qO lO cO) σJ) : number_K1_0 i0_1 p2_1 l2_1 c2_1 σ Q :=
 fun g => ⟨[.g, .g, .n zA, .g, .e (.slice qO lO cO) σJ, .g], kc (by kernel_rfl) (ai h1 (ai h2 nx))⟩
noncomputable def check_c1 : Code := (Code.part [1, 1, 0, 1, 0, 0] (bodyOf Pg 66))
def check_l1 (b : Option Addr) (b_l b_c : Nat) (i3_1 i4_1 i9_1 : Int) : List (Nat × Value) := [(3, .int .u8 i3_1), (4, .int .u8 i4_1), (7, .slice b b_l b_c), (8, iV ((b_l : Nat) : Int)), (9, iV i9_1)]
def check_a1n (b : Option Addr) (b_l b_c : Nat) (Q : Int → Int → Int → St → Prop) : Alt := ⟨Int × Int × Int, .normal, fun t => check_l1 b b_l b_c t.1 t.2.1 t.2.2, fun t => [], fun t σ => Q t.1 t.2.1 t.2.2 σ⟩
def check_l1x0 (b : Option Addr) (b_l b_c : Nat) (i3_1 i4_1 : Int) : List (Nat × Value) := [(3, .int .u8 i3_1), (4, .int .u8 i4_1)]
def check_a1x0 (b : Option Addr) (b_l b_c : Nat) (Q : Int → Int → St → Prop) : Alt := ⟨Int × Int, (.exit 0), fun t => check_l1x0 b b_l b_c t.1 t.2, fun t => [], fun t σ => Q t.1 t.2 σ⟩
def check_B1 (b : Option Addr) (b_l b_c : Nat) (i3_1 i4_1 i9_1 : Int) (σ : St) (Nx : Int → Int → Int → St → Prop) (Q0 : Int → Int → St → Prop) : Prop := BodyG Pg (runA Pg) none check_c1 23 (check_l1 b b_l b_c i3_1 i4_1 i9_1) [] [check_a1n b b_l b_c Nx, check_a1x0 b b_l b_c Q0] σ
def check_L1 (b : Option Addr) (b_l b_c : Nat) (i3_1 i4_1 i9_1 : Int) (σ : St) (Q0 : Int → Int → St → Prop) : Prop := LoopG Pg (runA Pg) none check_c1 23 (check_l1 b b_l b_c i3_1 i4_1 i9_1) [] [check_a1x0 b b_l b_c Q0] σ
theorem check_loop1 {Inv : Nat → Int → Int → Int → St → Prop} {Q0 : Int → Int → St → Prop} (hb : ∀ k i3_1 i4_1 i9_1 σ, Inv k i3_1 i4_1 i9_1 σ → check_B1 b b_l b_c i3_1 i4_1 i9_1 σ (fun i3_1' i4_1' i9_1' σ' => ∃ k', k' < k ∧ Inv k' i3_1' i4_1' i9_1' σ') Q0) : ∀ k i3_1 i4_1 i9_1 σ, Inv k i3_1 i4_1 i9_1 σ → check_L1 b b_l b_c i3_1 i4_1 i9_1 σ Q0 :=
 fun k i3_1 i4_1 i9_1 σ h => loopG_inv (alts := [check_a1x0 b b_l b_c Q0]) (T := Int × Int × Int) (lf := fun t => check_l1 b b_l b_c t.1 t.2.1 t.2.2) (mf := fun t => []) (Inv := fun k t σ => Inv k t.1 t.2.1 t.2.2 σ) (ai (exNe 0) trivial) (fun k t σ h => hb k t.1 t.2.1 t.2.2 σ h) k (i3_1, i4_1, i9_1) σ h
theorem check_s1a {Nx : Int → Int → Int → St → Prop} {Q0 : Int → Int → St → Prop} (h1 : loadA Pg σ 5 (aadd b_a (Int.toNat i9_1 * 1)) = some (.int .u8 nA)) (h2 : wrapK .u8 (Int.add i3_1 nA) = zB) (h3 : wrapK .u8 (Int.add i4_1 zB) = zF) (nx : Nx zB zF (i9_1 + 1) σ) (u1 : i9_1 < ((b_l : Nat) : Int) := by omega) (u2 : 0 ≤ i9_1 ∧ i9_1 < ((b_l : Nat) : Int) := by omega) (u3 : -9223372036854775808 ≤ i9_1 + 1 ∧ i9_1 + 1 ≤ 9223372036854775807 := by omega) : check_B1 (some b_a) b_l b_c i3_1 i4_1 i9_1 σ Nx Q0 :=
 body_of [.b true, .i, .l (.int .u8 nA), .g, .g, .g, .n zB, .g, .g, .g, .n zF, .g, .n (i9_1 + 1), .g, .fin (check_a1n (some b_a) b_l b_c Nx) (zB, zF, i9_1 + 1)] (fun g => kc (by kernel_rfl) (ai (ltI_tt u1) (ai u2 (ai h1 (ai h2 (ai h3 (ai (wrap64 (n := i9_1 + 1) u3.1 u3.2) (fin (alts := [check_a1n (some b_a) b_l b_c Nx, check_a1x0 (some b_a) b_l b_c Q0]) (check_a1n (some b_a) b_l b_c Nx) (zB, zF, i9_1 + 1) nx in0))))))))
theorem check_s1b {Nx : Int → Int → Int → St → Prop} {Q0 : Int → Int → St → Prop} (nx : Q0 i3_1 i4_1 σ) (u1 : ¬ i9_1 < ((b_l : Nat) : Int) := by omega) : check_B1 b b_l b_c i3_1 i4_1 i9_1 σ Nx Q0 :=
 body_of [.b false, .fin (check_a1x0 b b_l b_c Q0) (i3_1, i4_1)] (fun g => kc (by kernel_rfl) (ai (ltI_ff u1) (fin (alts := [check_a1n b b_l b_c Nx, check_a1x0 b b_l b_c Q0]) (check_a1x0 b b_l b_c Q0) (i3_1, i4_1) nx (inS in0))))
def check_K1_0 (b : Option Addr) (b_l b_c : Nat) (i3_1 i4_1 : Int) (σ : St) (Q : Value → St → Prop) : Prop := ∀ g : Nat → Value, ∃ an, Hid (kAt Pg (runA Pg) none (bodyOf Pg 66) [1, 1, 0, 1, 0] (kFn Pg 66 Q) (.exit 0) ⟨Fm 23 (ov (check_l1x0 b b_l b_c i3_1 i4_1) g), []⟩ σ an)
theorem check_ra {P0 : Int → Int → St → Prop} (hL : check_L1 b b_l b_c 0 0 0 σ P0) (k0 : ∀ i3_1' i4_1' σ', P0 i3_1' i4_1' σ' → check_K1_0 b b_l b_c i3_1' i4_1' σ' Q) : RunsQ Pg 66 [.slice b b_l b_c] σ Q :=
 runsQ_of [.g, .g, .g, .g, .g, .g, .lf 23 (check_l1 b b_l b_c 0 0 0) [check_a1x0 b b_l b_c P0]] (kc (by kernel_rfl) (ai (ai tt (ai (arf (check_l1 b b_l b_c 0 0 0)) hL)) (ai (fun (t : Int × Int) (g' : Nat → Value) (σ' : St) (q : P0 t.1 t.2 σ') => k0 t.1 t.2 σ' q g') trivial)))
theorem check_t1x0a (nx : Q (.slice (some ⟨σ.q, 0, none⟩) 2 2) (σ.row [.int .u8 i3_1, .int .u8 i4_1] 1)) : check_K1_0 b b_l b_c i3_1 i4_1 σ Q :=
 fun g => ⟨[.g, .g, .g, .g], kc (by kernel_rfl) nx⟩
noncomputable def content_c1 : Code := (Code.part [1, 1, 0, 1, 0, 0] (bodyOf Pg 47))
def content_l1 (cs1 : List Value) (p3_1 : Option Addr) (l3_1 c3_1 : Nat) (i9_1 : Int) : List (Nat × Value) := [(3, .slice p3_1 l3_1 c3_1), (8, .agg ⟨cs1⟩), (9, iV i9_1)]
def content_a1n (cs1 : List Value) (Q : (Option Addr) → Nat → Nat → Int → St → Prop) : Alt := ⟨(Option Addr) × Nat × Nat × Int, .normal, fun t => content_l1 cs1 t.1 t.2.1 t.2.2.1 t.2.2.2, fun t => [], fun t σ => Q t.1 t.2.1 t.2.2.1 t.2.2.2 σ⟩
def content_l1x0 (cs1 : List Value) (p3_1 : Option Addr) (l3_1 c3_1 : Nat) : List (Nat × Value) := [(3, .slice p3_1 l3_1 c3_1)]
def content_a1x0 (cs1 : List Value) (Q : (Option Addr) → Nat → Nat → St → Prop) : Alt := ⟨(Option Addr) × Nat × Nat, (.exit 0), fun t => content_l1x0 cs1 t.1 t.2.1 t.2.2, fun t => [], fun t σ => Q t.1 t.2.1 t.2.2 σ⟩
def content_B1 (cs1 : List Value) (p3_1 : Option Addr) (l3_1 c3_1 : Nat) (i9_1 : Int) (σ : St) (Nx : (Option Addr) → Nat → Nat → Int → St → Prop) (Q0 : (Option Addr) → Nat → Nat → St → Prop) : Prop := BodyG Pg (runA Pg) none content_c1 30 (content_l1 cs1 p3_1 l3_1 c3_1 i9_1) [] [content_a1n cs1 Nx, content_a1x0 cs1 Q0] σ
def content_L1 (cs1 : List Value) (p3_1 : Option Addr) (l3_1 c3_1 : Nat) (i9_1 : Int) (σ : St) (Q0 : (Option Addr) → Nat → Nat → St → Prop) : Prop := LoopG Pg (runA Pg) none content_c1 30 (content_l1 cs1 p3_1 l3_1 c3_1 i9_1) [] [content_a1x0 cs1 Q0] σ
theorem content_loop1 (hb : ∀ k p3_1 l3_1 c3_1 i9_1 σ, Inv k p3_1 l3_1 c3_1 i9_1 σ → content_B1 cs1 p3_1 l3_1 c3_1 i9_1 σ (fun p3_1' l3_1' c3_1' i9_1' σ' => ∃ k', k' < k ∧ Inv k' p3_1' l3_1' c3_1' i9_1' σ') Q0) : ∀ k p3_1 l3_1 c3_1 i9_1 σ, Inv k p3_1 l3_1 c3_1 i9_1 σ → content_L1 cs1 p3_1 l3_1 c3_1 i9_1 σ Q0 :=
 fun k p3_1 l3_1 c3_1 i9_1 σ h => loopG_inv (alts := [content_a1x0 cs1 Q0]) (T := (Option Addr) × Nat × Nat × Int) (lf := fun t => content_l1 cs1 t.1 t.2.1 t.2.2.1 t.2.2.2) (mf := fun t => []) (Inv := fun k t σ => Inv k t.1 t.2.1 t.2.2.1 t.2.2.2 σ) (ai (exNe 0) trivial) (fun k t σ h => hb k t.1 t.2.1 t.2.2.1 t.2.2.2 σ h) k (p3_1, l3_1, c3_1, i9_1) σ h
theorem content_s1a (h1 : indexA Pg 98 (.agg ⟨cs1⟩) (iV i9_1) = some (iV nA)) (h2 : CallsA Pg 65 [iV nA] σ (.slice qB lB cB) σB) (h3 : CallsA Pg 28 [.slice (some ⟨σB.q, 0, none⟩) 2 2] (σB.row [.slice p3_1 l3_1 c3_1, .slice qB lB cB] 1) (.slice qF lG cF) σD) (nx : Nx qF lG cF (i9_1 + 1) σD) (u1 : i9_1 < 6 := by omega) (u2 : -9223372036854775808 ≤ i9_1 + 1 ∧ i9_1 + 1 ≤ 9223372036854775807 := by omega) : content_B1 cs1 p3_1 l3_1 c3_1 i9_1 σ Nx Q0 :=
 body_of [.b true, .v (iV nA), .g, .g, .g, .c (.slice qB lB cB) σB, .g, .c (.slice qF lG cF) σD, .g, .n (i9_1 + 1), .g, .fin (content_a1n cs1 Nx) (qF, lG, cF, i9_1 + 1)] (fun g => kc (by kernel_rfl) (ai (ltI_tt u1) (ai h1 (ai h2 (ai h3 (ai (wrap64 (n := i9_1 + 1) u2.1 u2.2) (fin (alts := [content_a1n cs1 Nx, content_a1x0 cs1 Q0]) (content_a1n cs1 Nx) (qF, lG, cF, i9_1 + 1) nx in0)))))))
theorem content_s1b (nx : Q0 p3_1 l3_1 c3_1 σ) (u1 : ¬ i9_1 < 6 := by omega) : content_B1 cs1 p3_1 l3_1 c3_1 i9_1 σ Nx Q0 :=
 body_of [.b false, .fin (content_a1x0 cs1 Q0) (p3_1, l3_1, c3_1)] (fun g => kc (by kernel_rfl) (ai (ltI_ff u1) (fin (alts := [content_a1n cs1 Nx, content_a1x0 cs1 Q0]) (content_a1x0 cs1 Q0) (p3_1, l3_1, c3_1) nx (inS in0))))
def content_K1_0 (cs1 : List Value) (p3_1 : Option Addr) (l3_1 c3_1 : Nat) (σ : St) (Q : Value → St → Prop) : Prop := ∀ g : Nat → Value, ∃ an, Hid (kAt Pg (runA Pg) none (bodyOf Pg 47) [1, 1, 0, 1, 0] (kFn Pg 47 Q) (.exit 0) ⟨Fm 30 (ov (content_l1x0 cs1 p3_1 l3_1 c3_1) g), []⟩ σ an)
theorem content_ra (h1 : CallsA Pg 64 [.agg ⟨rcd r_Machine r_Seq r_Minute r_Kind r_A r_B⟩] (σ.row (rcd r_Machine r_Seq r_Minute r_Kind r_A r_B) 6) (.agg ⟨cs1⟩) (σ.row (rcd r_Machine r_Seq r_Minute r_Kind r_A r_B) 6)) (hL : content_L1 cs1 none 0 0 0 (σ.row (rcd r_Machine r_Seq r_Minute r_Kind r_A r_B) 6) P0) (k0 : ∀ p3_1' l3_1' c3_1' σ', P0 p3_1' l3_1' c3_1' σ' → content_K1_0 cs1 p3_1' l3_1' c3_1' σ' Q) : RunsQ Pg 47 [.agg ⟨rcd r_Machine r_Seq r_Minute r_Kind r_A r_B⟩] σ Q :=
 runsQ_of [.g, .g, .g, .l (.agg ⟨rcd r_Machine r_Seq r_Minute r_Kind r_A r_B⟩), .c (.agg ⟨cs1⟩) (σ.row (rcd r_Machine r_Seq r_Minute r_Kind r_A r_B) 6), .g, .lf 30 (content_l1 cs1 none 0 0 0) [content_a1x0 cs1 P0]] (kc (by kernel_rfl) (ai ((own_new _ _ _).rw.ldN agg40 size40 (k := 0) rfl rfl (by first | (simp; done) | (simp; omega)) : loadA Pg (σ.row (rcd r_Machine r_Seq r_Minute r_Kind r_A r_B) 6) 40 ⟨σ.q, 0, none⟩ = some (.agg ⟨rcd r_Machine r_Seq r_Minute r_Kind r_A r_B⟩)) (ai h1 (ai (ai tt (ai (arf (content_l1 cs1 none 0 0 0)) hL)) (ai (fun (t : (Option Addr) × Nat × Nat) (g' : Nat → Value) (σ' : St) (q : P0 t.1 t.2.1 t.2.2 σ') => k0 t.1 t.2.1 t.2.2 σ' q g') trivial)))))
theorem content_t1x0a (h1 : wrapK .u8 (((l3_1 : Nat) : Int)) = zA) (h2 : CallsA Pg 28 [.slice (some ⟨(σ.q + 1), 0, none⟩) 2 2] ((σ.row [.int .u8 zA] 1).row [.slice (some ⟨σ.q, 0, none⟩) 1 1, .slice p3_1 l3_1 c3_1] 1) (.slice qN lN cN) σK) (h3 : CallsA Pg 66 [.slice qN lN cN] σK (.slice qI lI cI) σU) (h4 : CallsA Pg 28 [.slice (some ⟨σU.q, 0, none⟩) 2 2] (σU.row [.slice qN lN cN, .slice qI lI cI] 1) (.slice qV lV cV) σO) (nx : Q (.slice qV lV cV) σO) : content_K1_0 cs1 p3_1 l3_1 c3_1 σ Q :=
 fun g => ⟨[.g, .g, .n zA, .g, .g, .g, .c (.slice qN lN cN) σK, .g, .g, .g, .c (.slice qI lI cI) σU, .g, .c (.slice qV lV cV) σO, .g], kc (by kernel_rfl) (ai h1 (ai h2 (ai h3 (ai h4 nx))))⟩
noncomputable def rBytes_c1 : Code := (Code.part [1, 1, 0, 0, 0] (bodyOf Pg 79))
def rBytes_l1 (i0_1 : Int) (p3_1 : Option Addr) (l3_1 c3_1 : Nat) : List (Nat × Value) := [(0, iV i0_1), (3, .slice p3_1 l3_1 c3_1)]
def rBytes_a1n (Q : Int → (Option Addr) → Nat → Nat → St → Prop) : Alt := ⟨Int × (Option Addr) × Nat × Nat, .normal, fun t => rBytes_l1 t.1 t.2.1 t.2.2.1 t.2.2.2, fun t => [], fun t σ => Q t.1 t.2.1 t.2.2.1 t.2.2.2 σ⟩
def rBytes_l1x0 (i0_1 : Int) (p3_1 : Option Addr) (l3_1 c3_1 : Nat) : List (Nat × Value) := [(0, iV i0_1), (3, .slice p3_1 l3_1 c3_1)]
def rBytes_a1x0 (Q : Int → (Option Addr) → Nat → Nat → St → Prop) : Alt := ⟨Int × (Option Addr) × Nat × Nat, (.exit 0), fun t => rBytes_l1x0 t.1 t.2.1 t.2.2.1 t.2.2.2, fun t => [], fun t σ => Q t.1 t.2.1 t.2.2.1 t.2.2.2 σ⟩
def rBytes_B1 (i0_1 : Int) (p3_1 : Option Addr) (l3_1 c3_1 : Nat) (σ : St) (Nx : Int → (Option Addr) → Nat → Nat → St → Prop) (Q0 : Int → (Option Addr) → Nat → Nat → St → Prop) : Prop := BodyG Pg (runA Pg) none rBytes_c1 20 (rBytes_l1 i0_1 p3_1 l3_1 c3_1) [] [rBytes_a1n Nx, rBytes_a1x0 Q0] σ
def rBytes_L1 (i0_1 : Int) (p3_1 : Option Addr) (l3_1 c3_1 : Nat) (σ : St) (Q0 : Int → (Option Addr) → Nat → Nat → St → Prop) : Prop := LoopG Pg (runA Pg) none rBytes_c1 20 (rBytes_l1 i0_1 p3_1 l3_1 c3_1) [] [rBytes_a1x0 Q0] σ
theorem rBytes_loop1 {Inv : Nat → Int → (Option Addr) → Nat → Nat → St → Prop} {Q0 : Int → (Option Addr) → Nat → Nat → St → Prop} (hb : ∀ k i0_1 p3_1 l3_1 c3_1 σ, Inv k i0_1 p3_1 l3_1 c3_1 σ → rBytes_B1 i0_1 p3_1 l3_1 c3_1 σ (fun i0_1' p3_1' l3_1' c3_1' σ' => ∃ k', k' < k ∧ Inv k' i0_1' p3_1' l3_1' c3_1' σ') Q0) : ∀ k i0_1 p3_1 l3_1 c3_1 σ, Inv k i0_1 p3_1 l3_1 c3_1 σ → rBytes_L1 i0_1 p3_1 l3_1 c3_1 σ Q0 :=
 fun k i0_1 p3_1 l3_1 c3_1 σ h => loopG_inv (alts := [rBytes_a1x0 Q0]) (T := Int × (Option Addr) × Nat × Nat) (lf := fun t => rBytes_l1 t.1 t.2.1 t.2.2.1 t.2.2.2) (mf := fun t => []) (Inv := fun k t σ => Inv k t.1 t.2.1 t.2.2.1 t.2.2.2 σ) (ai (exNe 0) trivial) (fun k t σ h => hb k t.1 t.2.1 t.2.2.1 t.2.2.2 σ h) k (i0_1, p3_1, l3_1, c3_1) σ h
theorem rBytes_s1a {Nx : Int → (Option Addr) → Nat → Nat → St → Prop} {Q0 : Int → (Option Addr) → Nat → Nat → St → Prop} (h1 : wrapK .u8 ((128 + (Int.tmod i0_1 128))) = zD) (h2 : appendA Pg 22 22 (.slice p3_1 l3_1 c3_1) (.slice (some ⟨σ.q, 0, none⟩) 1 1) (σ.row [.int .u8 zD] 1) = some (.slice qC lD cC, σC)) (h3 : IntKind.wrap .i64 (Int.tdiv i0_1 128) = Int.tdiv i0_1 128) (nx : Nx (Int.tdiv i0_1 128) qC lD cC σC) (u1 : 127 < i0_1 := by omega) (u2 : -9223372036854775808 ≤ 128 + (Int.tmod i0_1 128) ∧ 128 + (Int.tmod i0_1 128) ≤ 9223372036854775807 := by omega) : rBytes_B1 i0_1 p3_1 l3_1 c3_1 σ Nx Q0 :=
 body_of [.g, .b true, .g, .g, .g, .n (128 + (Int.tmod i0_1 128)), .n zD, .g, .e (.slice qC lD cC) σC, .g, .g, .n (Int.tdiv i0_1 128), .g, .fin (rBytes_a1n Nx) (Int.tdiv i0_1 128, qC, lD, cC)] (fun g => kc (by kernel_rfl) (ai (ltI_tt u1) (ai (wrap64 (n := 128 + (Int.tmod i0_1 128)) u2.1 u2.2) (ai h1 (ai h2 (ai h3 (fin (alts := [rBytes_a1n Nx, rBytes_a1x0 Q0]) (rBytes_a1n Nx) (Int.tdiv i0_1 128, qC, lD, cC) nx in0)))))))
theorem rBytes_s1b {Nx : Int → (Option Addr) → Nat → Nat → St → Prop} {Q0 : Int → (Option Addr) → Nat → Nat → St → Prop} (nx : Q0 i0_1 p3_1 l3_1 c3_1 σ) (u1 : ¬ 127 < i0_1 := by omega) : rBytes_B1 i0_1 p3_1 l3_1 c3_1 σ Nx Q0 :=
 body_of [.g, .b false, .fin (rBytes_a1x0 Q0) (i0_1, p3_1, l3_1, c3_1)] (fun g => kc (by kernel_rfl) (ai (ltI_ff u1) (fin (alts := [rBytes_a1n Nx, rBytes_a1x0 Q0]) (rBytes_a1x0 Q0) (i0_1, p3_1, l3_1, c3_1) nx (inS in0))))
def rBytes_K1_0 (i0_1 : Int) (p3_1 : Option Addr) (l3_1 c3_1 : Nat) (σ : St) (Q : Value → St → Prop) : Prop := ∀ g : Nat → Value, ∃ an, Hid (kAt Pg (runA Pg) none (bodyOf Pg 79) [1, 1, 0, 0] (kFn Pg 79 Q) (.exit 0) ⟨Fm 20 (ov (rBytes_l1x0 i0_1 p3_1 l3_1 c3_1) g), []⟩ σ an)
theorem rBytes_ra {P0 : Int → (Option Addr) → Nat → Nat → St → Prop} (hL : rBytes_L1 n none 0 0 σ P0) (k0 : ∀ i0_1' p3_1' l3_1' c3_1' σ', P0 i0_1' p3_1' l3_1' c3_1' σ' → rBytes_K1_0 i0_1' p3_1' l3_1' c3_1' σ' Q) : RunsQ Pg 79 [iV n] σ Q :=
 runsQ_of [.g, .g, .lf 20 (rBytes_l1 n none 0 0) [rBytes_a1x0 P0]] (kc (by kernel_rfl) (ai (ai tt (ai (arf (rBytes_l1 n none 0 0)) hL)) (ai (fun (t : Int × (Option Addr) × Nat × Nat) (g' : Nat → Value) (σ' : St) (q : P0 t.1 t.2.1 t.2.2.1 t.2.2.2 σ') => k0 t.1 t.2.1 t.2.2.1 t.2.2.2 σ' q g') trivial)))
theorem rBytes_t1x0a (h1 : wrapK .u8 (i0_1) = zA) (h2 : appendA Pg 22 22 (.slice p3_1 l3_1 c3_1) (.slice (some ⟨σ.q, 0, none⟩) 1 1) (σ.row [.int .u8 zA] 1) = some (.slice qO lO cO, σJ)) (nx : Q (.slice qO lO cO) σJ) : rBytes_K1_0 i0_1 p3_1 l3_1 c3_1 σ Q :=
 fun g => ⟨[.g, .g, .n zA, .g, .e (.slice qO lO cO) σJ, .g], kc (by kernel_rfl) (ai h1 (ai h2 nx))⟩
noncomputable def rBody_c1 : Code := (Code.part [1, 1, 1, 0, 1, 0, 0] (bodyOf Pg 67))
def rBody_l1 (BA : Nat) (p4_1 : Option Addr) (l4_1 c4_1 : Nat) (i5_1 : Int) : List (Nat × Value) := [(3, .slice (some ⟨BA, 0, none⟩) 6 6), (4, .slice p4_1 l4_1 c4_1), (5, iV i5_1)]
def rBody_a1n (BA : Nat) (Q : (Option Addr) → Nat → Nat → Int → St → Prop) : Alt := ⟨(Option Addr) × Nat × Nat × Int, .normal, fun t => rBody_l1 BA t.1 t.2.1 t.2.2.1 t.2.2.2, fun t => [], fun t σ => Q t.1 t.2.1 t.2.2.1 t.2.2.2 σ⟩
def rBody_l1x0 (BA : Nat) (p4_1 : Option Addr) (l4_1 c4_1 : Nat) : List (Nat × Value) := [(4, .slice p4_1 l4_1 c4_1)]
def rBody_a1x0 (BA : Nat) (Q : (Option Addr) → Nat → Nat → St → Prop) : Alt := ⟨(Option Addr) × Nat × Nat, (.exit 0), fun t => rBody_l1x0 BA t.1 t.2.1 t.2.2, fun t => [], fun t σ => Q t.1 t.2.1 t.2.2 σ⟩
def rBody_B1 (BA : Nat) (p4_1 : Option Addr) (l4_1 c4_1 : Nat) (i5_1 : Int) (σ : St) (Nx : (Option Addr) → Nat → Nat → Int → St → Prop) (Q0 : (Option Addr) → Nat → Nat → St → Prop) : Prop := BodyG Pg (runA Pg) none rBody_c1 34 (rBody_l1 BA p4_1 l4_1 c4_1 i5_1) [] [rBody_a1n BA Nx, rBody_a1x0 BA Q0] σ
def rBody_L1 (BA : Nat) (p4_1 : Option Addr) (l4_1 c4_1 : Nat) (i5_1 : Int) (σ : St) (Q0 : (Option Addr) → Nat → Nat → St → Prop) : Prop := LoopG Pg (runA Pg) none rBody_c1 34 (rBody_l1 BA p4_1 l4_1 c4_1 i5_1) [] [rBody_a1x0 BA Q0] σ
theorem rBody_loop1 (hb : ∀ k p4_1 l4_1 c4_1 i5_1 σ, Inv k p4_1 l4_1 c4_1 i5_1 σ → rBody_B1 BA p4_1 l4_1 c4_1 i5_1 σ (fun p4_1' l4_1' c4_1' i5_1' σ' => ∃ k', k' < k ∧ Inv k' p4_1' l4_1' c4_1' i5_1' σ') Q0) : ∀ k p4_1 l4_1 c4_1 i5_1 σ, Inv k p4_1 l4_1 c4_1 i5_1 σ → rBody_L1 BA p4_1 l4_1 c4_1 i5_1 σ Q0 :=
 fun k p4_1 l4_1 c4_1 i5_1 σ h => loopG_inv (alts := [rBody_a1x0 BA Q0]) (T := (Option Addr) × Nat × Nat × Int) (lf := fun t => rBody_l1 BA t.1 t.2.1 t.2.2.1 t.2.2.2) (mf := fun t => []) (Inv := fun k t σ => Inv k t.1 t.2.1 t.2.2.1 t.2.2.2 σ) (ai (exNe 0) trivial) (fun k t σ h => hb k t.1 t.2.1 t.2.2.1 t.2.2.2 σ h) k (p4_1, l4_1, c4_1, i5_1) σ h
theorem rBody_s1a (h1 : loadA Pg σ 3 ⟨BA, 0 + Int.toNat i5_1 * 1, none⟩ = some (iV nA)) (h2 : CallsA Pg 79 [iV nA] σ (.slice qB lB cB) σB) (h3 : appendA Pg 22 22 (.slice p4_1 l4_1 c4_1) (.slice qB lB cB) σB = some (.slice qJ lJ cJ, σI)) (nx : Nx qJ lJ cJ (i5_1 + 1) σI) (u1 : i5_1 < 6 := by omega) (u2 : 0 ≤ i5_1 ∧ i5_1 < 6 := by omega) (u3 : -9223372036854775808 ≤ i5_1 + 1 ∧ i5_1 + 1 ≤ 9223372036854775807 := by omega) : rBody_B1 BA p4_1 l4_1 c4_1 i5_1 σ Nx Q0 :=
 body_of [.g, .g, .g, .b true, .g, .g, .g, .i, .l (iV nA), .c (.slice qB lB cB) σB, .e (.slice qJ lJ cJ) σI, .g, .g, .n (i5_1 + 1), .g, .fin (rBody_a1n BA Nx) (qJ, lJ, cJ, i5_1 + 1)] (fun g => kc (by kernel_rfl) (ai (ltI_tt u1) (ai u2 (ai h1 (ai h2 (ai h3 (ai (wrap64 (n := i5_1 + 1) u3.1 u3.2) (fin (alts := [rBody_a1n BA Nx, rBody_a1x0 BA Q0]) (rBody_a1n BA Nx) (qJ, lJ, cJ, i5_1 + 1) nx in0))))))))
theorem rBody_s1b (nx : Q0 p4_1 l4_1 c4_1 σ) (u1 : ¬ i5_1 < 6 := by omega) : rBody_B1 BA p4_1 l4_1 c4_1 i5_1 σ Nx Q0 :=
 body_of [.g, .g, .g, .b false, .fin (rBody_a1x0 BA Q0) (p4_1, l4_1, c4_1)] (fun g => kc (by kernel_rfl) (ai (ltI_ff u1) (fin (alts := [rBody_a1n BA Nx, rBody_a1x0 BA Q0]) (rBody_a1x0 BA Q0) (p4_1, l4_1, c4_1) nx (inS in0))))
def rBody_K1_0 (BA : Nat) (p4_1 : Option Addr) (l4_1 c4_1 : Nat) (σ : St) (Q : Value → St → Prop) : Prop := ∀ g : Nat → Value, ∃ an, Hid (kAt Pg (runA Pg) none (bodyOf Pg 67) [1, 1, 1, 0, 1, 0] (kFn Pg 67 Q) (.exit 0) ⟨Fm 34 (ov (rBody_l1x0 BA p4_1 l4_1 c4_1) g), []⟩ σ an)
theorem rBody_ra (hL : rBody_L1 (σ.q + 1) none 0 0 0 ((σ.row (rcd r_Machine r_Seq r_Minute r_Kind r_A r_B) 6).row (ints6 r_Machine r_Seq r_Minute r_Kind r_A r_B) 1) P0) (k0 : ∀ p4_1' l4_1' c4_1' σ', P0 p4_1' l4_1' c4_1' σ' → rBody_K1_0 (σ.q + 1) p4_1' l4_1' c4_1' σ' Q) (u1 : -9223372036854775808 ≤ r_Kind ∧ r_Kind ≤ 9223372036854775807 := by omega) : RunsQ Pg 67 [.agg ⟨rcd r_Machine r_Seq r_Minute r_Kind r_A r_B⟩] σ Q :=
 runsQ_of [.g, .g, .g, .l (iV r_Machine), .g, .l (iV r_Seq), .g, .l (iV r_Minute), .g, .l (.int .u8 r_Kind), .n r_Kind, .g, .l (iV r_A), .g, .l (iV r_B), .g, .g, .g, .g, .lf 34 (rBody_l1 (σ.q + 1) none 0 0 0) [rBody_a1x0 (σ.q + 1) P0]] (kc (by kernel_rfl) (ai ((own_new _ _ _).rw.ld agg3 (k := 0) rfl : loadA Pg (σ.row (rcd r_Machine r_Seq r_Minute r_Kind r_A r_B) 6) 3 ⟨σ.q, 0, none⟩ = some (iV r_Machine)) (ai ((own_new _ _ _).rw.ld agg3 (k := 1) rfl : loadA Pg (σ.row (rcd r_Machine r_Seq r_Minute r_Kind r_A r_B) 6) 3 ⟨σ.q, 1, none⟩ = some (iV r_Seq)) (ai ((own_new _ _ _).rw.ld agg3 (k := 2) rfl : loadA Pg (σ.row (rcd r_Machine r_Seq r_Minute r_Kind r_A r_B) 6) 3 ⟨σ.q, 2, none⟩ = some (iV r_Minute)) (ai ((own_new _ _ _).rw.ld agg5 (k := 3) rfl : loadA Pg (σ.row (rcd r_Machine r_Seq r_Minute r_Kind r_A r_B) 6) 5 ⟨σ.q, 3, none⟩ = some (.int .u8 r_Kind)) (ai (wrap64 (n := r_Kind) u1.1 u1.2) (ai ((own_new _ _ _).rw.ld agg3 (k := 4) rfl : loadA Pg (σ.row (rcd r_Machine r_Seq r_Minute r_Kind r_A r_B) 6) 3 ⟨σ.q, 4, none⟩ = some (iV r_A)) (ai ((own_new _ _ _).rw.ld agg3 (k := 5) rfl : loadA Pg (σ.row (rcd r_Machine r_Seq r_Minute r_Kind r_A r_B) 6) 3 ⟨σ.q, 5, none⟩ = some (iV r_B)) (ai (ai tt (ai (arf (rBody_l1 (σ.q + 1) none 0 0 0)) hL)) (ai (fun (t : (Option Addr) × Nat × Nat) (g' : Nat → Value) (σ' : St) (q : P0 t.1 t.2.1 t.2.2 σ') => k0 t.1 t.2.1 t.2.2 σ' q g') trivial))))))))))
theorem rBody_t1x0a (nx : Q (.slice p4_1 l4_1 c4_1) σ) : rBody_K1_0 BA p4_1 l4_1 c4_1 σ Q :=
 fun g => ⟨[.g, .g], kc (by kernel_rfl) nx⟩
noncomputable def rContent_c1 : Code := (Code.part [1, 1, 1, 1, 0, 1, 0, 0] (bodyOf Pg 49))
def rContent_l1 (q5 : Option Addr) (l5 c5 : Nat) (i5_1 i6_1 i7_1 : Int) : List (Nat × Value) := [(4, .slice q5 l5 c5), (5, iV i5_1), (6, iV i6_1), (7, iV i7_1)]
def rContent_a1n (q5 : Option Addr) (l5 c5 : Nat) (Q : Int → Int → Int → St → Prop) : Alt := ⟨Int × Int × Int, .normal, fun t => rContent_l1 q5 l5 c5 t.1 t.2.1 t.2.2, fun t => [], fun t σ => Q t.1 t.2.1 t.2.2 σ⟩
def rContent_l1x0 (q5 : Option Addr) (l5 c5 : Nat) (i5_1 i6_1 : Int) : List (Nat × Value) := [(4, .slice q5 l5 c5), (5, iV i5_1), (6, iV i6_1)]
def rContent_a1x0 (q5 : Option Addr) (l5 c5 : Nat) (Q : Int → Int → St → Prop) : Alt := ⟨Int × Int, (.exit 0), fun t => rContent_l1x0 q5 l5 c5 t.1 t.2, fun t => [], fun t σ => Q t.1 t.2 σ⟩
def rContent_B1 (q5 : Option Addr) (l5 c5 : Nat) (i5_1 i6_1 i7_1 : Int) (σ : St) (Nx : Int → Int → Int → St → Prop) (Q0 : Int → Int → St → Prop) : Prop := BodyG Pg (runA Pg) none rContent_c1 41 (rContent_l1 q5 l5 c5 i5_1 i6_1 i7_1) [] [rContent_a1n q5 l5 c5 Nx, rContent_a1x0 q5 l5 c5 Q0] σ
def rContent_L1 (q5 : Option Addr) (l5 c5 : Nat) (i5_1 i6_1 i7_1 : Int) (σ : St) (Q0 : Int → Int → St → Prop) : Prop := LoopG Pg (runA Pg) none rContent_c1 41 (rContent_l1 q5 l5 c5 i5_1 i6_1 i7_1) [] [rContent_a1x0 q5 l5 c5 Q0] σ
theorem rContent_loop1 {Inv : Nat → Int → Int → Int → St → Prop} {Q0 : Int → Int → St → Prop} (hb : ∀ k i5_1 i6_1 i7_1 σ, Inv k i5_1 i6_1 i7_1 σ → rContent_B1 q5 l5 c5 i5_1 i6_1 i7_1 σ (fun i5_1' i6_1' i7_1' σ' => ∃ k', k' < k ∧ Inv k' i5_1' i6_1' i7_1' σ') Q0) : ∀ k i5_1 i6_1 i7_1 σ, Inv k i5_1 i6_1 i7_1 σ → rContent_L1 q5 l5 c5 i5_1 i6_1 i7_1 σ Q0 :=
 fun k i5_1 i6_1 i7_1 σ h => loopG_inv (alts := [rContent_a1x0 q5 l5 c5 Q0]) (T := Int × Int × Int) (lf := fun t => rContent_l1 q5 l5 c5 t.1 t.2.1 t.2.2) (mf := fun t => []) (Inv := fun k t σ => Inv k t.1 t.2.1 t.2.2 σ) (ai (exNe 0) trivial) (fun k t σ h => hb k t.1 t.2.1 t.2.2 σ h) k (i5_1, i6_1, i7_1) σ h
theorem rContent_s1a {Nx : Int → Int → Int → St → Prop} {Q0 : Int → Int → St → Prop} (h1 : loadA Pg σ 5 (aadd q5_a (Int.toNat i7_1 * 1)) = some (.int .u8 nA)) (nx : Nx (Int.tmod (i5_1 + nA) 256) (Int.tmod (i6_1 + (Int.tmod (i5_1 + nA) 256)) 256) (i7_1 + 1) σ) (u1 : i7_1 < ((l5 : Nat) : Int) := by omega) (u2 : 0 ≤ i7_1 ∧ i7_1 < ((l5 : Nat) : Int) := by omega) (u3 : -9223372036854775808 ≤ nA ∧ nA ≤ 9223372036854775807 := by omega) (u4 : -9223372036854775808 ≤ i5_1 + nA ∧ i5_1 + nA ≤ 9223372036854775807 := by omega) (u5 : -9223372036854775808 ≤ i6_1 + (Int.tmod (i5_1 + nA) 256) ∧ i6_1 + (Int.tmod (i5_1 + nA) 256) ≤ 9223372036854775807 := by omega) (u6 : -9223372036854775808 ≤ i7_1 + 1 ∧ i7_1 + 1 ≤ 9223372036854775807 := by omega) : rContent_B1 (some q5_a) l5 c5 i5_1 i6_1 i7_1 σ Nx Q0 :=
 body_of [.g, .g, .g, .b true, .g, .g, .g, .i, .l (.int .u8 nA), .n nA, .n (i5_1 + nA), .g, .g, .g, .g, .n (i6_1 + (Int.tmod (i5_1 + nA) 256)), .g, .g, .g, .n (i7_1 + 1), .g, .fin (rContent_a1n (some q5_a) l5 c5 Nx) (Int.tmod (i5_1 + nA) 256, Int.tmod (i6_1 + (Int.tmod (i5_1 + nA) 256)) 256, i7_1 + 1)] (fun g => kc (by kernel_rfl) (ai (ltI_tt u1) (ai u2 (ai h1 (ai (wrap64 (n := nA) u3.1 u3.2) (ai (wrap64 (n := i5_1 + nA) u4.1 u4.2) (ai (wrap64 (n := i6_1 + (Int.tmod (i5_1 + nA) 256)) u5.1 u5.2) (ai (wrap64 (n := i7_1 + 1) u6.1 u6.2) (fin (alts := [rContent_a1n (some q5_a) l5 c5 Nx, rContent_a1x0 (some q5_a) l5 c5 Q0]) (rContent_a1n (some q5_a) l5 c5 Nx) (Int.tmod (i5_1 + nA) 256, Int.tmod (i6_1 + (Int.tmod (i5_1 + nA) 256)) 256, i7_1 + 1) nx in0)))))))))
theorem rContent_s1b {Nx : Int → Int → Int → St → Prop} {Q0 : Int → Int → St → Prop} (nx : Q0 i5_1 i6_1 σ) (u1 : ¬ i7_1 < ((l5 : Nat) : Int) := by omega) : rContent_B1 q5 l5 c5 i5_1 i6_1 i7_1 σ Nx Q0 :=
 body_of [.g, .g, .g, .b false, .fin (rContent_a1x0 q5 l5 c5 Q0) (i5_1, i6_1)] (fun g => kc (by kernel_rfl) (ai (ltI_ff u1) (fin (alts := [rContent_a1n q5 l5 c5 Nx, rContent_a1x0 q5 l5 c5 Q0]) (rContent_a1x0 q5 l5 c5 Q0) (i5_1, i6_1) nx (inS in0))))
def rContent_K1_0 (q5 : Option Addr) (l5 c5 : Nat) (i5_1 i6_1 : Int) (σ : St) (Q : Value → St → Prop) : Prop := ∀ g : Nat → Value, ∃ an, Hid (kAt Pg (runA Pg) none (bodyOf Pg 49) [1, 1, 1, 1, 0, 1, 0] (kFn Pg 49 Q) (.exit 0) ⟨Fm 41 (ov (rContent_l1x0 q5 l5 c5 i5_1 i6_1) g), []⟩ σ an)
theorem rContent_ra {P0 : Int → Int → St → Prop} (h1 : CallsA Pg 67 [.agg ⟨rcd r_Machine r_Seq r_Minute r_Kind r_A r_B⟩] (σ.row (rcd r_Machine r_Seq r_Minute r_Kind r_A r_B) 6) (.slice q1 l1 c1) σ2) (h2 : wrapK .u8 (((l1 : Nat) : Int)) = z3) (h3 : appendA Pg 22 22 (.slice (some ⟨σ2.q, 0, none⟩) 1 1) (.slice q1 l1 c1) (σ2.row [.int .u8 z3] 1) = some (.slice q5 l5 c5, σ4)) (hL : rContent_L1 q5 l5 c5 0 0 0 σ4 P0) (k0 : ∀ i5_1' i6_1' σ', P0 i5_1' i6_1' σ' → rContent_K1_0 q5 l5 c5 i5_1' i6_1' σ' Q) : RunsQ Pg 49 [.agg ⟨rcd r_Machine r_Seq r_Minute r_Kind r_A r_B⟩] σ Q :=
 runsQ_of [.g, .g, .l (.agg ⟨rcd r_Machine r_Seq r_Minute r_Kind r_A r_B⟩), .c (.slice q1 l1 c1) σ2, .g, .g, .g, .n z3, .g, .g, .e (.slice q5 l5 c5) σ4, .g, .g, .g, .g, .lf 41 (rContent_l1 q5 l5 c5 0 0 0) [rContent_a1x0 q5 l5 c5 P0]] (kc (by kernel_rfl) (ai ((own_new _ _ _).rw.ldN agg63 size63 (k := 0) rfl rfl (by first | (simp; done) | (simp; omega)) : loadA Pg (σ.row (rcd r_Machine r_Seq r_Minute r_Kind r_A r_B) 6) 63 ⟨σ.q, 0, none⟩ = some (.agg ⟨rcd r_Machine r_Seq r_Minute r_Kind r_A r_B⟩)) (ai h1 (ai h2 (ai h3 (ai (ai tt (ai (arf (rContent_l1 q5 l5 c5 0 0 0)) hL)) (ai (fun (t : Int × Int) (g' : Nat → Value) (σ' : St) (q : P0 t.1 t.2 σ') => k0 t.1 t.2 σ' q g') trivial)))))))
theorem rContent_t1x0a (h1 : wrapK .u8 (i5_1) = zA) (h2 : wrapK .u8 (i6_1) = zE) (h3 : appendA Pg 22 22 (.slice q5 l5 c5) (.slice (some ⟨σ.q, 0, none⟩) 2 2) (σ.row [.int .u8 zA, .int .u8 zE] 1) = some (.slice qI lI cI, σK)) (nx : Q (.slice qI lI cI) σK) : rContent_K1_0 q5 l5 c5 i5_1 i6_1 σ Q :=
 fun g => ⟨[.g, .g, .n zA, .g, .n zE, .g, .e (.slice qI lI cI) σK, .g], kc (by kernel_rfl) (ai h1 (ai h2 (ai h3 nx)))⟩
noncomputable def rFrame_c1 : Code := (Code.part [1, 1, 1, 0, 1, 0, 0] (bodyOf Pg 25))
def rFrame_l1 (q1 : Option Addr) (l1 c1 : Nat) (p3_1 : Option Addr) (l3_1 c3_1 : Nat) (i5_1 : Int) : List (Nat × Value) := [(3, .slice p3_1 l3_1 c3_1), (4, .slice q1 l1 c1), (5, iV i5_1)]
def rFrame_a1n (q1 : Option Addr) (l1 c1 : Nat) (Q : (Option Addr) → Nat → Nat → Int → St → Prop) : Alt := ⟨(Option Addr) × Nat × Nat × Int, .normal, fun t => rFrame_l1 q1 l1 c1 t.1 t.2.1 t.2.2.1 t.2.2.2, fun t => [], fun t σ => Q t.1 t.2.1 t.2.2.1 t.2.2.2 σ⟩
def rFrame_l1x0 (q1 : Option Addr) (l1 c1 : Nat) (p3_1 : Option Addr) (l3_1 c3_1 : Nat) : List (Nat × Value) := [(3, .slice p3_1 l3_1 c3_1)]
def rFrame_a1x0 (q1 : Option Addr) (l1 c1 : Nat) (Q : (Option Addr) → Nat → Nat → St → Prop) : Alt := ⟨(Option Addr) × Nat × Nat, (.exit 0), fun t => rFrame_l1x0 q1 l1 c1 t.1 t.2.1 t.2.2, fun t => [], fun t σ => Q t.1 t.2.1 t.2.2 σ⟩
def rFrame_B1 (q1 : Option Addr) (l1 c1 : Nat) (p3_1 : Option Addr) (l3_1 c3_1 : Nat) (i5_1 : Int) (σ : St) (Nx : (Option Addr) → Nat → Nat → Int → St → Prop) (Q0 : (Option Addr) → Nat → Nat → St → Prop) : Prop := BodyG Pg (runA Pg) none rFrame_c1 37 (rFrame_l1 q1 l1 c1 p3_1 l3_1 c3_1 i5_1) [] [rFrame_a1n q1 l1 c1 Nx, rFrame_a1x0 q1 l1 c1 Q0] σ
def rFrame_L1 (q1 : Option Addr) (l1 c1 : Nat) (p3_1 : Option Addr) (l3_1 c3_1 : Nat) (i5_1 : Int) (σ : St) (Q0 : (Option Addr) → Nat → Nat → St → Prop) : Prop := LoopG Pg (runA Pg) none rFrame_c1 37 (rFrame_l1 q1 l1 c1 p3_1 l3_1 c3_1 i5_1) [] [rFrame_a1x0 q1 l1 c1 Q0] σ
theorem rFrame_loop1 (hb : ∀ k p3_1 l3_1 c3_1 i5_1 σ, Inv k p3_1 l3_1 c3_1 i5_1 σ → rFrame_B1 q1 l1 c1 p3_1 l3_1 c3_1 i5_1 σ (fun p3_1' l3_1' c3_1' i5_1' σ' => ∃ k', k' < k ∧ Inv k' p3_1' l3_1' c3_1' i5_1' σ') Q0) : ∀ k p3_1 l3_1 c3_1 i5_1 σ, Inv k p3_1 l3_1 c3_1 i5_1 σ → rFrame_L1 q1 l1 c1 p3_1 l3_1 c3_1 i5_1 σ Q0 :=
 fun k p3_1 l3_1 c3_1 i5_1 σ h => loopG_inv (alts := [rFrame_a1x0 q1 l1 c1 Q0]) (T := (Option Addr) × Nat × Nat × Int) (lf := fun t => rFrame_l1 q1 l1 c1 t.1 t.2.1 t.2.2.1 t.2.2.2) (mf := fun t => []) (Inv := fun k t σ => Inv k t.1 t.2.1 t.2.2.1 t.2.2.2 σ) (ai (exNe 0) trivial) (fun k t σ h => hb k t.1 t.2.1 t.2.2.1 t.2.2.2 σ h) k (p3_1, l3_1, c3_1, i5_1) σ h
theorem rFrame_s1a (h1 : loadA Pg σ 5 (aadd q1_a (Int.toNat i5_1 * 1)) = some (.int .u8 nA)) (h2 : appendA Pg 22 22 (.slice p3_1 l3_1 c3_1) (.slice (some ⟨σ.q, 0, none⟩) 2 2) (σ.row [.int .u8 125, .int .u8 93] 1) = some (.slice qC lD cC, σC)) (nx : Nx qC lD cC (i5_1 + 1) σC) (u1 : i5_1 < ((l1 : Nat) : Int) := by omega) (u2 : 0 ≤ i5_1 ∧ i5_1 < ((l1 : Nat) : Int) := by omega) (u3 : nA = 125 := by omega) (u4 : -9223372036854775808 ≤ i5_1 + 1 ∧ i5_1 + 1 ≤ 9223372036854775807 := by omega) : rFrame_B1 (some q1_a) l1 c1 p3_1 l3_1 c3_1 i5_1 σ Nx Q0 :=
 body_of [.g, .g, .g, .b true, .g, .g, .i, .l (.int .u8 nA), .b true, .g, .g, .g, .e (.slice qC lD cC) σC, .g, .g, .n (i5_1 + 1), .g, .fin (rFrame_a1n (some q1_a) l1 c1 Nx) (qC, lD, cC, i5_1 + 1)] (fun g => kc (by kernel_rfl) (ai (ltI_tt u1) (ai u2 (ai h1 (ai (eqI_tt u3) (ai h2 (ai (wrap64 (n := i5_1 + 1) u4.1 u4.2) (fin (alts := [rFrame_a1n (some q1_a) l1 c1 Nx, rFrame_a1x0 (some q1_a) l1 c1 Q0]) (rFrame_a1n (some q1_a) l1 c1 Nx) (qC, lD, cC, i5_1 + 1) nx in0))))))))
theorem rFrame_s1b (h1 : loadA Pg σ 5 (aadd q1_a (Int.toNat i5_1 * 1)) = some (.int .u8 nA)) (h2 : appendA Pg 22 22 (.slice p3_1 l3_1 c3_1) (.slice (some ⟨σ.q, 0, none⟩) 2 2) (σ.row [.int .u8 125, .int .u8 94] 1) = some (.slice qC lD cC, σC)) (nx : Nx qC lD cC (i5_1 + 1) σC) (u1 : i5_1 < ((l1 : Nat) : Int) := by omega) (u2 : 0 ≤ i5_1 ∧ i5_1 < ((l1 : Nat) : Int) := by omega) (u3 : ¬ nA = 125 := by omega) (u4 : nA = 126 := by omega) (u5 : -9223372036854775808 ≤ i5_1 + 1 ∧ i5_1 + 1 ≤ 9223372036854775807 := by omega) : rFrame_B1 (some q1_a) l1 c1 p3_1 l3_1 c3_1 i5_1 σ Nx Q0 :=
 body_of [.g, .g, .g, .b true, .g, .g, .i, .l (.int .u8 nA), .b false, .g, .b true, .g, .g, .g, .e (.slice qC lD cC) σC, .g, .g, .n (i5_1 + 1), .g, .fin (rFrame_a1n (some q1_a) l1 c1 Nx) (qC, lD, cC, i5_1 + 1)] (fun g => kc (by kernel_rfl) (ai (ltI_tt u1) (ai u2 (ai h1 (ai (eqI_ff u3) (ai (eqI_tt u4) (ai h2 (ai (wrap64 (n := i5_1 + 1) u5.1 u5.2) (fin (alts := [rFrame_a1n (some q1_a) l1 c1 Nx, rFrame_a1x0 (some q1_a) l1 c1 Q0]) (rFrame_a1n (some q1_a) l1 c1 Nx) (qC, lD, cC, i5_1 + 1) nx in0)))))))))
theorem rFrame_s1c (h1 : loadA Pg σ 5 (aadd q1_a (Int.toNat i5_1 * 1)) = some (.int .u8 nA)) (h2 : appendA Pg 22 22 (.slice p3_1 l3_1 c3_1) (.slice (some ⟨σ.q, 0, none⟩) 1 1) (σ.row [.int .u8 nA] 1) = some (.slice qC lD cC, σC)) (nx : Nx qC lD cC (i5_1 + 1) σC) (u1 : i5_1 < ((l1 : Nat) : Int) := by omega) (u2 : 0 ≤ i5_1 ∧ i5_1 < ((l1 : Nat) : Int) := by omega) (u3 : ¬ nA = 125 := by omega) (u4 : ¬ nA = 126 := by omega) (u5 : -9223372036854775808 ≤ i5_1 + 1 ∧ i5_1 + 1 ≤ 9223372036854775807 := by omega) : rFrame_B1 (some q1_a) l1 c1 p3_1 l3_1 c3_1 i5_1 σ Nx Q0 :=
 body_of [.g, .g, .g, .b true, .g, .g, .i, .l (.int .u8 nA), .b false, .g, .b false, .g, .g, .g, .g, .i, .l (.int .u8 nA), .g, .e (.slice qC lD cC) σC, .g, .g, .n (i5_1 + 1), .g, .fin (rFrame_a1n (some q1_a) l1 c1 Nx) (qC, lD, cC, i5_1 + 1)] (fun g => kc (by kernel_rfl) (ai (ltI_tt u1) (ai u2 (ai h1 (ai (eqI_ff u3) (ai (eqI_ff u4) (ai u2 (ai h1 (ai h2 (ai (wrap64 (n := i5_1 + 1) u5.1 u5.2) (fin (alts := [rFrame_a1n (some q1_a) l1 c1 Nx, rFrame_a1x0 (some q1_a) l1 c1 Q0]) (rFrame_a1n (some q1_a) l1 c1 Nx) (qC, lD, cC, i5_1 + 1) nx in0)))))))))))
theorem rFrame_s1d (nx : Q0 p3_1 l3_1 c3_1 σ) (u1 : ¬ i5_1 < ((l1 : Nat) : Int) := by omega) : rFrame_B1 q1 l1 c1 p3_1 l3_1 c3_1 i5_1 σ Nx Q0 :=
 body_of [.g, .g, .g, .b false, .fin (rFrame_a1x0 q1 l1 c1 Q0) (p3_1, l3_1, c3_1)] (fun g => kc (by kernel_rfl) (ai (ltI_ff u1) (fin (alts := [rFrame_a1n q1 l1 c1 Nx, rFrame_a1x0 q1 l1 c1 Q0]) (rFrame_a1x0 q1 l1 c1 Q0) (p3_1, l3_1, c3_1) nx (inS in0))))
def rFrame_K1_0 (q1 : Option Addr) (l1 c1 : Nat) (p3_1 : Option Addr) (l3_1 c3_1 : Nat) (σ : St) (Q : Value → St → Prop) : Prop := ∀ g : Nat → Value, ∃ an, Hid (kAt Pg (runA Pg) none (bodyOf Pg 25) [1, 1, 1, 0, 1, 0] (kFn Pg 25 Q) (.exit 0) ⟨Fm 37 (ov (rFrame_l1x0 q1 l1 c1 p3_1 l3_1 c3_1) g), []⟩ σ an)
theorem rFrame_ra (h1 : CallsA Pg 49 [.agg ⟨rcd r_Machine r_Seq r_Minute r_Kind r_A r_B⟩] ((σ.row (rcd r_Machine r_Seq r_Minute r_Kind r_A r_B) 6).row [.int .u8 126] 1) (.slice q1 l1 c1) σ2) (hL : rFrame_L1 q1 l1 c1 (some ⟨(σ.q + 1), 0, none⟩) 1 1 0 σ2 P0) (k0 : ∀ p3_1' l3_1' c3_1' σ', P0 p3_1' l3_1' c3_1' σ' → rFrame_K1_0 q1 l1 c1 p3_1' l3_1' c3_1' σ' Q) : RunsQ Pg 25 [.agg ⟨rcd r_Machine r_Seq r_Minute r_Kind r_A r_B⟩] σ Q :=
 runsQ_of [.g, .g, .g, .g, .l (.agg ⟨rcd r_Machine r_Seq r_Minute r_Kind r_A r_B⟩), .c (.slice q1 l1 c1) σ2, .g, .g, .lf 37 (rFrame_l1 q1 l1 c1 (some ⟨(σ.q + 1), 0, none⟩) 1 1 0) [rFrame_a1x0 q1 l1 c1 P0]] (kc (by kernel_rfl) (ai ((own_new _ _ _).row.rw.ldN agg63 size63 (k := 0) rfl rfl (by first | (simp; done) | (simp; omega)) : loadA Pg ((σ.row (rcd r_Machine r_Seq r_Minute r_Kind r_A r_B) 6).row [.int .u8 126] 1) 63 ⟨σ.q, 0, none⟩ = some (.agg ⟨rcd r_Machine r_Seq r_Minute r_Kind r_A r_B⟩)) (ai h1 (ai (ai tt (ai (arf (rFrame_l1 q1 l1 c1 (some ⟨(σ.q + 1), 0, none⟩) 1 1 0)) hL)) (ai (fun (t : (Option Addr) × Nat × Nat) (g' : Nat → Value) (σ' : St) (q : P0 t.1 t.2.1 t.2.2 σ') => k0 t.1 t.2.1 t.2.2 σ' q g') trivial)))))
theorem rFrame_t1x0a (nx : Q (.slice p3_1 l3_1 c3_1) σ) : rFrame_K1_0 q1 l1 c1 p3_1 l3_1 c3_1 σ Q :=
 fun g => ⟨[.g, .g], kc (by kernel_rfl) nx⟩
end
end Go.Proofs.YtffgfojabcbegaaDoor
