
import Derived.Test.YthcdddbghldmiaaPC
namespace Go.Proofs.Ythcdddbghldmiaa
set_option linter.unusedVariables false
theorem cnt_out {a b : Nd} {xs : List Wy} : cntE a b xs ≤ outN a xs := by
 unfold cntE outN
 refine List.countP_mono_left (fun x _ h => ?_)
 simp only [decide_eq_true_eq] at h ⊢
 exact h.1
theorem cnt_pos {a b : Nd} {xs : List Wy} (h : 0 < cntE a b xs) : ∃ x ∈ xs, x.fr = a ∧ x.to = b := by
 obtain ⟨x, h1, h2⟩ := List.countP_pos_iff.1 h
 exact ⟨x, h1, by simpa using h2⟩
structure Aug (g : Gar) (W : Wk) (m : Int) (xs : List Wy) (by_ : By) (b0 : Nat) : Prop where
 pth : Pth by_ .grid xs (.bus b0)
 way : ∀ x ∈ xs, IsWay g W x
 rest : ∀ x ∈ xs, m ≤ x.rest
 pos : 0 ≤ m
 b0 : b0 < g.nb
section
variable {g : Gar} {W : Wk} {m : Int} {xs : List Wy} {by_ : By} {b0 : Nat}
theorem Aug.feas (h : Aug g W m xs by_ b0) (hF : Feas g W) : Feas g (appM m W xs) ∧ sumN g.ns (cell (appM m W xs).plan b0) = sumN g.ns (cell W.plan b0) + m ∧ ∀ i, i < g.nb → i ≠ b0 → sumN g.ns (cell (appM m W xs).plan i) = sumN g.ns (cell W.plan i) := by
 have hS : ∀ x ∈ xs, Shp g x := fun x hx => (h.way x hx).shp
 have hD := hF.dim
 have hD' := appM_dim (m := m) (xs := xs) hD
 have hm := h.pos
 have one : ∀ a b, cntE a b xs ≤ 1 := fun a b => Nat.le_trans cnt_out (h.pth.out_le a)
 have c01 : ∀ a b, cntE a b xs = 0 ∨ (cntE a b xs = 1 ∧ ∃ x ∈ xs, x.fr = a ∧ x.to = b) := fun a b => by
  have := one a b
  by_cases e : cntE a b xs = 0
  ·exact .inl e
  ·exact .inr ⟨by omega, cnt_pos (by omega)⟩
 have row : ∀ i, i < g.nb → sumN g.ns (cell (appM m W xs).plan i) = sumN g.ns (cell W.plan i) + if i = b0 then m else 0 := by
  intro i hi
  have e1 : sumN g.ns (cell (appM m W xs).plan i) = sumN g.ns (fun s => cell W.plan i s + m * cntE (.bus i) (.slot s) xs - m * cntE (.slot s) (.bus i) xs) := sumN_congr (fun s hs => appM_cell hi hs hD hS)
  obtain ⟨o1, o2⟩ := out_bus hi hS
  rw [e1, sumN_sub, sumN_add, sumN_mul, sumN_mul, o1, o2]
  have hf := h.pth.flow (.bus i)
  by_cases e : i = b0
  ·subst e
   simp at hf
   rw [if_pos rfl, ← hf]
   simp only [Int.natCast_add, Int.mul_add]; simp; omega
  ·have e2 : ¬ (Nd.bus i = Nd.bus b0) := fun k => e (by cases k; rfl)
   rw [if_neg e2] at hf
   simp at hf
   rw [if_neg e, hf]; omega
 refine ⟨⟨hD'.len, fun r hr => ?_, fun i b hb s hs => ?_, fun s hs => ?_, fun s hs => ?_, fun s hs => ?_⟩, by rw [row b0 h.b0, if_pos rfl], fun i hi e => by rw [row i hi, if_neg e]; omega⟩
 ·obtain ⟨i, hi, rfl⟩ := List.getElem_of_mem hr
  have := hD'.row i (by rw [← hD'.len]; exact hi)
  simpa [List.getD_eq_getElem?_getD, hi] using this
 ·have hi := (List.getElem?_eq_some_iff.1 hb).1
  rw [appM_cell hi hs hD hS]
  obtain ⟨k1, k2, k3⟩ := hF.cap i b hb s hs
  have up : ∀ x ∈ xs, x.fr = .bus i ∧ x.to = .slot s → m ≤ b.rate - cell W.plan i s ∧ thereB b (s : Int) = true := by
   rintro x hx ⟨e1, e2⟩
   have hr := h.rest x hx
   cases h.way x hx with
   | up hb' hs' ht hr' => cases e1; cases e2; rw [hb] at hb'; cases hb'; exact ⟨hr, ht⟩
   | down => cases e1
   | out => cases e1
   | back => cases e1
  have down : ∀ x ∈ xs, x.fr = .slot s ∧ x.to = .bus i → m ≤ cell W.plan i s ∧ thereB b (s : Int) = true := by
   rintro x hx ⟨e1, e2⟩
   have hr := h.rest x hx
   cases h.way x hx with
   | up => cases e1
   | down hb' hs' ht hr' => cases e1; cases e2; rw [hb] at hb'; cases hb'; exact ⟨hr, ht⟩
   | out => cases e2
   | back => cases e1
  rcases c01 (.bus i) (.slot s) with e1 | ⟨e1, x, hx, hxe⟩ <;> rcases c01 (.slot s) (.bus i) with e2 | ⟨e2, y, hy, hye⟩ <;> rw [e1, e2]
  ·simp; exact ⟨k1, k2, k3⟩
  ·have := down y hy hye
   simp; exact ⟨by omega, by omega, fun _ => this.2⟩
  ·have := up x hx hxe
   simp; exact ⟨by omega, by omega, fun _ => this.2⟩
  ·have := up x hx hxe
   simp; exact ⟨by omega, by omega, fun _ => this.2⟩
 ·rw [appM_used hS]
  have e1 : sumN g.nb (fun i => cell (appM m W xs).plan i s) = sumN g.nb (fun i => cell W.plan i s + m * cntE (.bus i) (.slot s) xs - m * cntE (.slot s) (.bus i) xs) := sumN_congr (fun i hi => appM_cell hi hs hD hS)
  obtain ⟨o1, o2⟩ := out_slot hs hS
  have hf := h.pth.flow (.slot s)
  simp at hf
  rw [e1, sumN_sub, sumN_add, sumN_mul, sumN_mul, hF.use s hs]
  have e3 : sumN g.nb (fun i => (cntE (.bus i) (.slot s) xs : Int)) = inN (.slot s) xs - cntE .grid (.slot s) xs := by omega
  have e4 : sumN g.nb (fun i => (cntE (.slot s) (.bus i) xs : Int)) = outN (.slot s) xs - cntE (.slot s) .grid xs := by omega
  rw [e3, e4, hf, Int.mul_sub, Int.mul_sub]; omega
 ·rw [appM_used hS]
  have k1 := hF.pow s hs
  rcases c01 (.slot s) .grid with e1 | ⟨e1, x, hx, hxe⟩
  ·rw [e1]
   have : 0 ≤ m * (cntE .grid (.slot s) xs : Int) := Int.mul_nonneg hm (by omega)
   simp; omega
  ·have : m ≤ pwS g s - W.used s := by
    have hr := h.rest x hx
    obtain ⟨q1, q2⟩ := hxe
    cases h.way x hx with
    | up => cases q1
    | down => cases q2
    | out hs' hr' => cases q1; exact hr
    | back => cases q1
   rw [e1]
   have : 0 ≤ m * (cntE .grid (.slot s) xs : Int) := Int.mul_nonneg hm (by omega)
   simp; omega
 ·rw [appM_used hS, hF.zero s hs]
  have z1 : cntE (.slot s) .grid xs = 0 := by
   rcases c01 (.slot s) .grid with e1 | ⟨e1, x, hx, q1, q2⟩
   ·exact e1
   ·rcases hS x hx with ⟨j, t, hj, ht, ⟨e1, e2⟩ | ⟨e1, e2⟩⟩ | ⟨t, ht, ⟨e1, e2⟩ | ⟨e1, e2⟩⟩ <;> rw [e1] at q1 <;> cases q1 <;> omega
  have z2 : cntE .grid (.slot s) xs = 0 := by
   rcases c01 .grid (.slot s) with e1 | ⟨e1, x, hx, q1, q2⟩
   ·exact e1
   ·rcases hS x hx with ⟨j, t, hj, ht, ⟨e1, e2⟩ | ⟨e1, e2⟩⟩ | ⟨t, ht, ⟨e1, e2⟩ | ⟨e1, e2⟩⟩ <;> rw [e2] at q2 <;> cases q2 <;> omega
  rw [z1, z2]; simp
theorem Aug.ways (h : Aug g W m xs by_ b0) (hF : Feas g W) {x : Wy} (hx : IsWay g (appM m W xs) x) : (∃ y, IsWay g W y ∧ y.fr = x.fr ∧ y.to = x.to ∧ y.pr = x.pr) ∨ ∃ y ∈ xs, y.fr = x.to ∧ y.to = x.fr ∧ y.pr = 0 - x.pr := by
 have hS : ∀ x ∈ xs, Shp g x := fun x hx => (h.way x hx).shp
 have hD := hF.dim
 have hm := h.pos
 have nn : ∀ a b, 0 ≤ m * (cntE a b xs : Int) := fun a b => Int.mul_nonneg hm (by omega)
 have c0 : ∀ a b, 0 < m * (cntE a b xs : Int) → ∃ x ∈ xs, x.fr = a ∧ x.to = b := fun a b hp => cnt_pos (by
  apply Nat.pos_of_ne_zero
  intro e; rw [e] at hp; simp at hp)
 cases hx with
 | @up i b s hb hs ht hr =>
  have hi := (List.getElem?_eq_some_iff.1 hb).1
  rw [appM_cell hi hs hD hS] at hr
  obtain ⟨k1, k2, k3⟩ := hF.cap i b hb s hs
  by_cases e : 0 < b.rate - cell W.plan i s
  ·exact .inl ⟨_, .up hb hs ht e, rfl, rfl, rfl⟩
  ·right
   have := nn (.bus i) (.slot s)
   obtain ⟨y, hy, e1, e2⟩ := c0 (.slot s) (.bus i) (by omega)
   refine ⟨y, hy, e1, e2, ?_⟩
   cases h.way y hy with
   | up => cases e1
   | down => cases e1; cases e2; rfl
   | out => cases e2
   | back => cases e1
 | @down i b s hb hs ht hr =>
  have hi := (List.getElem?_eq_some_iff.1 hb).1
  rw [appM_cell hi hs hD hS] at hr
  obtain ⟨k1, k2, k3⟩ := hF.cap i b hb s hs
  by_cases e : 0 < cell W.plan i s
  ·exact .inl ⟨_, .down hb hs ht e, rfl, rfl, rfl⟩
  ·right
   have := nn (.slot s) (.bus i)
   obtain ⟨y, hy, e1, e2⟩ := c0 (.bus i) (.slot s) (by omega)
   refine ⟨y, hy, e1, e2, ?_⟩
   cases h.way y hy with
   | up => cases e1; cases e2; simp
   | down => cases e1
   | out => cases e1
   | back => cases e1
 | @out s hs hr =>
  rw [appM_used hS] at hr
  have k1 := hF.pow s hs
  by_cases e : 0 < pwS g s - W.used s
  ·exact .inl ⟨_, .out hs e, rfl, rfl, rfl⟩
  ·right
   have := nn (.slot s) .grid
   obtain ⟨y, hy, e1, e2⟩ := c0 .grid (.slot s) (by omega)
   refine ⟨y, hy, e1, e2, ?_⟩
   cases h.way y hy with
   | up => cases e1
   | down => cases e1
   | out => cases e1
   | back => cases e1; cases e2; rfl
 | @back s hs hr =>
  rw [appM_used hS] at hr
  by_cases e : 0 < W.used s
  ·exact .inl ⟨_, .back hs e, rfl, rfl, rfl⟩
  ·right
   have := nn .grid (.slot s)
   obtain ⟨y, hy, e1, e2⟩ := c0 (.slot s) .grid (by omega)
   refine ⟨y, hy, e1, e2, ?_⟩
   cases h.way y hy with
   | up => cases e1
   | down => cases e2
   | out => cases e1; cases e2; rfl
   | back => cases e1
end
def potN (π : Nd → Int) (M : Int) (price : Nd → Option Int) : Nd → Int := fun v => match price v with | some p => p | none => π v + M
theorem Aug.pot {g : Gar} {W : Wk} {m : Int} {xs : List Wy} {by_ : By} {b0 : Nat} (h : Aug g W m xs by_ b0) (hF : Feas g W) {π : Nd → Int} {M : Int} {price : Nd → Option Int} (hP : Pot (waysM g W) π) (hd : Done (waysM g W) price)
  (ht : ∀ x ∈ xs, ∃ p, price x.fr = some p ∧ price x.to = some (p + x.pr)) (hM : ∀ v p, price v = some p → p - π v ≤ M) : Pot (waysM g (appM m W xs)) (potN π M price) := by
 intro x hx
 rcases h.ways hF (mem_ways.1 hx) with ⟨y, hy, e1, e2, e3⟩ | ⟨y, hy, e1, e2, e3⟩
 ·rw [← e1, ← e2, ← e3]
  have hyE := mem_ways.2 hy
  have hp := hP y hyE
  unfold potN
  cases hf : price y.fr with
  | some p =>
   obtain ⟨q, h1, h2⟩ := hd y hyE p hf
   rw [h1]; exact h2
  | none =>
   cases ht' : price y.to with
   | some q => have := hM _ _ ht'; dsimp only; omega
   | none => dsimp only; omega
 ·obtain ⟨p, h1, h2⟩ := ht y hy
  unfold potN
  rw [← e1, ← e2, h1, h2]
  dsimp only; omega
def nodes (g : Gar) : List Nd := (List.range g.nb).map .bus ++ ((List.range g.ns).map .slot ++ [.grid])
theorem nodes_len {g : Gar} : (nodes g).length = g.nb + g.ns + 1 := by simp [nodes]; omega
theorem mem_bus {g : Gar} {i : Nat} : Nd.bus i ∈ nodes g ↔ i < g.nb := by simp [nodes]
theorem mem_slot {g : Gar} {s : Nat} : Nd.slot s ∈ nodes g ↔ s < g.ns := by simp [nodes]
theorem mem_grid {g : Gar} : Nd.grid ∈ nodes g := by simp [nodes]
theorem nodes_nodup {g : Gar} : (nodes g).Nodup := by
 unfold nodes
 rw [List.nodup_append, List.nodup_append]
 refine ⟨List.Pairwise.map _ (fun a b h e => h (by cases e; rfl)) List.nodup_range, ⟨List.Pairwise.map _ (fun a b h e => h (by cases e; rfl)) List.nodup_range, by simp, ?_⟩, ?_⟩
 ·intro a ha b hb e
  simp at ha hb
  obtain ⟨s, _, rfl⟩ := ha
  rw [hb] at e; cases e
 ·intro a ha b hb e
  simp at ha hb
  obtain ⟨s, _, rfl⟩ := ha
  rcases hb with ⟨t, _, rfl⟩ | rfl <;> cases e
theorem IsWay.ends {g : Gar} {W : Wk} {x : Wy} (h : IsWay g W x) : x.fr ∈ nodes g ∧ x.to ∈ nodes g := by
 cases h with
 | up hb hs ht hr => exact ⟨mem_bus.2 (List.getElem?_eq_some_iff.1 hb).1, mem_slot.2 hs⟩
 | down hb hs ht hr => exact ⟨mem_slot.2 hs, mem_bus.2 (List.getElem?_eq_some_iff.1 hb).1⟩
 | out hs hr => exact ⟨mem_slot.2 hs, mem_grid⟩
 | back hs hr => exact ⟨mem_grid, mem_slot.2 hs⟩
theorem IsWay.pr_bd {g : Gar} {W : Wk} {x : Wy} (h : IsWay g W x) (hv : Valid g) : -1000 ≤ x.pr ∧ x.pr ≤ 1000 := by
 cases h with
 | @up i b s hb hs ht hr => have := hv.pr s; dsimp only; omega
 | @down i b s hb hs ht hr => have := hv.pr s; dsimp only; omega
 | out => dsimp only; omega
 | back => dsimp only; omega
theorem meas_big {V : List Nd} {π : Nd → Int} {K C : Int} : ∃ B : Nat, ∀ v ∈ V, ∀ z : Int, z ≤ C → (z - (π v - K)).toNat < B := by
 induction V with
 | nil => exact ⟨0, fun v h => by cases h⟩
 | cons w V ih =>
  obtain ⟨B, hB⟩ := ih
  refine ⟨B + (C - (π w - K)).toNat + 1, fun v hv z hz => ?_⟩
  rcases List.mem_cons.1 hv with rfl | hv
  ·omega
  ·have := hB v hv z hz; omega
theorem bf_ends {E : List Wy} {V : List Nd} {S : Nd → Prop} {π : Nd → Int} {K : Int} (hP : Pot E π) (hE : ∀ x ∈ E, x.pr ≤ 1000 ∧ x.to ∈ V) : ∀ (n : Nat) {B : Nat} {price : Nd → Option Int} {by_ : By}, (∀ v ∈ V, ∀ z : Int, z ≤ 1000 * (V.length : Int) + 1000 → (z - (π v - K)).toNat < B) → BInv E V S π K price by_ → meas V π K B price ≤ n → ∃ price' by', BInv E V S π K price' by' ∧ Done E price'
 | n, B, price, by_, hB, h, hn => by
  by_cases hd : Done E price
  ·exact ⟨price, by_, h, hd⟩
  ·unfold Done at hd
   simp only [Classical.not_forall] at hd
   obtain ⟨x, hx, p, hp, hq⟩ := hd
   have hlt : ∀ old, price x.to = some old → p + x.pr < old := fun old ho => by
    apply Classical.byContradiction
    intro hh
    exact hq ⟨old, ho, by omega⟩
   have h' := h.relax hP hx (hE x hx).1 (hE x hx).2 hp hlt
   have hm := meas_lt h hB hP hx (hE x hx).1 (hE x hx).2 hp hlt
   match n with
   | 0 => omega
   | n + 1 => exact bf_ends hP hE n hB h' (by omega)
theorem Pth.froms {by_ : By} {v s : Nd} {xs : List Wy} (h : Pth by_ v xs s) : (xs.map (·.fr)).Nodup := by
 induction h with
 | nil _ => simp
 | cons hb ht k ih =>
  rw [List.map_cons, List.nodup_cons]
  refine ⟨fun hm => ?_, ih⟩
  obtain ⟨y, hy, e⟩ := List.mem_map.1 hm
  exact k.fresh y hy e
theorem pot_bd {g : Gar} {W : Wk} {π : Nd → Int} (hv : Valid g) (hP : Pot (waysM g W) π) : ∃ π', Pot (waysM g W) π' ∧ ∀ v ∈ nodes g, -18000 ≤ π' v ∧ π' v ≤ 0 := by
 obtain ⟨K, hK⟩ : ∃ K : Int, ∀ v ∈ nodes g, π v ≤ K := by
  generalize nodes g = V
  induction V with
  | nil => exact ⟨0, fun v h => by cases h⟩
  | cons w V ih =>
   obtain ⟨K, hK⟩ := ih
   refine ⟨max K (π w), fun v hv => ?_⟩
   rcases List.mem_cons.1 hv with rfl | hv
   ·omega
   ·have := hK v hv; omega
 have h0 := BInv.init (E := waysM g W) (V := nodes g) (S := fun v => v ∈ nodes g) (π := π) (K := K) (s := fun v => if v ∈ nodes g then some 0 else none) (keys := nodes g) nodes_nodup (fun _ => rfl) (fun _ => Iff.rfl) (fun _ h => h) hK
 obtain ⟨B, hB⟩ := meas_big (V := nodes g) (π := π) (K := K) (C := 1000 * ((nodes g).length : Int) + 1000)
 obtain ⟨price, by_, hI, hd⟩ := bf_ends hP (fun x hx => ⟨((mem_ways.1 hx).pr_bd hv).2, (mem_ways.1 hx).ends.2⟩) _ hB h0 (Nat.le_refl _)
 refine ⟨potN π 0 price, fun x hx => ?_, fun v hv' => ?_⟩
 ·obtain ⟨p, hp, _⟩ := hI.st x.fr (mem_ways.1 hx).ends.1
  obtain ⟨q, hq, hle⟩ := hd x hx p hp
  simp only [potN, hp, hq]; exact hle
 ·obtain ⟨p, hp, hp0⟩ := hI.st v hv'
  simp only [potN, hp]
  refine ⟨?_, hp0⟩
  obtain ⟨xs, s, hpth, hs⟩ := (hI.chain v p hp).pth (fun w x hw => (hI.tree w x hw).2.1)
  have key : ∀ {v s xs}, Pth by_ v xs s → by_ s = none → ∀ p, price v = some p → (∀ x ∈ xs, x.fr ∈ nodes g) ∧ -1000 * (xs.length : Int) ≤ p := by
   intro v s xs h hs
   induction h with
   | nil h => intro p hp; exact ⟨(fun x hx => by cases hx), (by have := (hI.base _ _ hp h).1; simp; omega)⟩
   | @cons v s x xs h ht k ih =>
    intro p hp
    obtain ⟨g1, g2, pf, g3, g4⟩ := hI.tight hd h
    obtain ⟨i1, i2⟩ := ih hs pf g3
    have := (mem_ways.1 g1).pr_bd hv
    rw [hp] at g4; cases g4
    refine ⟨fun y hy => ?_, by simp only [List.length_cons]; omega⟩
    rcases List.mem_cons.1 hy with rfl | hy
    ·exact (mem_ways.1 g1).ends.1
    ·exact i1 y hy
  obtain ⟨k1, k2⟩ := key hpth hs p hp
  have := hpth.froms.length_le_of_subset (l₂ := nodes g) (fun w hw => by obtain ⟨y, hy, rfl⟩ := List.mem_map.1 hw; exact k1 y hy)
  rw [nodes_len, List.length_map] at this
  have := hv.ns; have := hv.nb
  omega
end Go.Proofs.Ythcdddbghldmiaa
