
import Derived.Test.YthcdddbghldmiaaCK
import Derived.Test.YthcdddbghldmiaaPE
namespace Go.Proofs.Ythcdddbghldmiaa
open Go Go.Lay
set_option linter.unusedVariables false
set_option linter.unusedSimpArgs false
set_option maxRecDepth 20000
section
variable {σ τ : St} {w : Nat} {g : Gar} {W : Wk} {p q pp : Option Addr} {c d cp : Nat} {B : Nat → Nat}
theorem WkAt.setUsed (h : WkAt σ w g W p c q d pp cp B) {s : Nat} (hs : s < 12) (v : Int) :
  ∃ τ, effOp Try.prog (evL [.pointer (some (aadd (aadd ⟨w, 0, none⟩ 3) (Int.toNat (s : Int) * 1))), iV v]) σ (.store 3 (.tmp 0) (.tmp 1)) = some (undef, τ) ∧ Only (· = w) σ τ ∧ τ.low ≤ w ∧ WkAt τ w g ⟨W.plan, fun s' => if s' = s then v else W.used s'⟩ p c q d pp cp B := by
 have e : aadd (aadd ⟨w, 0, none⟩ 3) (Int.toNat (s : Int) * 1) = aadd ⟨w, 0, none⟩ (Int.toNat ((s + 3 : Nat) : Int) * 1) := by
  rw [Int.toNat_natCast, Int.toNat_natCast]; simp [aadd]; omega
 have h1 := h.own.stI (P := Try.prog) (i := s + 3) (t := 3) (v := iV v) rfl size3 rfl (by simp [vecL_len]; omega)
 rw [← e] at h1
 simp only [List.set_cons_succ] at h1
 rw [vecL_set hs] at h1
 have k : Only (· = w) σ (σ.own w (.slice p g.ns c :: .slice q g.nb d :: .slice pp g.nb cp :: vecL 12 fun s' => if s' = s then v else W.used s') 15) := Only.own (.inr rfl)
 refine ⟨_, h1, k, by simp; omega, h.own.put, ⟨k.slv' h.gar.sl (fun a e => (h.fp _ (.inl ⟨a, e, rfl⟩)).1), k.slv' h.gar.bu (fun a e => (h.fp _ (.inr (.inl ⟨a, e, rfl⟩))).1)⟩, k.slv' h.pl (fun a e => (h.fp _ (.inr (.inr ⟨a, e, rfl⟩))).1),
  fun i hi => k.own' (h.row i hi) (h.ne i hi), h.inj, h.ne, h.fp⟩
theorem WkAt.setCell (h : WkAt σ w g W p c q d pp cp B) (hd : Dim g W) {i s : Nat} (hi : i < g.nb) (hs : s < g.ns) (v : Int) :
  ∃ τ, effOp Try.prog (evL [.pointer (some (aadd ⟨B i, 0, none⟩ (Int.toNat (s : Int) * 1))), iV (cell W.plan i s + v)]) σ (.store 3 (.tmp 0) (.tmp 1)) = some (undef, τ) ∧ Only (· = B i) σ τ ∧ τ.low ≤ B i ∧ WkAt τ w g ⟨addC W.plan i s v, W.used⟩ p c q d pp cp B := by
 have h1 := (h.row i hi).stI (P := Try.prog) (i := s) (t := 3) (v := iV (cell W.plan i s + v)) rfl size3 rfl (by rw [vecL_len]; exact hs)
 rw [vecL_set hs] at h1
 have ec : ∀ i' s', cell (addC W.plan i s v) i' s' = cell W.plan i' s' + if i' = i ∧ s' = s then v else 0 := cell_addC (by rw [hd.len]; exact hi) (by rw [hd.row i hi]; exact hs)
 have k : Only (· = B i) σ (σ.own (B i) (vecL g.ns fun s' => if s' = s then cell W.plan i s + v else cell W.plan i s') 1) := Only.own (.inr rfl)
 have eb : ∀ b, AtP p b ∨ AtP q b ∨ AtP pp b → b ≠ B i := fun b hb => (h.fp b hb).2 i hi
 refine ⟨_, h1, k, by simp; omega, k.own' h.own (fun e => h.ne i hi e.symm), ⟨k.slv' h.gar.sl (fun a e => eb _ (.inl ⟨a, e, rfl⟩)), k.slv' h.gar.bu (fun a e => eb _ (.inr (.inl ⟨a, e, rfl⟩)))⟩, k.slv' h.pl (fun a e => eb _ (.inr (.inr ⟨a, e, rfl⟩))),
  fun j hj => ?_, h.inj, h.ne, h.fp⟩
 by_cases e : j = i
 ·subst e
  have e2 : (vecL g.ns fun s' => if s' = s then cell W.plan j s + v else cell W.plan j s') = vecL g.ns (cell (addC W.plan j s v) j) := vecL_congr fun s' _ => by
   rw [ec j s']
   by_cases e3 : s' = s
   ·subst e3; simp
   ·simp [e3]
  rw [← e2]; exact (h.row j hj).put
 ·have e2 : vecL g.ns (cell (addC W.plan i s v) j) = vecL g.ns (cell W.plan j) := vecL_congr fun s' _ => by rw [ec j s', if_neg (fun x => e x.1)]; omega
  show Own _ (B j) (vecL g.ns (cell (addC W.plan i s v) j)) 1
  rw [e2]
  exact k.own' (h.row j hj) (fun x => e (h.inj j i hj hi x))
theorem app_bd (hF : Feas g W) (hv : Valid g) {m : Int} (hm : 0 ≤ m ∧ m ≤ 1000000) {by_ : By} {b0 : Nat} {xs : List Wy} (hx : Pth by_ .grid xs (.bus b0)) (hs : ∀ x ∈ xs, Shp g x) (j : Nat) :
  (∀ i s, i < g.nb → s < g.ns → -1000000 ≤ cell (appM m W (xs.take j)).plan i s ∧ cell (appM m W (xs.take j)).plan i s ≤ 1001000) ∧ ∀ s, s < g.ns → -1000000 ≤ (appM m W (xs.take j)).used s ∧ (appM m W (xs.take j)).used s ≤ 1001000 := by
 have hs' : ∀ x ∈ xs.take j, Shp g x := fun x h => hs x (List.mem_of_mem_take h)
 have one : ∀ a b, cntE a b (xs.take j) ≤ 1 := fun a b => Nat.le_trans ((List.take_sublist j xs).countP_le) (Nat.le_trans cnt_out (hx.out_le a))
 have c01 : ∀ a b, 0 ≤ m * (cntE a b (xs.take j) : Int) ∧ m * (cntE a b (xs.take j) : Int) ≤ m := fun a b => by
  have h1 := one a b
  rcases Nat.lt_or_ge 0 (cntE a b (xs.take j)) with h2 | h2
  ·have : cntE a b (xs.take j) = 1 := by omega
   rw [this]; simp; omega
  ·have : cntE a b (xs.take j) = 0 := by omega
   rw [this]; simp; omega
 refine ⟨fun i s hi hs0 => ?_, fun s hs0 => ?_⟩
 ·rw [appM_cell hi hs0 hF.dim hs']
  obtain ⟨b, hb⟩ := bus_at hi
  have h1 := hF.cap i b hb s hs0
  have h2 := busB_iff (hv.b hb)
  have h3 := c01 (.bus i) (.slot s); have h4 := c01 (.slot s) (.bus i)
  omega
 ·rw [appM_used hs']
  have h1 := hF.pow s hs0
  have h0 : 0 ≤ W.used s := by rw [hF.use s hs0]; exact sumN_nn (fun i hi => by obtain ⟨b, hb⟩ := bus_at hi; exact (hF.cap i b hb s hs0).1)
  have h2 := hv.pw s
  have h3 := c01 (.slot s) .grid; have h4 := c01 .grid (.slot s)
  omega
theorem appM_snoc {m : Int} {xs : List Wy} {j : Nat} {x : Wy} (h : xs[j]? = some x) : appM m W (xs.take (j + 1)) = app1 m (appM m W (xs.take j)) x := by
 rw [take_snoc h]; unfold appM; rw [List.foldl_append]; rfl
theorem give_put {m : Int} (hm : 0 ≤ m ∧ m ≤ 1000000) {by_ : By} {b0 : Nat} {xs : List Wy} {p12 : Option Addr} {l12 c12 : Nat} {Q2 : St → Prop} (hw : WkAt σ w g W p c q d pp cp B) (hF : Feas g W) (hv : Valid g) (hx : Pth by_ .grid xs (.bus b0)) (hsh : ∀ x ∈ xs, Shp g x)
  (hsl : SlV Try.prog σ 143 6 p12 l12 (xs.map wyV)) (hp : ∀ b, AtP p12 b → b ≠ w ∧ ∀ i, i < g.nb → b ≠ B i) (hl : l12 ≤ 1000000) {n0 : Nat} (hn0 : n0 ≤ σ.next)
  (hQ : ∀ τ, Only (fun b => b = w ∨ ∃ i, i < g.nb ∧ b = B i) σ τ → (xs = [] ∨ ∃ b, τ.low ≤ b ∧ (b = w ∨ ∃ i, i < g.nb ∧ b = B i)) → WkAt τ w g (appM m W xs) p c q d pp cp B → Q2 τ) : give_L2 ⟨w, 0, none⟩ m p12 l12 c12 0 σ Q2 := by
 have hll : xs.length = l12 := by have := hsl.2.1; simpa using this
 refine give_loop2 (Inv := fun k i τ => ∃ j : Nat, i = j ∧ j + k = l12 ∧ Only (fun b => b = w ∨ ∃ i, i < g.nb ∧ b = B i) σ τ ∧ (j = 0 ∨ ∃ b, τ.low ≤ b ∧ (b = w ∨ ∃ i, i < g.nb ∧ b = B i)) ∧ WkAt τ w g (appM m W (xs.take j)) p c q d pp cp B ∧ SlV Try.prog τ 143 6 p12 l12 (xs.map wyV)) ?_ l12 0 σ ⟨0, rfl, by omega, Only.refl _ _, .inl rfl, hw, hsl⟩
 rintro k i τ ⟨j, rfl, hk, f1, f0, f2, f3⟩
 by_cases hj : j < l12
 rotate_left
 ·have : j = l12 := by omega
  subst this
  rw [List.take_of_length_le (by omega)] at f2
  exact give_s2e (hQ _ f1 (f0.imp (fun h => List.eq_nil_of_length_eq_zero (by omega)) id) f2)
 obtain ⟨a, rfl, x, hxj, ldx⟩ := slv_at f3 hj
 have hxm : x ∈ xs := List.mem_of_getElem? hxj
 have hxs := hsh x hxm
 have hd : Dim g (appM m W (xs.take j)) := appM_dim hF.dim
 have hbd := app_bd (W := W) hF hv hm hx hsh j
 have hns := hv.ns
 have e1 := appM_snoc (m := m) (W := W) hxj
 obtain ⟨τ2, hτ2⟩ : ∃ τ2, τ2 = (τ.row (ints6 0 0 0 0 0 0) 6).own τ.next (ints6 x.fr.b x.fr.s x.to.b x.to.s x.rest x.pr) 6 := ⟨_, rfl⟩
 have N2 : New τ τ2 := by rw [hτ2]; exact (New.row _ _ _).own (Nat.le_refl _)
 have f2' := f2.le N2.le
 have f3' := f3.le N2.le
 have O2 : Only (fun b => b = w ∨ ∃ i, i < g.nb ∧ b = B i) σ τ2 := f1.trans' (N2.only (S := fun b => b = w ∨ ∃ i, i < g.nb ∧ b = B i)) (fun b _ h => .inl h)
 have hpa := hp a.block ⟨a, rfl, rfl⟩
 have next : ∀ {T : Nat → Prop} {τ3 : St} {W' : Wk}, Only T τ2 τ3 → (∀ b, T b → b = w ∨ ∃ i, i < g.nb ∧ b = B i) → (∃ b, τ3.low ≤ b ∧ T b) → WkAt τ3 w g W' p c q d pp cp B → W' = app1 m (appM m W (xs.take j)) x →
   ∃ k', k' < k ∧ ∃ j' : Nat, ((j : Int) + 1) = j' ∧ j' + k' = l12 ∧ Only (fun b => b = w ∨ ∃ i, i < g.nb ∧ b = B i) σ τ3 ∧ (j' = 0 ∨ ∃ b, τ3.low ≤ b ∧ (b = w ∨ ∃ i, i < g.nb ∧ b = B i)) ∧ WkAt τ3 w g (appM m W (xs.take j')) p c q d pp cp B ∧ SlV Try.prog τ3 143 6 (some a) l12 (xs.map wyV) := by
  intro T τ3 W' k1 hT k0 k2 e2
  refine ⟨k - 1, by omega, j + 1, by omega, by omega, O2.trans' k1 (fun b _ h => .inl (hT b h)), .inr (k0.imp fun b h => ⟨h.1, hT b h.2⟩), by rw [e1, ← e2]; exact k2, k1.slv' f3' (fun a' e h => ?_)⟩
  cases e
  rcases hT _ h with h | ⟨i, hi, h⟩
  ·exact hpa.1 h
  ·exact hpa.2 i hi h
 obtain ⟨fr, to, rest, pr⟩ := x
 rcases hxs with ⟨i, s, hi, hs, ⟨ea, eb⟩ | ⟨ea, eb⟩⟩ | ⟨s, hs, ⟨ea, eb⟩ | ⟨ea, eb⟩⟩ <;> dsimp only at ea eb <;> subst ea eb
 ·obtain ⟨a2, e2, ld2⟩ := f2'.prow hi
  subst e2
  obtain ⟨τ3, st, k1, k0, k2⟩ := f2'.setCell hd hi hs m
  have hb := hbd.1 i s hi hs
  exact give_s2c ldx (by rw [← hτ2]; exact grid_c) (node_eq (a := .slot s) (b := .grid)) (by rw [← hτ2]; exact grid_c) (node_eq (a := .bus i) (b := .grid)) (by rw [← hτ2]; exact f2'.plan) (by rw [← hτ2]; exact ld2) (by rw [← hτ2]; exact f2'.amount hi hs) (by rw [← hτ2]; exact st)
   (next k1 (by rintro b rfl; exact .inr ⟨i, hi, rfl⟩) ⟨_, k0, rfl⟩ k2 rfl) (u3 := (by show (0 : Int) ≤ (i : Int); omega)) (u4 := (by show (0 : Int) ≤ (i : Int) ∧ (i : Int) < _; omega)) (u5 := (by show (0 : Int) ≤ (s : Int) ∧ (s : Int) < _; omega))
 ·obtain ⟨a2, e2, ld2⟩ := f2'.prow hi
  subst e2
  obtain ⟨τ3, st, k1, k0, k2⟩ := f2'.setCell hd hi hs (-m)
  have hb := hbd.1 i s hi hs
  rw [← Int.sub_eq_add_neg] at st
  exact give_s2d ldx (by rw [← hτ2]; exact grid_c) (node_eq (a := .bus i) (b := .grid)) (by rw [← hτ2]; exact grid_c) (node_eq (a := .slot s) (b := .grid)) (by rw [← hτ2]; exact f2'.plan) (by rw [← hτ2]; exact ld2) (by rw [← hτ2]; exact f2'.amount hi hs) (by rw [← hτ2]; exact st)
   (next k1 (by rintro b rfl; exact .inr ⟨i, hi, rfl⟩) ⟨_, k0, rfl⟩ k2 rfl) (u3 := (by show ¬ (0 : Int) ≤ -1; omega)) (u4 := (by show (0 : Int) ≤ (i : Int) ∧ (i : Int) < _; omega)) (u5 := (by show (0 : Int) ≤ (s : Int) ∧ (s : Int) < _; omega))
 ·have hb := hbd.2 s hs
  obtain ⟨τ3, st, k1, k0, k2⟩ := f2'.setUsed (s := s) (by omega) ((appM m W (xs.take j)).used s + m)
  exact give_s2a ldx (by rw [← hτ2]; exact grid_c) (node_eq (a := .grid) (b := .grid)) (by rw [← hτ2]; exact f2'.usedAt (by omega)) (by rw [← hτ2]; exact st)
   (next k1 (by rintro b rfl; exact .inl rfl) ⟨_, k0, rfl⟩ k2 rfl) (u3 := (by show (0 : Int) ≤ (s : Int) ∧ (s : Int) < 12; omega))
 ·have hb := hbd.2 s hs
  obtain ⟨τ3, st, k1, k0, k2⟩ := f2'.setUsed (s := s) (by omega) ((appM m W (xs.take j)).used s - m)
  exact give_s2b ldx (by rw [← hτ2]; exact grid_c) (node_eq (a := .slot s) (b := .grid)) (by rw [← hτ2]; exact grid_c) (node_eq (a := .grid) (b := .grid)) (by rw [← hτ2]; exact f2'.usedAt (by omega)) (by rw [← hτ2]; exact st)
   (next k1 (by rintro b rfl; exact .inl rfl) ⟨_, k0, rfl⟩ k2 rfl) (u3 := (by show (0 : Int) ≤ (s : Int) ∧ (s : Int) < 12; omega))
end
end Go.Proofs.Ythcdddbghldmiaa
