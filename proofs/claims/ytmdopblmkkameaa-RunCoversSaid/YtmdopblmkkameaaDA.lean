
import Derived.Test.YtmdopblmkkameaaRD
namespace Go.Proofs.Ytmdopblmkkameaa
open Go Go.Lay
open Try renaming prog → Pg
set_option linter.unusedVariables false
set_option maxRecDepth 20000
section
variable {σ : St}
theorem zFT {n : Nat} {cs : List Value} (h : WT Pg σ (n + 1) 3 cs) : ∃ i, cs = [wM i] := by
 unfold WT at h
 simp only [Try.underlying3] at h
 obtain ⟨i, h, _⟩ := h
 exact ⟨i, h⟩
theorem wt_slice {n : Nat} {t e : TypeId} {cs : List Value} {k : Nat} (hu : Pg.underlying t = some (.slice e)) (hk : Pg.cellsOf e = k) (h : WT Pg σ (n + 1) t cs) :
  ∃ p len cap rs, cs = [.slice p len cap] ∧ len ≤ maxLen ∧ SlP σ k p len rs ∧ rs.length = len * k ∧ ∀ i, i < len → WT Pg σ n e ((rs.drop (i * k)).take k) := by
 unfold WT at h
 simp only [hu, hk] at h
 rcases h with rfl | ⟨b, len, cap, rs, rfl, h1, h2, h3, h4, h5, h6⟩
 ·exact ⟨none, 0, 0, [], rfl, by decide, SlP.nil _ _, by simp, fun i hi => by omega⟩
 ·refine ⟨_, len, cap, rs, rfl, h1, ⟨h3, ?_, h5⟩, h3, h6⟩
  simp only [yM, h4, yF, vN, Nat.zero_add, List.drop_zero, List.take_length]
  show (bif Nat.ble rs.length rs.length then some rs else none) = some rs
  rw [show Nat.ble rs.length rs.length = true from by simp]; rfl
theorem pieces {α : Type} {k : Nat} {Q : List Value → Prop} {f : α → List Value} (hq : ∀ cs, Q cs → ∃ x, cs = f x) : ∀ (len : Nat) (rs : List Value), rs.length = len * k → (∀ i, i < len → Q ((rs.drop (i * k)).take k)) → ∃ xs : List α, xs.length = len ∧ rs = xs.flatMap f
 | 0, rs, hl, _ => ⟨[], rfl, by simpa using hl⟩
 | len + 1, rs, hl, h => by
  obtain ⟨x, hx⟩ := hq _ (h 0 (by omega))
  obtain ⟨xs, h1, h2⟩ := pieces (k := k) hq len (rs.drop k) (by simp [hl, Nat.add_mul]) (fun i hi => by
   have := h (i + 1) (by omega)
   rwa [Nat.add_mul, Nat.one_mul, Nat.add_comm (i * k), ← List.drop_drop] at this)
  refine ⟨x :: xs, by simp [h1], ?_⟩
  simp only [List.flatMap_cons, ← h2, ← hx]
  simp
theorem flat_aggs {α : Type} (f : α → List Value) (xs : List α) : wH (xs.map fun x => .agg ⟨f x⟩) = xs.flatMap f := by
 induction xs with
 | nil => rfl
 | cons x xs ih => rw [List.map_cons, List.flatMap_cons, ← ih]; simp [wH, Value.cells]
theorem flat_one (xs : List Int) : wH (xs.map wM) = xs.flatMap fun x => [wM x] := by
 induction xs with
 | nil => rfl
 | cons x xs ih => rw [List.map_cons, List.flatMap_cons, ← ih]; rfl
theorem wt_ints {n : Nat} {cs : List Value} (h : WT Pg σ (n + 2) 41 cs) : ∃ p l c xs, cs = [.slice p l c] ∧ yU σ p l xs := by
 obtain ⟨p, l, c, rs, e1, _, s1, l1, w1⟩ := wt_slice Try.underlying41 (k := 1) (by kernel_rfl) h
 obtain ⟨xs, n1, rfl⟩ := pieces (f := fun x : Int => [wM x]) (fun cs h => zFT h) l rs l1 w1
 refine ⟨p, l, c, xs, e1, by rw [flat_one]; exact s1, by simpa using n1, fun v hv => ?_⟩
 obtain ⟨x, _, rfl⟩ := List.mem_map.1 hv
 exact zHA x
theorem wt_rows {n : Nat} {cs : List Value} (h : WT Pg σ (n + 3) 22 cs) : ∃ p l c rs, cs = [.slice p l c] ∧ wU σ p l rs := by
 obtain ⟨p, l, c, rs, e1, _, s1, l1, w1⟩ := wt_slice Try.underlying22 (k := 1) (by kernel_rfl) h
 obtain ⟨xs, n1, rfl⟩ := pieces (f := fun x : {x : Option Addr × Nat × Nat × List Int // yU σ x.1 x.2.1 x.2.2.2} => [Value.slice x.1.1 x.1.2.1 x.1.2.2.1]) (fun cs h => by
  obtain ⟨p, l, c, xs, e, h⟩ := wt_ints h
  exact ⟨⟨⟨p, l, c, xs⟩, h⟩, e⟩) l rs l1 w1
 have hf : wH (xs.map fun x => Value.slice x.1.1 x.1.2.1 x.1.2.2.1) = xs.flatMap fun x => [Value.slice x.1.1 x.1.2.1 x.1.2.2.1] := by
  clear n1 s1 l1 w1
  induction xs with
  | nil => rfl
  | cons x xs ih => rw [List.map_cons, List.flatMap_cons, ← ih]; rfl
 refine ⟨p, l, c, xs.map fun x => x.1.2.2.2, e1, xs.map fun x => Value.slice x.1.1 x.1.2.1 x.1.2.2.1, ⟨by rw [hf]; exact s1, by simpa using n1, fun v hv => ?_⟩, by simpa using n1, fun i r hr => ?_⟩
 ·obtain ⟨x, _, rfl⟩ := List.mem_map.1 hv
  exact .inl ⟨zBU, rfl, rfl⟩
 ·rw [List.getElem?_map] at hr
  cases hx : xs[i]? with
  | none => rw [hx] at hr; cases hr
  | some x =>
   rw [hx] at hr
   obtain rfl : x.1.2.2.2 = r := by simpa using hr
   have := x.2.len
   refine ⟨x.1.1, x.1.2.2.1, by rw [List.getElem?_map, hx, this]; rfl, by rw [this]; exact x.2⟩
theorem wt_trip {n : Nat} {cs : List Value} (h : WT Pg σ (n + 2) 53 cs) : ∃ x : Trip, cs = zA x.fr x.to x.st x.least x.most x.kind := by
 unfold WT at h
 simp only [Try.underlying53] at h
 obtain ⟨hl, h⟩ := h
 have hl : cs.length = 6 := hl.trans (by kernel_rfl)
 obtain ⟨c1, c2, c3, c4, c5, c6, rfl⟩ : ∃ c1 c2 c3 c4 c5 c6, cs = [c1, c2, c3, c4, c5, c6] := by
  match cs, hl with
  | [c1, c2, c3, c4, c5, c6], _ => exact ⟨_, _, _, _, _, _, rfl⟩
 have k3 : Pg.cellsOf 3 = 1 := by kernel_rfl
 simp only [List.mem_cons, List.not_mem_nil, or_false, forall_eq_or_imp, forall_eq, k3] at h
 obtain ⟨⟨_, h1⟩, ⟨_, h2⟩, ⟨_, h3⟩, ⟨_, h4⟩, ⟨_, h5⟩, ⟨_, h6⟩⟩ := h
 obtain ⟨x1, h1⟩ := zFT h1
 obtain ⟨x2, h2⟩ := zFT h2
 obtain ⟨x3, h3⟩ := zFT h3
 obtain ⟨x4, h4⟩ := zFT h4
 obtain ⟨x5, h5⟩ := zFT h5
 obtain ⟨x6, h6⟩ := zFT h6
 obtain rfl : c1 = wM x1 := by simpa using h1
 obtain rfl : c2 = wM x2 := by simpa using h2
 obtain rfl : c3 = wM x3 := by simpa using h3
 obtain rfl : c4 = wM x4 := by simpa using h4
 obtain rfl : c5 = wM x5 := by simpa using h5
 obtain rfl : c6 = wM x6 := by simpa using h6
 exact ⟨⟨x1, x2, x3, x4, x5, x6⟩, rfl⟩
theorem wt_tab {n : Nat} {cs : List Value} (h : WT Pg σ (n + 5) 25 cs) : ∃ pe le ce pt lt ct t, cs = yB t pe le ce pt lt ct ∧ RefP σ pe le pt lt t := by
 unfold WT at h
 simp only [Try.underlying25] at h
 obtain ⟨hl, h⟩ := h
 have hl : cs.length = 4 := hl.trans (by kernel_rfl)
 obtain ⟨a, b, c, d, rfl⟩ : ∃ a b c d, cs = [a, b, c, d] := by
  match cs, hl with
  | [a, b, c, d], _ => exact ⟨a, b, c, d, rfl⟩
 have c3 : Pg.cellsOf 3 = 1 := by kernel_rfl
 have c22 : Pg.cellsOf 22 = 1 := by kernel_rfl
 have c23 : Pg.cellsOf 23 = 1 := by kernel_rfl
 simp only [List.mem_cons, List.not_mem_nil, or_false, forall_eq_or_imp, forall_eq, c3, c22, c23] at h
 obtain ⟨⟨_, h1⟩, ⟨_, h2⟩, ⟨_, h3⟩, ⟨_, h4⟩⟩ := h
 obtain ⟨x1, h1⟩ := zFT h1
 obtain ⟨x2, h2⟩ := zFT h2
 obtain ⟨p, l, c', rs, e1, r1⟩ := wt_rows h3
 obtain ⟨q, m, d', rs', e2, _, s2, l2, w2⟩ := wt_slice Try.underlying23 (k := 6) (by kernel_rfl) h4
 obtain ⟨trips, n2, rfl⟩ := pieces (fun cs h => wt_trip h) m rs' l2 w2
 obtain rfl : a = wM x1 := by simpa using h1
 obtain rfl : b = wM x2 := by simpa using h2
 obtain rfl : c = .slice p l c' := by simpa using e1
 obtain rfl : d = .slice q m d' := by simpa using e2
 refine ⟨p, l, c', q, m, d', ⟨x1, x2, rs, trips⟩, rfl, r1, ⟨?_, by simpa using n2, ?_⟩⟩
 ·show SlP σ 6 q m (wH (trips.map fun x => .agg ⟨zA x.fr x.to x.st x.least x.most x.kind⟩))
  rw [flat_aggs]; exact s2
 ·intro v hv
  simp only [List.mem_map] at hv
  obtain ⟨s, _, rfl⟩ := hv
  exact .inr ⟨agg53, zAL, _, rfl, rfl⟩
theorem not_agg {ι : Inj} {av v : Value} (h : VR ι av v) (hv : ∀ cs, v ≠ .agg cs) : ∀ cs, av ≠ .agg cs := by
 rintro cs rfl
 cases h with
 | atom h => simp [zBA] at h
 | agg _ _ => exact hv _ rfl
theorem sl_not {W : World} {t e : TypeId} {v : Value} (hu : Pg.underlying t = some (.slice e)) (h : Value.okWide Pg W .any 0 t v) : ∀ cs, v ≠ .agg cs := by
 rintro cs rfl
 unfold Value.okWide at h
 rw [hu] at h
 simp [Cell.okWide, Cell.ok, hu] at h
theorem int_not {W : World} {t : TypeId} {k : IntKind} {v : Value} (hu : Pg.underlying t = some (.int k)) (h : Value.okWide Pg W .any 0 t v) : ∀ cs, v ≠ .agg cs := by
 rintro cs rfl
 unfold Value.okWide at h
 rw [hu] at h
 simp [Cell.okWide, Cell.ok, hu] at h
theorem cells_slice {v : Value} {p : Option Addr} {l c : Nat} (h : v.cells.toList = [.slice p l c]) (hn : ∀ cs, v ≠ .agg cs) : v = .slice p l c := by
 cases v with
 | agg cs => exact absurd rfl (hn cs)
 | _ => first | (simp [Value.cells] at h; done) | simpa [Value.cells] using h
theorem cells_int {v : Value} {k : IntKind} {x : Int} (h : v.cells.toList = [.int k x]) (hn : ∀ cs, v ≠ .agg cs) : v = .int k x := by
 cases v with
 | agg cs => exact absurd rfl (hn cs)
 | _ => first | (simp [Value.cells] at h; done) | simpa [Value.cells] using h
end
end Go.Proofs.Ytmdopblmkkameaa
