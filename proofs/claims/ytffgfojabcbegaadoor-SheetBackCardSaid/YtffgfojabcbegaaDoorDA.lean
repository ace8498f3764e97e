import Derived.Test.YtffgfojabcbegaaDoorXB
import Derived.Test.YtffgfojabcbegaaDoorTL
set_option maxRecDepth 20000
namespace Go.Proofs.YtffgfojabcbegaaDoor
open Go Go.Lay
open Tryd renaming prog → Pg
section
variable {σ : St}
theorem wt_int {n : Nat} {cs : List Value} (h : WT Pg σ (n + 1) 3 cs) : ∃ i, cs = [intV i] := by
 unfold WT at h
 simp only [Tryd.underlying3] at h
 obtain ⟨i, h, _⟩ := h
 exact ⟨i, h⟩
theorem wt_slice {n : Nat} {t e : TypeId} {cs : List Value} {k : Nat} (hu : Pg.underlying t = some (.slice e)) (hk : Pg.cellsOf e = k) (h : WT Pg σ (n + 1) t cs) :
  ∃ p len cap rs, cs = [.slice p len cap] ∧ len ≤ maxLen ∧ SlP σ k p len rs ∧ rs.length = len * k ∧ ∀ i, i < len → WT Pg σ n e ((rs.drop (i * k)).take k) := by
 unfold WT at h
 simp only [hu, hk] at h
 rcases h with rfl | ⟨b, len, cap, rs, rfl, h1, h2, h3, h4, h5, h6⟩
 ·exact ⟨none, 0, 0, [], rfl, by decide, SlP.nil _ _, by simp, fun i hi => by omega⟩
 ·refine ⟨_, len, cap, rs, rfl, h1, ⟨h3, ?_, h5⟩, h3, h6⟩
  simp only [readRow, h4, stampOf, extOf, Nat.zero_add, List.drop_zero, List.take_length]
  show (bif Nat.ble rs.length rs.length then some rs else none) = some rs
  rw [show Nat.ble rs.length rs.length = true from by simp]; rfl
theorem pieces {α : Type} {k : Nat} {Q : List Value → Prop} {f : α → List Value} (hq : ∀ cs, Q cs → ∃ x, cs = f x) : ∀ (len : Nat) (rs : List Value), rs.length = len * k → (∀ i, i < len → Q ((rs.drop (i * k)).take k)) → ∃ xs : List α, xs.length = len ∧ rs = xs.flatMap f
 | 0, rs, hl, _ => ⟨[], rfl, by simpa using hl⟩
 | len + 1, rs, hl, h => by
  obtain ⟨x, hx⟩ := hq _ (h 0 (by omega))
  obtain ⟨xs, h1, h2⟩ := pieces (k := k) hq len (rs.drop k) (by simp [hl, Nat.add_mul]) (fun i hi => by
   have := h (i + 1) (by omega)
   rwa [Nat.add_mul, Nat.one_mul, Nat.add_comm (i * k), ← List.drop_drop] at this)
  refine ⟨x :: xs, by simp [h1], ?_⟩
  simp only [List.flatMap_cons, ← h2, ← hx]
  simp
theorem flat_aggs {α : Type} (f : α → List Value) (xs : List α) : flat (xs.map fun x => .agg ⟨f x⟩) = xs.flatMap f := by
 induction xs with
 | nil => rfl
 | cons x xs ih => rw [List.map_cons, List.flatMap_cons, ← ih]; simp [flat, Value.cells]
theorem wt_u8 {n : Nat} {cs : List Value} (h : WT Pg σ (n + 1) 5 cs) : ∃ i : Int, cs = [.int .u8 i] ∧ 0 ≤ i ∧ i ≤ 255 := by
 unfold WT at h
 simp only [Tryd.underlying5] at h
 obtain ⟨i, h, hk⟩ := h
 refine ⟨i, h, ?_⟩
 rw [show IntKind.u8.min = 0 by decide, show IntKind.u8.max = 255 by decide] at hk; exact hk
theorem wt_arg {n : Nat} {t e : TypeId} {p : Option Addr} {l c k : Nat} (hu : Pg.underlying t = some (.slice e)) (hk : Pg.cellsOf e = k) (h : WT Pg σ (n + 1) t [.slice p l c]) : ArgS σ k p l c := by
 unfold WT at h
 simp only [hu, hk] at h
 rcases h with h | ⟨b, len, cap, rs, h1, h2, h3, h4, h5, h6, h7⟩
 ·obtain ⟨rfl, rfl, rfl⟩ : p = none ∧ l = 0 ∧ c = 0 := by simpa using h
  exact .inl ⟨rfl, rfl, rfl⟩
 ·obtain ⟨rfl, rfl, rfl⟩ : p = some ⟨b, 0, none⟩ ∧ l = len ∧ c = cap := by simpa using h1
  exact .inr ⟨b, rs, 1, true, rfl, by rw [← capLow_ex h3.2]; exact h3.1, h3.2, h5, h4, h6⟩
theorem wt_rec {n : Nat} {cs : List Value} (h : WT Pg σ (n + 2) 63 cs) : ∃ x : Rec, cs = recL x ∧ Byte x := by
 unfold WT at h
 simp only [Tryd.underlying63] at h
 obtain ⟨hl, h⟩ := h
 have hl : cs.length = 6 := hl.trans (by kernel_rfl)
 obtain ⟨c1, c2, c3, c4, c5, c6, rfl⟩ : ∃ c1 c2 c3 c4 c5 c6, cs = [c1, c2, c3, c4, c5, c6] := by
  match cs, hl with
  | [c1, c2, c3, c4, c5, c6], _ => exact ⟨_, _, _, _, _, _, rfl⟩
 have k3 : Pg.cellsOf 3 = 1 := by kernel_rfl
 have k5 : Pg.cellsOf 5 = 1 := by kernel_rfl
 simp only [List.mem_cons, List.not_mem_nil, or_false, forall_eq_or_imp, forall_eq, k3, k5] at h
 obtain ⟨⟨_, h1⟩, ⟨_, h2⟩, ⟨_, h3⟩, ⟨_, h4⟩, ⟨_, h5⟩, ⟨_, h6⟩⟩ := h
 obtain ⟨x1, h1⟩ := wt_int h1
 obtain ⟨x2, h2⟩ := wt_int h2
 obtain ⟨x3, h3⟩ := wt_int h3
 obtain ⟨x4, h4, hb⟩ := wt_u8 h4
 obtain ⟨x5, h5⟩ := wt_int h5
 obtain ⟨x6, h6⟩ := wt_int h6
 obtain rfl : c1 = intV x1 := by simpa using h1
 obtain rfl : c2 = intV x2 := by simpa using h2
 obtain rfl : c3 = intV x3 := by simpa using h3
 obtain rfl : c4 = .int .u8 x4 := by simpa using h4
 obtain rfl : c5 = intV x5 := by simpa using h5
 obtain rfl : c6 = intV x6 := by simpa using h6
 exact ⟨⟨x1, x2, x3, x4, x5, x6⟩, rfl, hb⟩
theorem wt_recs {n : Nat} {cs : List Value} (h : WT Pg σ (n + 3) 28 cs) : ∃ p l c xs, cs = [.slice p l c] ∧ RecsP σ 63 p l xs ∧ (∀ x ∈ xs, Byte x) ∧ ArgS σ 6 p l c := by
 obtain ⟨p, l, c, rs, e1, _, s1, l1, w1⟩ := wt_slice Tryd.underlying28 (k := 6) (by kernel_rfl) h
 subst e1
 have ha := wt_arg Tryd.underlying28 (k := 6) (by kernel_rfl) h
 obtain ⟨xs, n1, rfl⟩ := pieces (f := fun x : {x : Rec // Byte x} => recL x.1) (fun cs h => by
  obtain ⟨x, e, h⟩ := wt_rec h
  exact ⟨⟨x, h⟩, e⟩) l rs l1 w1
 refine ⟨p, l, c, xs.map (·.1), rfl, ⟨?_, by simpa using n1, fun v hv => ?_⟩, fun x hx => ?_, ha⟩
 ·rw [flat_aggs recL, List.flatMap_map]; exact s1
 ·obtain ⟨x, _, rfl⟩ := List.mem_map.1 hv
  exact elOk_ref x
 ·obtain ⟨y, _, rfl⟩ := List.mem_map.1 hx
  exact y.2
theorem wt_bytes {n : Nat} {cs : List Value} (h : WT Pg σ (n + 2) 22 cs) : ∃ p l c, ∃ xs : List Int, cs = [.slice p l c] ∧ BytesP σ p l xs ∧ Bts xs ∧ ArgS σ 1 p l c := by
 obtain ⟨p, l, c, rs, e1, _, s1, l1, w1⟩ := wt_slice Tryd.underlying22 (k := 1) (by kernel_rfl) h
 subst e1
 have ha := wt_arg Tryd.underlying22 (k := 1) (by kernel_rfl) h
 obtain ⟨xs, n1, rfl⟩ := pieces (f := fun x : {x : Int // 0 ≤ x ∧ x ≤ 255} => [byV x.1]) (fun cs h => by
  obtain ⟨i, e, h⟩ := wt_u8 h
  exact ⟨⟨i, h⟩, e⟩) l rs l1 w1
 have hf : flat ((xs.map (·.1)).map byV) = xs.flatMap fun x => [byV x.1] := by
  clear n1 s1 l1 w1
  induction xs with
  | nil => rfl
  | cons x xs ih => rw [List.map_cons, List.map_cons, List.flatMap_cons, ← ih]; rfl
 refine ⟨p, l, c, xs.map (·.1), rfl, ⟨by rw [hf]; exact s1, by simpa using n1, fun v hv => ?_⟩, fun x hx => ?_, ha⟩
 ·obtain ⟨x, _, rfl⟩ := List.mem_map.1 hv
  exact elOk_byte x
 ·obtain ⟨x, _, rfl⟩ := List.mem_map.1 hx
  exact x.2
theorem not_agg {ι : Inj} {av v : Value} (h : VR ι av v) (hv : ∀ cs, v ≠ .agg cs) : ∀ cs, av ≠ .agg cs := by
 rintro cs rfl
 cases h with
 | atom h => simp [atomB] at h
 | agg _ _ => exact hv _ rfl
theorem sl_not {W : World} {t e : TypeId} {v : Value} (hu : Pg.underlying t = some (.slice e)) (h : Value.okWide Pg W .any 0 t v) : ∀ cs, v ≠ .agg cs := by
 rintro cs rfl
 unfold Value.okWide at h
 rw [hu] at h
 simp [Cell.okWide, Cell.ok, hu] at h
theorem cells_slice {v : Value} {p : Option Addr} {l c : Nat} (h : v.cells.toList = [.slice p l c]) (hn : ∀ cs, v ≠ .agg cs) : v = .slice p l c := by
 cases v with
 | agg cs => exact absurd rfl (hn cs)
 | _ => first | (simp [Value.cells] at h; done) | simpa [Value.cells] using h
end
end Go.Proofs.YtffgfojabcbegaaDoor
