import Derived.Test.YtffgfojabcbegaaSD
import Derived.Test.YtffgfojabcbegaaOk
import Derived.Test.YtffgfojabcbegaaLayC

namespace Go.Proofs.Ytffgfojabcbegaa
open Go Go.Lay
open Try renaming prog → Pg
set_option linter.unusedVariables false
set_option maxRecDepth 20000
section
variable {σ : St}
theorem zTA {n : Nat} {cs : List Value} (h : WT Pg σ (n + 1) 3 cs) : ∃ i, cs = [zAQ i] := by
 unfold WT at h
 simp only [Try.underlying3] at h
 obtain ⟨i, h, _⟩ := h
 exact ⟨i, h⟩
theorem yWN {n : Nat} {t e : TypeId} {cs : List Value} {k : Nat} (hu : Pg.underlying t = some (.slice e)) (hk : Pg.cellsOf e = k) (h : WT Pg σ (n + 1) t cs) :
  ∃ p len cap rs, cs = [.slice p len cap] ∧ len ≤ maxLen ∧ SlP σ k p len rs ∧ rs.length = len * k ∧ ∀ i, i < len → WT Pg σ n e ((rs.drop (i * k)).take k) := by
 unfold WT at h
 simp only [hu, hk] at h
 rcases h with rfl | ⟨b, len, cap, rs, rfl, h1, h2, h3, h4, h5, h6⟩
 ·exact ⟨none, 0, 0, [], rfl, by decide, SlP.nil _ _, by simp, fun i hi => by omega⟩
 ·refine ⟨_, len, cap, rs, rfl, h1, ⟨h3, ?_, h5⟩, h3, h6⟩
  simp only [yV, h4, yA, zAF, Nat.zero_add, List.drop_zero, List.take_length]
  show (bif Nat.ble rs.length rs.length then some rs else none) = some rs
  rw [show Nat.ble rs.length rs.length = true from by simp]; rfl
theorem yYN {α : Type} {k : Nat} {Q : List Value → Prop} {f : α → List Value} (hq : ∀ cs, Q cs → ∃ x, cs = f x) : ∀ (len : Nat) (rs : List Value), rs.length = len * k → (∀ i, i < len → Q ((rs.drop (i * k)).take k)) → ∃ xs : List α, xs.length = len ∧ rs = xs.flatMap f
 | 0, rs, hl, _ => ⟨[], rfl, by simpa using hl⟩
 | len + 1, rs, hl, h => by
  obtain ⟨x, hx⟩ := hq _ (h 0 (by omega))
  obtain ⟨xs, h1, h2⟩ := yYN (k := k) hq len (rs.drop k) (by simp [hl, Nat.add_mul]) (fun i hi => by
   have := h (i + 1) (by omega)
   rwa [Nat.add_mul, Nat.one_mul, Nat.add_comm (i * k), ← List.drop_drop] at this)
  refine ⟨x :: xs, by simp [h1], ?_⟩
  simp only [List.flatMap_cons, ← h2, ← hx]
  simp
theorem yVJ {α : Type} (f : α → List Value) (xs : List α) : zAS (xs.map fun x => .agg ⟨f x⟩) = xs.flatMap f := by
 induction xs with
 | nil => rfl
 | cons x xs ih => rw [List.map_cons, List.flatMap_cons, ← ih]; simp [zAS, Value.cells]
theorem wt_u8 {n : Nat} {cs : List Value} (h : WT Pg σ (n + 1) 5 cs) : ∃ i : Int, cs = [.int .u8 i] ∧ 0 ≤ i ∧ i ≤ 255 := by
 unfold WT at h
 simp only [Try.underlying5] at h
 obtain ⟨i, h, hk⟩ := h
 refine ⟨i, h, ?_⟩
 rw [show IntKind.u8.min = 0 by decide, show IntKind.u8.max = 255 by decide] at hk; exact hk
theorem wt_arg {n : Nat} {t e : TypeId} {p : Option Addr} {l c k : Nat} (hu : Pg.underlying t = some (.slice e)) (hk : Pg.cellsOf e = k) (h : WT Pg σ (n + 1) t [.slice p l c]) : ArgS σ k p l c := by
 unfold WT at h
 simp only [hu, hk] at h
 rcases h with h | ⟨b, len, cap, rs, h1, h2, h3, h4, h5, h6, h7⟩
 ·obtain ⟨rfl, rfl, rfl⟩ : p = none ∧ l = 0 ∧ c = 0 := by simpa using h
  exact .inl ⟨rfl, rfl, rfl⟩
 ·obtain ⟨rfl, rfl, rfl⟩ : p = some ⟨b, 0, none⟩ ∧ l = len ∧ c = cap := by simpa using h1
  exact .inr ⟨b, rs, 1, true, rfl, by rw [← yVX h3.2]; exact h3.1, h3.2, h5, h4, h6⟩
theorem wt_rec {n : Nat} {cs : List Value} (h : WT Pg σ (n + 2) 59 cs) : ∃ x : Rec, cs = yH x ∧ zXO x := by
 unfold WT at h
 simp only [Try.underlying59] at h
 obtain ⟨hl, h⟩ := h
 have hl : cs.length = 6 := hl.trans (by kernel_rfl)
 obtain ⟨c1, c2, c3, c4, c5, c6, rfl⟩ : ∃ c1 c2 c3 c4 c5 c6, cs = [c1, c2, c3, c4, c5, c6] := by
  match cs, hl with
  | [c1, c2, c3, c4, c5, c6], _ => exact ⟨_, _, _, _, _, _, rfl⟩
 have k3 : Pg.cellsOf 3 = 1 := by kernel_rfl
 have k5 : Pg.cellsOf 5 = 1 := by kernel_rfl
 simp only [List.mem_cons, List.not_mem_nil, or_false, forall_eq_or_imp, forall_eq, k3, k5] at h
 obtain ⟨⟨_, h1⟩, ⟨_, h2⟩, ⟨_, h3⟩, ⟨_, h4⟩, ⟨_, h5⟩, ⟨_, h6⟩⟩ := h
 obtain ⟨x1, h1⟩ := zTA h1
 obtain ⟨x2, h2⟩ := zTA h2
 obtain ⟨x3, h3⟩ := zTA h3
 obtain ⟨x4, h4, hb⟩ := wt_u8 h4
 obtain ⟨x5, h5⟩ := zTA h5
 obtain ⟨x6, h6⟩ := zTA h6
 obtain rfl : c1 = zAQ x1 := by simpa using h1
 obtain rfl : c2 = zAQ x2 := by simpa using h2
 obtain rfl : c3 = zAQ x3 := by simpa using h3
 obtain rfl : c4 = .int .u8 x4 := by simpa using h4
 obtain rfl : c5 = zAQ x5 := by simpa using h5
 obtain rfl : c6 = zAQ x6 := by simpa using h6
 exact ⟨⟨x1, x2, x3, x4, x5, x6⟩, rfl, hb⟩
theorem wt_recs {n : Nat} {cs : List Value} (h : WT Pg σ (n + 3) 22 cs) : ∃ p l c xs, cs = [.slice p l c] ∧ xB σ 59 p l xs ∧ (∀ x ∈ xs, zXO x) ∧ ArgS σ 6 p l c := by
 obtain ⟨p, l, c, rs, e1, _, s1, l1, w1⟩ := yWN Try.underlying22 (k := 6) (by kernel_rfl) h
 subst e1
 have ha := wt_arg Try.underlying22 (k := 6) (by kernel_rfl) h
 obtain ⟨xs, n1, rfl⟩ := yYN (f := fun x : {x : Rec // zXO x} => yH x.1) (fun cs h => by
  obtain ⟨x, e, h⟩ := wt_rec h
  exact ⟨⟨x, h⟩, e⟩) l rs l1 w1
 refine ⟨p, l, c, xs.map (·.1), rfl, ⟨?_, by simpa using n1, fun v hv => ?_⟩, fun x hx => ?_, ha⟩
 ·rw [yVJ yH, List.flatMap_map]; exact s1
 ·obtain ⟨x, _, rfl⟩ := List.mem_map.1 hv
  exact zIO x
 ·obtain ⟨y, _, rfl⟩ := List.mem_map.1 hx
  exact y.2
theorem wt_u64 {n : Nat} {cs : List Value} (h : WT Pg σ (n + 1) 55 cs) : ∃ i : Int, cs = [.int .u64 i] ∧ 0 ≤ i ∧ i ≤ 18446744073709551615 := by
 unfold WT at h
 simp only [Try.underlying55] at h
 obtain ⟨i, h, hk⟩ := h
 refine ⟨i, h, ?_⟩
 rw [show IntKind.u64.min = 0 by decide, show IntKind.u64.max = 18446744073709551615 by decide] at hk; exact hk
theorem yQS {ι : Inj} {av v : Value} (h : VR ι av v) (hv : ∀ cs, v ≠ .agg cs) : ∀ cs, av ≠ .agg cs := by
 rintro cs rfl
 cases h with
 | atom h => simp [zBL] at h
 | agg _ _ => exact hv _ rfl
theorem sl_not {W : World} {t e : TypeId} {v : Value} (hu : Pg.underlying t = some (.slice e)) (h : Value.okWide Pg W .any 0 t v) : ∀ cs, v ≠ .agg cs := by
 rintro cs rfl
 unfold Value.okWide at h
 rw [hu] at h
 simp [Cell.okWide, Cell.ok, hu] at h
theorem int_not {W : World} {t : TypeId} {k : IntKind} {v : Value} (hu : Pg.underlying t = some (.int k)) (h : Value.okWide Pg W .any 0 t v) : ∀ cs, v ≠ .agg cs := by
 rintro cs rfl
 unfold Value.okWide at h
 rw [hu] at h
 simp [Cell.okWide, Cell.ok, hu] at h
theorem yIW {v : Value} {p : Option Addr} {l c : Nat} (h : v.cells.toList = [.slice p l c]) (hn : ∀ cs, v ≠ .agg cs) : v = .slice p l c := by
 cases v with
 | agg cs => exact absurd rfl (hn cs)
 | _ => first | (simp [Value.cells] at h; done) | simpa [Value.cells] using h
theorem yVW {v : Value} {k : IntKind} {x : Int} (h : v.cells.toList = [.int k x]) (hn : ∀ cs, v ≠ .agg cs) : v = .int k x := by
 cases v with
 | agg cs => exact absurd rfl (hn cs)
 | _ => first | (simp [Value.cells] at h; done) | simpa [Value.cells] using h
end
end Go.Proofs.Ytffgfojabcbegaa

namespace Go.Proofs.Ytffgfojabcbegaa.Aw
open Go Go.Lay
set_option maxRecDepth 100000
def b1 : Blk := .cells [.int .i64 5, .int .i64 1, .int .i64 10, .int .u8 1, .int .i64 20, .int .i64 0, .int .i64 5, .int .i64 2, .int .i64 15, .int .u8 0, .int .i64 1, .int .i64 300, .int .i64 5, .int .i64 4, .int .i64 18, .int .u8 0, .int .i64 2, .int .i64 200, .int .i64 5, .int .i64 5, .int .i64 30, .int .u8 2, .int .i64 3, .int .i64 900, .int .i64 5, .int .i64 6, .int .i64 40, .int .u8 1, .int .i64 50, .int .i64 0, .int .i64 5, .int .i64 7, .int .i64 41, .int .u8 2, .int .i64 3, .int .i64 900] 6 [(0, 36)] 1 false
def b2 : Blk := .cells [.int .i64 5, .int .i64 0, .int .i64 5, .int .i64 1, .int .i64 400] 5 [(0, 5)] 1 false
def b3 : Blk := .cells [.int .i64 20, .int .i64 20, .int .i64 24, .int .i64 26, .int .i64 26, .int .i64 30, .int .i64 38, .int .i64 42, .int .i64 50, .int .i64 50, .int .i64 50, .int .i64 52] 2 [(5, 12), (4, 10), (3, 8), (2, 6), (1, 4), (0, 2)] 6 false
def b4 : Blk := .cells [.int .i64 0, .int .i64 1, .int .i64 0, .int .u8 0, .int .i64 1, .int .i64 2] 6 [(0, 6)] 1 false
def b5 : Blk := .cells [.int .u8 126, .int .u8 6, .int .u8 0, .int .u8 1, .int .u8 0, .int .u8 0, .int .u8 1, .int .u8 2, .int .u8 10, .int .u8 51] 1 [(0, 10)] 1 false
def b6 : Blk := .cells [.int .i64 20, .int .i64 20, .int .i64 24, .int .i64 26, .int .i64 26, .int .i64 30, .int .i64 38, .int .i64 42, .int .i64 50, .int .i64 50, .int .i64 50, .int .i64 52] 1 [(0, 12)] 1 false
def s0 : St := ⟨.leaf, 0, 0⟩
def s1 : St := ⟨(ins .leaf [(0, b1)]), 1, 0⟩
def s2 : St := ⟨s1.heap, 1, 1⟩
def s3 : St := ⟨(ins s1.heap [(53, b2)]), 60, 1⟩
def s4 : St := ⟨s3.heap, 60, 60⟩
def s5 : St := ⟨(ins s3.heap [(60, b1)]), 61, 60⟩
def s6 : St := ⟨s5.heap, 61, 61⟩
def s7 : St := ⟨(ins s5.heap [(109, b3)]), 175, 61⟩
def s8 : St := ⟨(ins s7.heap [(175, b4)]), 176, 176⟩
def s9 : St := ⟨(ins s8.heap [(222, b5)]), 223, 176⟩
def s10 : St := ⟨(ins .leaf [(109, b3), (223, b6)]), 224, 224⟩
end Go.Proofs.Ytffgfojabcbegaa.Aw

namespace Go.Proofs.Ytffgfojabcbegaa.Aw
open Go Go.Lay
set_option maxRecDepth 100000
def e1 : Ent := ⟨false, 34, [], s0, .slice (some ⟨0, 0, none⟩) 6 6, s1⟩
def e2 : Ent := ⟨false, 18, [.slice (some ⟨0, 0, none⟩) 6 6], s2, .tuple ⟨[.slice (some ⟨53, 0, none⟩) 1 9223372036854775809, .int .i64 0]⟩, s3⟩
def e3 : Ent := ⟨false, 34, [], s4, .slice (some ⟨60, 0, none⟩) 6 6, s5⟩
def e4 : Ent := ⟨false, 23, [.slice (some ⟨60, 0, none⟩) 6 6, .int .i64 200], s6, .tuple ⟨[.slice (some ⟨109, 0, some 5⟩) 6 9223372036854775814, .int .i64 0]⟩, s7⟩
def e5 : Ent := ⟨false, 13, [.slice (some ⟨175, 0, none⟩) 1 1], s8, .tuple ⟨[.slice (some ⟨222, 0, none⟩) 10 9223372036854775818, .int .i64 0]⟩, s9⟩
def e6 : Ent := ⟨true, 35, [.slice (some ⟨109, 0, some 5⟩) 6 9223372036854775814, .slice (some ⟨223, 0, none⟩) 12 12], s10, .bool true, s10⟩
def tbl1 : List Ent := [e1, e2, e3, e4, e5, e6]
end Go.Proofs.Ytffgfojabcbegaa.Aw

namespace Go.Proofs.Ytffgfojabcbegaa.Aw
open Go Go.Lay
set_option maxRecDepth 100000
theorem e1_ok : zHG Try.prog e1 := zLJ zGR zJB 100000 (by kernel_rfl)
theorem e2_ok : zHG Try.prog e2 := zLJ zGR zJB 100000 (by kernel_rfl)
theorem e3_ok : zHG Try.prog e3 := zLJ zGR zJB 100000 (by kernel_rfl)
end Go.Proofs.Ytffgfojabcbegaa.Aw

namespace Go.Proofs.Ytffgfojabcbegaa.Aw
open Go Go.Lay
set_option maxRecDepth 100000
theorem e4_ok : zHG Try.prog e4 := zLJ zGR zJB 100000 (by kernel_rfl)
end Go.Proofs.Ytffgfojabcbegaa.Aw

namespace Go.Proofs.Ytffgfojabcbegaa.Aw
open Go Go.Lay
set_option maxRecDepth 100000
theorem e5_ok : zHG Try.prog e5 := zLJ zGR zJB 100000 (by kernel_rfl)
theorem e6_ok : zHG Try.prog e6 := ent_pure zGR zJB 100000 (by kernel_rfl)
theorem tbl1_ok : zLQ Try.prog tbl1 := zHJ e1_ok (zHJ e2_ok (zHJ e3_ok (zHJ e4_ok (zHJ e5_ok (zHJ e6_ok (zJB))))))
theorem shut : ShutF Try.prog 12 := yVT zGR tbl1_ok (N := 100000) (by kernel_rfl)
end Go.Proofs.Ytffgfojabcbegaa.Aw
