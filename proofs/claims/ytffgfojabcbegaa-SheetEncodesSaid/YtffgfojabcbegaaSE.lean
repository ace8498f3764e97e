
import Derived.Test.YtffgfojabcbegaaSD
import Derived.Test.YtffgfojabcbegaaXB
import Derived.Test.YtffgfojabcbegaaLayD
namespace Go.Proofs.Ytffgfojabcbegaa
open Go Go.Lay
open Try renaming prog → Pg
set_option linter.unusedVariables false
set_option linter.unusedSimpArgs false
set_option maxRecDepth 20000
abbrev byV (n : Int) : Value := .int .u8 n
abbrev BytesP (σ : St) (p : Option Addr) (l : Nat) (bs : List Int) : Prop := SlV Pg σ 5 1 p l (bs.map byV)
theorem elOk_byte (x : Int) : elOk Pg 5 1 (byV x) := .inl ⟨agg5, rfl, rfl⟩
theorem appT_bytes : AppT Pg 24 24 5 1 := appT_of (by kernel_rfl)
def RowsB (σ : St) (p : Option Addr) (l : Nat) (rs : List (List Int)) : Prop := ∃ vs : List Value, SlV Pg σ 24 1 p l vs ∧ rs.length = l ∧ ∀ (i : Nat) (r : List Int), rs[i]? = some r → ∃ q c, vs[i]? = some (Value.slice q r.length c) ∧ BytesP σ q r.length r
section
variable {σ : St}
theorem BytesP.len {p : Option Addr} {l : Nat} {xs : List Int} (h : BytesP σ p l xs) : xs.length = l := by have := h.2.1; simpa using this
theorem RowsB.le {σ' : St} {p : Option Addr} {l : Nat} {rs : List (List Int)} (h : RowsB σ p l rs) (k : Le σ σ') : RowsB σ' p l rs := by
 obtain ⟨vs, h1, h2, h3⟩ := h
 exact ⟨vs, h1.le k, h2, fun i r hi => by obtain ⟨q, c, g1, g2⟩ := h3 i r hi; exact ⟨q, c, g1, g2.le k⟩⟩
theorem RowsB.len {p : Option Addr} {l : Nat} {rs : List (List Int)} (h : RowsB σ p l rs) : rs.length = l := h.choose_spec.2.1
theorem RowsB.row {p : Option Addr} {l i : Nat} {rs : List (List Int)} (h : RowsB σ p l rs) (hi : i < l) : ∃ a, p = some a ∧ ∃ r q c, rs[i]? = some r ∧ (∀ τ, Le σ τ → loadA Pg τ 24 (aadd a (Int.toNat (i : Int) * 1)) = some (.slice q r.length c)) ∧ BytesP σ q r.length r := by
 obtain ⟨vs, h1, h2, h3⟩ := h
 obtain ⟨a, rfl, _⟩ := h1.some hi
 obtain ⟨q, c, g1, g2⟩ := h3 i rs[i] (by simp)
 exact ⟨a, rfl, rs[i], q, c, by simp, fun τ hτ => (h1.le hτ).at rfl g1, g2⟩
theorem zerosA_len (zs : List Value) : ∀ N, (zerosA zs N).length = N * zs.length
 | 0 => by simp [zerosA]
 | N + 1 => by simp [zerosA, zerosA_len zs N, Nat.add_mul]; omega
theorem zerosA_cell {zs : List Value} (h : zs.all cellB = true) : ∀ N, (zerosA zs N).all cellB = true
 | 0 => by simp [zerosA]
 | N + 1 => by simp only [zerosA, List.all_append, zerosA_cell h N, h, Bool.and_self]
theorem flat_all {α : Type} {f : α → Value} (hf : ∀ x, (f x).cells.toList.all cellB = true) (r : List α) : (flat (r.map f)).all cellB = true := by
 induction r with
 | nil => rfl
 | cons x r ih => rw [List.map_cons, show f x :: r.map f = [f x] ++ r.map f from rfl, flat_append, List.all_append, ih, Bool.and_true]; simpa [flat] using hf x

theorem growB_c {N : Nat} (hN : N ≤ 1073741824) : ∃ p c σ', CallsA Pg 75 [.slice none 0 0, iV (N : Int)] σ (.slice p 0 c) σ' ∧ New σ σ' ∧ Buf σ' σ.next 1 N p 0 c [] := by
 have k0 : seeOp Pg (evL [.slice none 0 0]) σ.re (.call { callee := .builtin .cap, args := ⟨tmpsTo 1⟩, argTypes := ⟨[24]⟩ }) = some (iV 0) := by kernel_rfl
 suffices hmain : RunsQ Pg 75 [.slice none 0 0, iV (N : Int)] σ.re fun v s => New σ.re s ∧ ∃ p c, v = .slice p 0 c ∧ Buf s σ.next 1 N p 0 c [] by
  obtain ⟨v, σ', h1, h2, p, c, rfl, h3⟩ := RunsQ.new hmain (by rintro v s s' ⟨p, c, rfl, h⟩ hl; exact ⟨p, c, rfl, h.le hl⟩) (by
   rintro v s hr ⟨p, c, rfl, h⟩
   refine ⟨p, c, rfl, ?_⟩
   rcases h with ⟨rfl, e1, _, e2, _⟩ | ⟨b, bc, rfl, _⟩
   ·exact .inl ⟨rfl, e1, rfl, e2, rfl⟩
   ·exact Bool.noConfusion (show false = true from hr))
  exact ⟨p, c, σ', h1, h2, h3⟩
 rcases Nat.eq_zero_or_pos N with h0 | h0
 ·subst h0
  exact growB_rb k0 ⟨New.refl _, none, 0, rfl, Buf.nil⟩
 have hz : ∃ ei z, Pg.info? 5 = some ei ∧ ei.zero = some z ∧ ei.bytes ≤ 4096 ∧ rigidB RD z = true ∧ Nat.beq z.cells.toList.length 1 = true ∧ z.cells.toList = [.int .u8 0] := ⟨_, _, rfl, rfl, by decide, rfl, rfl, rfl⟩
 obtain ⟨ei, z, hei, hz, hby, hrz, hzl, hzz⟩ := hz
 have hzc : (zerosA z.cells.toList N).length = N * 1 := by rw [hzz]; exact zerosA_len _ N
 have hcb : (zerosA z.cells.toList N).all cellB = true := by rw [hzz]; exact zerosA_cell rfl N
 have g := grow_new (P := Pg) (σ := σ.re) (st := 24) (xt := 3) (e := 5) (n := 1) (N := N) (k := .i64) (q := .i64) (z := z) (by kernel_rfl) (by kernel_rfl) hei hz hby hrz hzl (by omega) hN h0 hzc hcb
 have o : Own (σ.re.row (zerosA z.cells.toList N) 1) σ.next (zerosA z.cells.toList N) 1 := own_new _ _ _
 have s3 : sliceA Pg σ.re 24 (.slice none 0 0) none (some (iV 0)) none = some (.slice none 0 0) := by kernel_rfl
 obtain ⟨c6, s6, e6⟩ := slice_room (P := Pg) (t := 24) (e := 5) (N := N) (c := N + INEX) (q := .i64) (by kernel_rfl) (by kernel_rfl) o h0 (capLow_inex N) (capExact_inex N)
 exact growB_ra k0 k0 s3 (by simpa using g) (by simpa using s6) ⟨New.row _ _ _, some ⟨σ.next, 0, none⟩, c6, rfl, .inr ⟨σ.next, _, rfl, e6, o, hzc, Nat.zero_le _, by simp, Nat.le_refl _, h0⟩⟩
theorem concB_c {p : Option Addr} {l c : Nat} {rs : List (List Int)} (h : RowsB σ p l rs) (hl : l ≤ 1073741824) (hN : rs.flatten.length ≤ 1073741824) :
  ∃ p' c' σ', CallsA Pg 58 [.slice p l c] σ (.slice p' rs.flatten.length c') σ' ∧ New σ σ' ∧ BytesP σ' p' rs.flatten.length rs.flatten ∧ ∀ b, AtP p' b → σ.next ≤ b := by
 have hlen := h.len
 have h0 := h.le (le0 σ)
 have hsum : ∀ s, ((rs.take s).flatten).length ≤ rs.flatten.length := fun s => by
  have e : rs.flatten.length = ((rs.take s).flatten).length + ((rs.drop s).flatten).length := by rw [← List.length_append, ← List.flatten_append, List.take_append_drop]
  omega
 refine RunsQ.newSl (concB_ra (P0 := fun n τ => τ = σ.re ∧ n = (rs.flatten.length : Int)) (concB_loop1 (Inv := fun k n i τ => ∃ s : Nat, i = s ∧ s + k = l ∧ τ = σ.re ∧ n = (((rs.take s).flatten).length : Int)) ?_ l 0 0 σ.re ⟨0, rfl, by omega, rfl, by simp⟩) ?_)
 ·rintro k n i τ ⟨s, rfl, hk, rfl, rfl⟩
  by_cases hs : s < l
  rotate_left
  ·exact concB_s1b ⟨rfl, by rw [List.take_of_length_le (by omega)]⟩ (by omega)
  obtain ⟨a, rfl, r, q, d, hr, ld, hq⟩ := h0.row hs
  have e1 : ((rs.take (s + 1)).flatten).length = ((rs.take s).flatten).length + r.length := by rw [take_snoc hr]; simp
  have := hsum (s + 1)
  exact concB_s1a (ld _ (Le.refl _)) ⟨k - 1, by omega, s + 1, by omega, by omega, rfl, by rw [e1]; omega⟩ (by omega) (by omega) (by omega) (by omega) (by omega)
 ·rintro n τ ⟨rfl, rfl⟩
  obtain ⟨p1, c1, σ1, k1, n1, b1⟩ := growB_c (σ := σ.re) (N := rs.flatten.length) hN
  refine concB_t1x0a k1 (P2 := fun p' l' c' τ => l' = rs.flatten.length ∧ New σ.re τ ∧ Buf τ σ.next 1 rs.flatten.length p' l' c' (flat (rs.flatten.map byV))) (concB_loop2 (Inv := fun k p' l' c' i τ => ∃ s : Nat, i = s ∧ s + k = l ∧ l' = ((rs.take s).flatten).length ∧ New σ.re τ ∧ Buf τ σ.next 1 rs.flatten.length p' l' c' (flat (((rs.take s).flatten).map byV))) ?_ l p1 0 c1 0 σ1 ⟨0, rfl, by omega, rfl, n1, by simpa [flat] using b1⟩) ?_
  ·rintro k p' l' c' i τ ⟨s, rfl, hk, rfl, hNw, hb⟩
   by_cases hs : s < l
   rotate_left
   ·rw [List.take_of_length_le (by omega)] at hb ⊢
    exact concB_s2b ⟨rfl, hNw, hb⟩ (by omega)
   obtain ⟨a, rfl, r, q, d, hr, ld, hq⟩ := (h0.le hNw.le).row hs
   have e1 : ((rs.take (s + 1)).flatten).length = ((rs.take s).flatten).length + r.length := by rw [take_snoc hr]; simp
   have := hsum (s + 1)
   obtain ⟨τ2, g1, g2, g3, g4, g5⟩ := hb.push (P := Pg) (st := 24) (xt := 24) (e := 5) (m := r.length) (d := d) (q := q) (xs := flat (r.map byV)) (appT_of (by kernel_rfl)) hq.1 (by omega) hN (flat_all (fun _ => rfl) r)
   have N2 : New σ.re τ2 := hNw.of_only g3 (fun b hbb => (hb.bd b hbb).1)
   refine concB_s2a (ld _ (Le.refl _)) g1 ⟨k - 1, by omega, s + 1, by omega, by omega, by rw [e1], N2, ?_⟩ (by omega)
   rw [take_snoc hr, List.flatten_append, List.map_append, flat_append]
   simpa using g2
  ·rintro p' l' c' τ ⟨rfl, hNw, hb⟩
   exact concB_t2x2a ⟨hNw, p', c', rfl, hb.slv (List.length_map _) (by intro v hv; obtain ⟨x, _, rfl⟩ := List.mem_map.1 hv; exact elOk_byte x), fun b hbb => (hb.bd b hbb).1⟩
end
end Go.Proofs.Ytffgfojabcbegaa
