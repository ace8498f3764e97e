import Derived.Test.YtffgfojabcbegaaDoorXB
import Derived.Test.YtffgfojabcbegaaDoorLayD
import Derived.Test.YtffgfojabcbegaaDoorXA
import Derived.Laws.Strings
import Derived.Lib.Bytealg
set_option linter.unusedVariables false
set_option linter.unusedSimpArgs false
set_option maxRecDepth 20000
namespace Go.Proofs.YtffgfojabcbegaaDoor
open Go Go.Lay
open Tryd renaming prog → Pg
abbrev byV (n : Int) : Value := .int .u8 n
abbrev BytesP (σ : St) (p : Option Addr) (l : Nat) (bs : List Int) : Prop := SlV Pg σ 5 1 p l (bs.map byV)
theorem elOk_byte (x : Int) : elOk Pg 5 1 (byV x) := .inl ⟨agg5, rfl, rfl⟩
theorem appT_bytes : AppT Pg 22 22 5 1 := appT_of (by kernel_rfl)
def RowsB (σ : St) (p : Option Addr) (l : Nat) (rs : List (List Int)) : Prop := ∃ vs : List Value, SlV Pg σ 22 1 p l vs ∧ rs.length = l ∧ ∀ (i : Nat) (r : List Int), rs[i]? = some r → ∃ q c, vs[i]? = some (Value.slice q r.length c) ∧ BytesP σ q r.length r
section
variable {σ : St}
theorem BytesP.len {p : Option Addr} {l : Nat} {xs : List Int} (h : BytesP σ p l xs) : xs.length = l := by have := h.2.1; simpa using this
theorem RowsB.le {σ' : St} {p : Option Addr} {l : Nat} {rs : List (List Int)} (h : RowsB σ p l rs) (k : Le σ σ') : RowsB σ' p l rs := by
 obtain ⟨vs, h1, h2, h3⟩ := h
 exact ⟨vs, h1.le k, h2, fun i r hi => by obtain ⟨q, c, g1, g2⟩ := h3 i r hi; exact ⟨q, c, g1, g2.le k⟩⟩
theorem RowsB.len {p : Option Addr} {l : Nat} {rs : List (List Int)} (h : RowsB σ p l rs) : rs.length = l := h.choose_spec.2.1
theorem RowsB.row {p : Option Addr} {l i : Nat} {rs : List (List Int)} (h : RowsB σ p l rs) (hi : i < l) : ∃ a, p = some a ∧ ∃ r q c, rs[i]? = some r ∧ (∀ τ, Le σ τ → loadA Pg τ 22 (aadd a (Int.toNat (i : Int) * 1)) = some (.slice q r.length c)) ∧ BytesP σ q r.length r := by
 obtain ⟨vs, h1, h2, h3⟩ := h
 obtain ⟨a, rfl, _⟩ := h1.some hi
 obtain ⟨q, c, g1, g2⟩ := h3 i rs[i] (by simp)
 exact ⟨a, rfl, rs[i], q, c, by simp, fun τ hτ => (h1.le hτ).at rfl g1, g2⟩
theorem zerosA_len (zs : List Value) : ∀ N, (zerosA zs N).length = N * zs.length
 | 0 => by simp [zerosA]
 | N + 1 => by simp [zerosA, zerosA_len zs N, Nat.add_mul]; omega
theorem zerosA_cell {zs : List Value} (h : zs.all cellB = true) : ∀ N, (zerosA zs N).all cellB = true
 | 0 => by simp [zerosA]
 | N + 1 => by simp only [zerosA, List.all_append, zerosA_cell h N, h, Bool.and_self]
theorem flat_all {α : Type} {f : α → Value} (hf : ∀ x, (f x).cells.toList.all cellB = true) (r : List α) : (flat (r.map f)).all cellB = true := by
 induction r with
 | nil => rfl
 | cons x r ih => rw [List.map_cons, show f x :: r.map f = [f x] ++ r.map f from rfl, flat_append, List.all_append, ih, Bool.and_true]; simpa [flat] using hf x

theorem growB_c {N : Nat} (hN : N ≤ 1073741824) : ∃ p c σ', CallsA Pg 72 [.slice none 0 0, iV (N : Int)] σ (.slice p 0 c) σ' ∧ New σ σ' ∧ Buf σ' σ.q 1 N p 0 c [] := by
 have k0 : seeOp Pg (evL [.slice none 0 0]) σ.re (.call { callee := .builtin .cap, args := ⟨tmpsTo 1⟩, argTypes := ⟨[22]⟩ }) = some (iV 0) := by kernel_rfl
 suffices hmain : RunsQ Pg 72 [.slice none 0 0, iV (N : Int)] σ.re fun v s => New σ.re s ∧ ∃ p c, v = .slice p 0 c ∧ Buf s σ.q 1 N p 0 c [] by
  obtain ⟨v, σ', h1, h2, p, c, rfl, h3⟩ := RunsQ.new hmain (by rintro v s s' ⟨p, c, rfl, h⟩ hl; exact ⟨p, c, rfl, h.le hl⟩) (by
   rintro v s hr ⟨p, c, rfl, h⟩
   refine ⟨p, c, rfl, ?_⟩
   rcases h with ⟨rfl, e1, _, e2, _⟩ | ⟨b, bc, rfl, _⟩
   ·exact .inl ⟨rfl, e1, rfl, e2, rfl⟩
   ·exact Bool.noConfusion (show false = true from hr))
  exact ⟨p, c, σ', h1, h2, h3⟩
 rcases Nat.eq_zero_or_pos N with h0 | h0
 ·subst h0
  exact growB_rb k0 ⟨New.refl _, none, 0, rfl, Buf.nil⟩
 have hz : ∃ ei z, Pg.info? 5 = some ei ∧ ei.zero = some z ∧ ei.bytes ≤ 4096 ∧ rigidB RD z = true ∧ Nat.beq z.cells.toList.length 1 = true ∧ z.cells.toList = [.int .u8 0] := ⟨_, _, rfl, rfl, by decide, rfl, rfl, rfl⟩
 obtain ⟨ei, z, hei, hz, hby, hrz, hzl, hzz⟩ := hz
 have hzc : (zerosA z.cells.toList N).length = N * 1 := by rw [hzz]; exact zerosA_len _ N
 have hcb : (zerosA z.cells.toList N).all cellB = true := by rw [hzz]; exact zerosA_cell rfl N
 have g := grow_new (P := Pg) (σ := σ.re) (st := 22) (xt := 3) (e := 5) (n := 1) (N := N) (k := .i64) (q := .i64) (z := z) (by kernel_rfl) (by kernel_rfl) hei hz hby hrz hzl (by omega) hN h0 hzc hcb
 have o : Own (σ.re.row (zerosA z.cells.toList N) 1) σ.q (zerosA z.cells.toList N) 1 := own_new _ _ _
 have s3 : sliceA Pg σ.re 22 (.slice none 0 0) none (some (iV 0)) none = some (.slice none 0 0) := by kernel_rfl
 obtain ⟨c6, s6, e6⟩ := slice_room (P := Pg) (t := 22) (e := 5) (N := N) (c := N + INEX) (q := .i64) (by kernel_rfl) (by kernel_rfl) o h0 (capLow_inex N) (capExact_inex N)
 exact growB_ra k0 k0 s3 (by simpa using g) (by simpa using s6) ⟨New.row _ _ _, some ⟨σ.q, 0, none⟩, c6, rfl, .inr ⟨σ.q, _, rfl, e6, o, hzc, Nat.zero_le _, by simp, Nat.le_refl _, h0⟩⟩
def CutS (σ : St) (p : Option Addr) (len c : Nat) : Prop := match p with | none => len = 0 | some a => eszOk σ a 1 = true ∧ len ≤ capLow c
theorem cutS_get {τ : St} {p : Option Addr} {len c : Nat} (h : CutS σ p len c) (hb : ∀ k, AtP p k → getB τ.heap k = getB σ.heap k) : CutS τ p len c := by
 cases p with
 | none => exact h
 | some a =>
  obtain ⟨h1, h2⟩ := h
  refine ⟨?_, h2⟩
  unfold eszOk at h1 ⊢
  rw [hb a.block ⟨a, rfl, rfl⟩]
  exact h1
theorem bufCut {n0 N len c : Nat} {p : Option Addr} {cs : List Value} (h : Buf σ n0 1 N p len c cs) : CutS σ p len c := by
 rcases h with ⟨rfl, rfl, rfl, rfl, rfl⟩ | ⟨b, bc, rfl, h2, h3, h4, h5, h6, h7, h8⟩
 ·rfl
 ·exact ⟨by simp [eszOk, h3.get, stampOf, extOf], by omega⟩
theorem RunsQ.newCut {f : FuncId} {args : List Value} {len : Nat} {bs : List Int} {W : Value → Value} (hW : ∀ p c, rigidB RD (W (.slice p len c)) = true → p = none) (h : RunsQ Pg f args σ.re fun v s => New σ.re s ∧ ∃ p c, v = W (.slice p len c) ∧ BytesP s p len bs ∧ (∀ b, AtP p b → σ.q ≤ b) ∧ CutS s p len c) :
  ∃ p c σ', CallsA Pg f args σ (W (.slice p len c)) σ' ∧ New σ σ' ∧ BytesP σ' p len bs ∧ (∀ b, AtP p b → σ.q ≤ b) ∧ CutS σ' p len c := by
 obtain ⟨v, σ', h1, h2, p, c, rfl, h3, h4, h5⟩ := RunsQ.new (Q := fun v s => ∃ p c, v = W (.slice p len c) ∧ BytesP s p len bs ∧ (∀ b, AtP p b → σ.q ≤ b) ∧ CutS s p len c) h (by
  rintro v s s' ⟨p, c, rfl, g1, g2, g3⟩ hle
  refine ⟨p, c, rfl, SlV.le g1 hle, g2, cutS_get g3 fun b hb => hle.get b ?_⟩
  obtain ⟨a, rfl, rfl⟩ := hb
  have hr : Row s a (flat (bs.map byV)) := g1.1.2
  exact hr.lt) (by
  rintro v s hr ⟨p, c, rfl, g1, g2, g3⟩
  obtain rfl := hW p c hr
  exact ⟨none, c, rfl, slv_none g1, fun b hb => (AtP.none hb).elim, g3⟩)
 exact ⟨p, c, σ', h1, h2, h3, h4, h5⟩
theorem concB_c {p : Option Addr} {l c : Nat} {rs : List (List Int)} (h : RowsB σ p l rs) (hl : l ≤ 1073741824) (hN : rs.flatten.length ≤ 1073741824) :
  ∃ p' c' σ', CallsA Pg 54 [.slice p l c] σ (.slice p' rs.flatten.length c') σ' ∧ New σ σ' ∧ BytesP σ' p' rs.flatten.length rs.flatten ∧ (∀ b, AtP p' b → σ.q ≤ b) ∧ CutS σ' p' rs.flatten.length c' := by
 have hlen := h.len
 have h0 := h.le (le0 σ)
 have hsum : ∀ s, ((rs.take s).flatten).length ≤ rs.flatten.length := fun s => by
  have e : rs.flatten.length = ((rs.take s).flatten).length + ((rs.drop s).flatten).length := by rw [← List.length_append, ← List.flatten_append, List.take_append_drop]
  omega
 refine RunsQ.newCut (W := id) (fun p c h => by cases p with | none => rfl | some a => exact Bool.noConfusion (show false = true from h)) (concB_ra (P0 := fun n τ => τ = σ.re ∧ n = (rs.flatten.length : Int)) (concB_loop1 (Inv := fun k n i τ => ∃ s : Nat, i = s ∧ s + k = l ∧ τ = σ.re ∧ n = (((rs.take s).flatten).length : Int)) ?_ l 0 0 σ.re ⟨0, rfl, by omega, rfl, by simp⟩) ?_)
 ·rintro k n i τ ⟨s, rfl, hk, rfl, rfl⟩
  by_cases hs : s < l
  rotate_left
  ·exact concB_s1b ⟨rfl, by rw [List.take_of_length_le (by omega)]⟩ (by omega)
  obtain ⟨a, rfl, r, q, d, hr, ld, hq⟩ := h0.row hs
  have e1 : ((rs.take (s + 1)).flatten).length = ((rs.take s).flatten).length + r.length := by rw [take_snoc hr]; simp
  have := hsum (s + 1)
  exact concB_s1a (ld _ (Le.refl _)) ⟨k - 1, by omega, s + 1, by omega, by omega, rfl, by rw [e1]; omega⟩ (by omega) (by omega) (by omega) (by omega) (by omega)
 ·rintro n τ ⟨rfl, rfl⟩
  obtain ⟨p1, c1, σ1, k1, n1, b1⟩ := growB_c (σ := σ.re) (N := rs.flatten.length) hN
  refine concB_t1x0a k1 (P2 := fun p' l' c' τ => l' = rs.flatten.length ∧ New σ.re τ ∧ Buf τ σ.q 1 rs.flatten.length p' l' c' (flat (rs.flatten.map byV))) (concB_loop2 (Inv := fun k p' l' c' i τ => ∃ s : Nat, i = s ∧ s + k = l ∧ l' = ((rs.take s).flatten).length ∧ New σ.re τ ∧ Buf τ σ.q 1 rs.flatten.length p' l' c' (flat (((rs.take s).flatten).map byV))) ?_ l p1 0 c1 0 σ1 ⟨0, rfl, by omega, rfl, n1, by simpa [flat] using b1⟩) ?_
  ·rintro k p' l' c' i τ ⟨s, rfl, hk, rfl, hNw, hb⟩
   by_cases hs : s < l
   rotate_left
   ·rw [List.take_of_length_le (by omega)] at hb ⊢
    exact concB_s2b ⟨rfl, hNw, hb⟩ (by omega)
   obtain ⟨a, rfl, r, q, d, hr, ld, hq⟩ := (h0.le hNw.le).row hs
   have e1 : ((rs.take (s + 1)).flatten).length = ((rs.take s).flatten).length + r.length := by rw [take_snoc hr]; simp
   have := hsum (s + 1)
   obtain ⟨τ2, g1, g2, g3, g4, g5⟩ := hb.push (P := Pg) (st := 22) (xt := 22) (e := 5) (m := r.length) (d := d) (q := q) (xs := flat (r.map byV)) (appT_of (by kernel_rfl)) hq.1 (by omega) hN (flat_all (fun _ => rfl) r)
   have N2 : New σ.re τ2 := hNw.of_only g3 (fun b hbb => (hb.bd b hbb).1)
   refine concB_s2a (ld _ (Le.refl _)) g1 ⟨k - 1, by omega, s + 1, by omega, by omega, by rw [e1], N2, ?_⟩ (by omega)
   rw [take_snoc hr, List.flatten_append, List.map_append, flat_append]
   simpa using g2
  ·rintro p' l' c' τ ⟨rfl, hNw, hb⟩
   exact concB_t2x2a ⟨hNw, p', c', rfl, hb.slv (List.length_map _) (by intro v hv; obtain ⟨x, _, rfl⟩ := List.mem_map.1 hv; exact elOk_byte x), fun b hbb => (hb.bd b hbb).1, bufCut hb⟩
end
theorem wrap8 (n : Int) : wrapK .u8 n = n % 256 := by
 have e1 : (2 : Int) ^ 8 = 256 := by decide
 rw [wrapK_eq]
 simp only [IntKind.wrap, IntKind.bits, IntKind.signed, e1, Bool.false_and, Bool.false_eq_true, if_false]
def numB (n : Nat) : List Int := if n ≤ 127 then [(n : Int)] else ((n % 128 + 128 : Nat) : Int) :: numB (n / 128)
termination_by n
decreasing_by omega
theorem numB_small {n : Nat} (h : n ≤ 127) : numB n = [(n : Int)] := by rw [numB, if_pos h]
theorem numB_big {n : Nat} (h : 127 < n) : numB n = ((n % 128 + 128 : Nat) : Int) :: numB (n / 128) := by rw [numB, if_neg (by omega)]
theorem numB_len : ∀ (k n : Nat), n < 128 ^ k → 0 < k → (numB n).length ≤ k
 | 0, n, _, hk => by omega
 | k + 1, n, h, _ => by
  by_cases hn : n ≤ 127
  ·rw [numB_small hn]; simp
  ·rw [numB_big (by omega)]
   by_cases hk : k = 0
   ·subst hk; omega
   have := numB_len k (n / 128) (by rw [Nat.div_lt_iff_lt_mul (by omega)]; rw [Nat.pow_succ] at h; exact h) (by omega)
   simp; omega
theorem numB_byte : ∀ (n : Nat) (x : Int), x ∈ numB n → 0 ≤ x ∧ x ≤ 255 := by
 intro n
 induction n using Nat.strongRecOn with
 | _ n ih =>
  intro x hx
  by_cases hn : n ≤ 127
  ·rw [numB_small hn] at hx; simp at hx; omega
  ·rw [numB_big (by omega)] at hx
   rcases List.mem_cons.1 hx with e | e
   ·omega
   ·exact ih (n / 128) (by omega) x e
def numI (n : Int) : List Int := numB n.toNat
def fieldsL (x : Rec) : List Int := [x.m, x.s, x.t, x.k, x.a, x.b]
def bodyB (x : Rec) : List Int := (fieldsL x).flatMap numI
def chk (b : List Int) : Int × Int := b.foldl (fun p c => ((p.1 + c) % 256, (p.2 + (p.1 + c) % 256) % 256)) (0, 0)
def countedB (x : Rec) : List Int := ((bodyB x).length : Int) % 256 :: bodyB x
def contentB (x : Rec) : List Int := countedB x ++ [(chk (countedB x)).1, (chk (countedB x)).2]
def escB (c : Int) : List Int := if c = 126 then [125, 94] else if c = 125 then [125, 93] else [c]
def frameB (x : Rec) : List Int := 126 :: (contentB x).flatMap escB
def fileB (l : List Rec) : List Int := l.flatMap frameB
theorem numI_len {n : Int} (h : n ≤ 10000000) : (numI n).length ≤ 4 := by
 have e : (128 : Nat) ^ 4 = 268435456 := by decide
 exact numB_len 4 _ (by omega) (by omega)
theorem body_len {x : Rec} (h : rightB x = true) : (bodyB x).length ≤ 24 := by
 have := rightB_iff h
 have h1 := numI_len (n := x.m) (by omega)
 have h2 := numI_len (n := x.s) (by omega)
 have h3 := numI_len (n := x.t) (by omega)
 have h4 := numI_len (n := x.k) (by omega)
 have h5 := numI_len (n := x.a) (by omega)
 have h6 := numI_len (n := x.b) (by omega)
 simp [bodyB, fieldsL, List.flatMap_cons]
 omega
theorem content_len {x : Rec} (h : rightB x = true) : (contentB x).length ≤ 27 := by
 have := body_len h
 simp [contentB, countedB]; omega
theorem esc_len (c : Int) : (escB c).length ≤ 2 := by unfold escB; split; simp; split <;> simp
theorem escs_len : ∀ l : List Int, (l.flatMap escB).length ≤ 2 * l.length
 | [] => by simp
 | c :: l => by have := esc_len c; have := escs_len l; rw [List.flatMap_cons, List.length_append, List.length_cons]; omega
theorem frame_len {x : Rec} (h : rightB x = true) : (frameB x).length ≤ 55 := by
 have := content_len h
 have := escs_len (contentB x)
 rw [frameB, List.length_cons]; omega
section
variable {σ : St}
theorem RowsB.two {b : Nat} {p q : Option Addr} {c d : Nat} {r1 r2 : List Int} (o : Own σ b [.slice p r1.length c, .slice q r2.length d] 1) (h1 : BytesP σ p r1.length r1) (h2 : BytesP σ q r2.length r2) : RowsB σ (some ⟨b, 0, none⟩) 2 [r1, r2] := by
 refine ⟨[.slice p r1.length c, .slice q r2.length d], ⟨⟨rfl, o.rw⟩, rfl, ?_⟩, rfl, ?_⟩
 ·intro v hv
  simp at hv
  rcases hv with rfl | rfl <;> exact .inl ⟨agg22, rfl, rfl⟩
 ·intro i r hi
  rcases i with _ | _ | i
  ·cases hi; exact ⟨p, c, rfl, h1⟩
  ·cases hi; exact ⟨q, d, rfl, h2⟩
  ·simp at hi
theorem join_c {p : Option Addr} {l c : Nat} {rs : List (List Int)} (h : RowsB σ p l rs) (hl : l ≤ 1073741824) (hN : rs.flatten.length ≤ 1073741824) :
  ∃ p' c' σ', CallsA Tryd.prog 28 [.slice p l c] σ (.slice p' rs.flatten.length c') σ' ∧ New σ σ' ∧ BytesP σ' p' rs.flatten.length rs.flatten ∧ (∀ b, AtP p' b → σ.q ≤ b) ∧ CutS σ' p' rs.flatten.length c' := by
 obtain ⟨p', c', σ', h1, h2, h3, h4, h5⟩ := concB_c (σ := σ.re) (c := c) (h.le (le0 σ)) hl hN
 exact RunsQ.newCut (W := id) (fun p c h => by cases p with | none => rfl | some a => exact Bool.noConfusion (show false = true from h)) (join_ra h1 ⟨h2, p', c', rfl, h3, h4, h5⟩)
theorem join2 {p q : Option Addr} {c d : Nat} {r1 r2 : List Int} (h1 : BytesP σ p r1.length r1) (h2 : BytesP σ q r2.length r2) (hN : r1.length + r2.length ≤ 1073741824) :
  ∃ p' c' σ', CallsA Tryd.prog 28 [.slice (some ⟨σ.q, 0, none⟩) 2 2] (σ.row [.slice p r1.length c, .slice q r2.length d] 1) (.slice p' (r1 ++ r2).length c') σ' ∧ New (σ.row [.slice p r1.length c, .slice q r2.length d] 1) σ' ∧ BytesP σ' p' (r1 ++ r2).length (r1 ++ r2) ∧ (∀ b, AtP p' b → σ.q ≤ b) ∧ CutS σ' p' (r1 ++ r2).length c' := by
 have hr : RowsB (σ.row [.slice p r1.length c, .slice q r2.length d] 1) (some ⟨σ.q, 0, none⟩) 2 [r1, r2] := RowsB.two (own_new _ _ _) (SlV.le h1 (Le.row _ _ _)) (SlV.le h2 (Le.row _ _ _))
 obtain ⟨p', c', σ', h1, h2, h3, h4, h5⟩ := join_c (c := 2) hr (by omega) (by simp; omega)
 have e : [r1, r2].flatten = r1 ++ r2 := by simp
 rw [e] at h1 h3 h5
 exact ⟨p', c', σ', h1, h2, h3, fun b hb => by have := h4 b hb; simp at this; omega, h5⟩
theorem byte_push {τ : St} {p : Option Addr} {c n0 : Nat} {bs : List Int} (z : Int) (hg : Gr Tryd.prog τ n0 5 1 p bs.length c (bs.map byV)) (hn : n0 ≤ τ.q) (hr : bs.length + 1 ≤ 1073741824) :
  ∃ p' c' τ', appendA Tryd.prog 22 22 (.slice p bs.length c) (.slice (some ⟨τ.q, 0, none⟩) 1 1) (τ.row [byV z] 1) = some (.slice p' (bs.length + 1) c', τ') ∧ Gr Tryd.prog τ' n0 5 1 p' (bs.length + 1) c' ((bs ++ [z]).map byV) ∧ Only (AtP p) (τ.row [byV z] 1) τ' := by
 obtain ⟨p', c', τ', g1, g2, g3, g4⟩ := grow1 (byV z) appT_bytes hg (Le.refl τ) (elOk_byte z) hr hn (e := rfl) (hc := rfl)
 exact ⟨p', c', τ', g1, by rw [List.map_append]; exact g2, g3⟩
theorem number_c {n : Nat} (hn : n ≤ 1000000000) : ∃ p c σ', CallsA Tryd.prog 65 [iV (n : Int)] σ (.slice p (numB n).length c) σ' ∧ New σ σ' ∧ BytesP σ' p (numB n).length (numB n) ∧ ∀ b, AtP p b → σ.q ≤ b := by
 have e128 : (128 : Nat) ^ 5 = 34359738368 := by decide
 have hlen : (numB n).length ≤ 5 := numB_len 5 n (by omega) (by omega)
 refine RunsQ.newSl (number_ra (P0 := fun i p l c τ => ∃ (m : Nat) (pre : List Int), i = (m : Int) ∧ m ≤ 127 ∧ l = pre.length ∧ pre ++ numB m = numB n ∧ New σ.re τ ∧ Gr Tryd.prog τ σ.q 5 1 p l c (pre.map byV))
  (number_loop1 (Inv := fun k i p l c τ => ∃ pre : List Int, i = (k : Int) ∧ k ≤ 1000000000 ∧ l = pre.length ∧ pre ++ numB k = numB n ∧ New σ.re τ ∧ Gr Tryd.prog τ σ.q 5 1 p l c (pre.map byV)) ?_ n _ none 0 0 σ.re ⟨[], rfl, hn, rfl, rfl, New.refl _, Gr.nil⟩) ?_)
 ·rintro k i p l c τ ⟨pre, rfl, hk, rfl, hp, hN, hg⟩
  have hpl : pre.length ≤ 5 := by
   have := congrArg List.length hp
   simp at this; omega
  by_cases h : k ≤ 127
  ·exact number_s1b ⟨k, pre, rfl, h, rfl, hp, hN, hg⟩ (by omega)
  have e1 : wrapK .u8 (Int.tmod (k : Int) 128) = ((k % 128 : Nat) : Int) := by
   rw [wrap8, Int.tmod_eq_emod_of_nonneg (by omega)]; omega
  have e2 : wrapK .u8 (Int.add ((k % 128 : Nat) : Int) 128) = ((k % 128 + 128 : Nat) : Int) := by
   rw [wrap8, show Int.add ((k % 128 : Nat) : Int) 128 = ((k % 128 : Nat) : Int) + 128 from rfl]; omega
  have e4 : Int.tdiv (k : Int) 128 = ((k / 128 : Nat) : Int) := by
   rw [Int.tdiv_eq_ediv_of_nonneg (by omega)]; omega
  have e3 : IntKind.wrap .i64 (Int.tdiv (k : Int) 128) = Int.tdiv (k : Int) 128 := by
   rw [← wrapK_eq, e4, wrap64 (by omega) (by omega)]
  obtain ⟨p', c', τ', g1, g2, g3⟩ := byte_push ((k % 128 + 128 : Nat) : Int) hg hN.nx (by omega)
  have N2 : New σ.re τ' := (hN.row').of_only g3 (fun b hb => (hg.bd hb).1)
  refine number_s1a e1 e2 g1 e3 ⟨k / 128, by omega, pre ++ [((k % 128 + 128 : Nat) : Int)], e4, by omega, by simp, ?_, N2, g2⟩ (by omega)
  rw [← hp, numB_big (n := k) (by omega)]; simp
 ·rintro i p l c τ ⟨m, pre, rfl, hm, rfl, hp, hN, hg⟩
  have hpl : pre.length ≤ 5 := by
   have := congrArg List.length hp
   simp at this; omega
  have e1 : wrapK .u8 (m : Int) = (m : Int) := by rw [wrap8]; omega
  obtain ⟨p', c', τ', g1, g2, g3⟩ := byte_push (m : Int) hg hN.nx (by omega)
  have N2 : New σ.re τ' := (hN.row').of_only g3 (fun b hb => (hg.bd hb).1)
  have e : numB n = pre ++ [(m : Int)] := by rw [← hp, numB_small hm]
  exact number_t1x0a e1 g1 ⟨N2, p', c', by rw [e]; simp, by rw [e]; simpa using g2.slv, fun b hb => (g2.bd hb).1⟩
end
section
variable {σ : St}
theorem foldl_snoc {α β : Type} {f : β → α → β} {z : β} {xs : List α} {i : Nat} {x : α} (h : xs[i]? = some x) : (xs.take (i + 1)).foldl f z = f ((xs.take i).foldl f z) x := by rw [take_snoc h, List.foldl_append]; rfl
theorem check_c {p : Option Addr} {l c : Nat} {bs : List Int} (h : BytesP σ p l bs) (hl : l ≤ 1073741824) : ∃ b σ', CallsA Pg 66 [.slice p l c] σ (.slice (some ⟨b, 0, none⟩) 2 2) σ' ∧ New σ σ' ∧ Own σ' b [byV (chk bs).1, byV (chk bs).2] 1 ∧ σ.q ≤ b := by
 have hlen := h.len
 obtain ⟨v, σ', h1, h2, b, rfl, h3, h4⟩ := RunsQ.new (P := Pg) (f := 66) (args := [.slice p l c]) (σ := σ) (Q := fun v s => ∃ b, v = .slice (some ⟨b, 0, none⟩) 2 2 ∧ Own s b [byV (chk bs).1, byV (chk bs).2] 1 ∧ σ.q ≤ b)
  (check_ra (P0 := fun x y τ => τ = σ.re ∧ (x, y) = chk bs) (check_loop1 (Inv := fun k x y i τ => ∃ s : Nat, i = s ∧ s + k = l ∧ τ = σ.re ∧ (x, y) = chk (bs.take s)) (by
   rintro k x y i τ ⟨s, rfl, hk, rfl, hxy⟩
   by_cases hs : s < l
   rotate_left
   ·exact check_s1b ⟨rfl, by rwa [List.take_of_length_le (by omega)] at hxy⟩ (by omega)
   obtain ⟨a, rfl, z, hz, ld⟩ := slv_at (SlV.le h (le0 σ)) hs
   have e : chk (bs.take (s + 1)) = ((x + z) % 256, (y + (x + z) % 256) % 256) := by
    unfold chk
    rw [foldl_snoc hz]
    unfold chk at hxy
    rw [← hxy]
   exact check_s1a ld (zD := (x + z) % 256) (zG := (y + (x + z) % 256) % 256) (wrap8 _) (wrap8 _) ⟨k - 1, by omega, s + 1, by omega, by omega, rfl, e.symm⟩ (by omega)) l 0 0 0 σ.re ⟨0, rfl, by omega, rfl, rfl⟩)
   (by
    rintro x y τ ⟨rfl, hxy⟩
    rw [← hxy]
    exact check_t1x0a ⟨New.row _ _ _, _, rfl, own_new _ _ _, Nat.le_refl _⟩))
  (by rintro v s s' ⟨b, rfl, h, h'⟩ hl; exact ⟨b, rfl, h.le hl, h'⟩) (by rintro v s hr ⟨b, rfl, _⟩; exact Bool.noConfusion (show false = true from hr))
 exact ⟨b, σ', h1, h2, h3, h4⟩
theorem fields_c {x : Rec} (hk : 0 ≤ x.k ∧ x.k ≤ 255) : CallsA Pg 64 [recV x] σ (.agg ⟨ints6 x.m x.s x.t x.k x.a x.b⟩) σ := (fields_ra ⟨rfl, ((New.row _ _ _).row'.own (Nat.le_succ _)).lw⟩ (by omega)).pure
theorem field_at (x : Rec) {s : Nat} (hs : s < 6) : ∃ n, (fieldsL x)[s]? = some n ∧ indexA Pg 98 (.agg ⟨ints6 x.m x.s x.t x.k x.a x.b⟩) (iV (s : Int)) = some (iV n) := by
 have key : ∀ (m q t k a b : Int), (indexA Pg 98 (.agg ⟨ints6 m q t k a b⟩) (iV 0) = some (iV m)) ∧ (indexA Pg 98 (.agg ⟨ints6 m q t k a b⟩) (iV 1) = some (iV q)) ∧ (indexA Pg 98 (.agg ⟨ints6 m q t k a b⟩) (iV 2) = some (iV t)) ∧ (indexA Pg 98 (.agg ⟨ints6 m q t k a b⟩) (iV 3) = some (iV k)) ∧ (indexA Pg 98 (.agg ⟨ints6 m q t k a b⟩) (iV 4) = some (iV a)) ∧ (indexA Pg 98 (.agg ⟨ints6 m q t k a b⟩) (iV 5) = some (iV b)) := fun m q t k a b => ⟨by kernel_rfl, by kernel_rfl, by kernel_rfl, by kernel_rfl, by kernel_rfl, by kernel_rfl⟩
 obtain ⟨k0, k1, k2, k3, k4, k5⟩ := key x.m x.s x.t x.k x.a x.b
 rcases s with _ | _ | _ | _ | _ | _ | s
 ·exact ⟨_, rfl, k0⟩
 ·exact ⟨_, rfl, k1⟩
 ·exact ⟨_, rfl, k2⟩
 ·exact ⟨_, rfl, k3⟩
 ·exact ⟨_, rfl, k4⟩
 ·exact ⟨_, rfl, k5⟩
 ·omega
theorem field_bd {x : Rec} (h : rightB x = true) {n : Int} (hn : n ∈ fieldsL x) : 0 ≤ n ∧ n ≤ 10000000 := by
 have := rightB_iff h
 simp [fieldsL] at hn
 omega
theorem bodyTo_len {x : Rec} (h : rightB x = true) (s : Nat) : (((fieldsL x).take s).flatMap numI).length ≤ 24 := by
 have h1 := body_len h
 have e : bodyB x = ((fieldsL x).take s).flatMap numI ++ ((fieldsL x).drop s).flatMap numI := by rw [← List.flatMap_append, List.take_append_drop]; rfl
 rw [e, List.length_append] at h1
 omega
theorem content_c {x : Rec} (h : rightB x = true) : ∃ p c σ', CallsA Pg 47 [recV x] σ (.slice p (contentB x).length c) σ' ∧ New σ σ' ∧ BytesP σ' p (contentB x).length (contentB x) ∧ ∀ b, AtP p b → σ.q ≤ b := by
 have hb := rightB_iff h
 have h24 := body_len h
 refine RunsQ.newSl (content_ra (fields_c (by omega)) (P0 := fun p l c τ => l = (bodyB x).length ∧ New σ.re τ ∧ BytesP τ p (bodyB x).length (bodyB x))
  (content_loop1 (Inv := fun k p l c i τ => ∃ s : Nat, i = s ∧ s + k = 6 ∧ l = (((fieldsL x).take s).flatMap numI).length ∧ New σ.re τ ∧ BytesP τ p l (((fieldsL x).take s).flatMap numI)) ?_ 6 none 0 0 0 _ ⟨0, rfl, rfl, rfl, New.row _ _ _, ⟨⟨rfl, rfl⟩, rfl, by simp⟩⟩) ?_)
 ·rintro k p l c i τ ⟨s, rfl, hk, rfl, hN, hp⟩
  by_cases hs : s < 6
  rotate_left
  ·have : s = 6 := by omega
   subst this
   exact content_s1b ⟨rfl, hN, hp⟩ (by omega)
  obtain ⟨n, hn, hi⟩ := field_at x hs
  have hnb := field_bd h (List.mem_of_getElem? hn)
  have hln := bodyTo_len h s
  obtain ⟨q, d, τ1, k1, n1, b1, _⟩ := number_c (σ := τ) (n := n.toNat) (by omega)
  rw [show ((n.toNat : Nat) : Int) = n by omega] at k1
  have hnl := numI_len (n := n) (by omega)
  obtain ⟨p', c', τ2, k2, n2, b2, _⟩ := join2 (c := c) (d := d) (SlV.le hp n1.le) (show BytesP τ1 q (numI n).length (numI n) from b1) (by omega)
  have e : ((fieldsL x).take (s + 1)).flatMap numI = ((fieldsL x).take s).flatMap numI ++ numI n := by rw [take_snoc hn, List.flatMap_append]; simp
  exact content_s1a hi k1 k2 ⟨k - 1, by omega, s + 1, by omega, by omega, by rw [e], ((hN.trans n1).row').trans n2, by rw [e]; exact b2⟩ (by omega)
 ·rintro p l c τ ⟨rfl, hN, hp⟩
  have n1 : New τ (τ.row [byV (((bodyB x).length : Int) % 256)] 1) := New.row _ _ _
  have hlit : BytesP (τ.row [byV (((bodyB x).length : Int) % 256)] 1) (some ⟨τ.q, 0, none⟩) [((bodyB x).length : Int) % 256].length [((bodyB x).length : Int) % 256] := ⟨⟨rfl, row_new _ _ _⟩, rfl, by intro v hv; simp at hv; subst hv; exact elOk_byte _⟩
  obtain ⟨p1, c1, τ1, k1, m1, b1, _⟩ := join2 (c := 1) (d := c) hlit (SlV.le hp n1.le) (by simp; omega)
  have e1 : [((bodyB x).length : Int) % 256] ++ bodyB x = countedB x := rfl
  rw [e1] at k1 b1
  have hcl : (countedB x).length ≤ 25 := by simp [countedB]; omega
  obtain ⟨b2, τ2, k2, m2, o2, _⟩ := check_c (c := c1) b1 (by omega)
  have hlit2 : BytesP τ2 (some ⟨b2, 0, none⟩) [(chk (countedB x)).1, (chk (countedB x)).2].length [(chk (countedB x)).1, (chk (countedB x)).2] := ⟨⟨rfl, o2.rw⟩, rfl, by intro v hv; simp at hv; rcases hv with rfl | rfl <;> exact elOk_byte _⟩
  obtain ⟨p3, c3, τ3, k3, m3, b3, f3, _⟩ := join2 (c := c1) (d := 2) (SlV.le b1 m2.le) hlit2 (by simp; omega)
  have NN : New σ.re τ2 := (((hN.trans n1).row').trans m1).trans m2
  refine content_t1x0a (wrap8 _) k1 k2 k3 ⟨(NN.row').trans m3, p3, c3, rfl, b3, fun b hb => ?_⟩
  have := f3 b hb
  have e2 : σ.q ≤ τ2.q := NN.nx
  omega
theorem flatB (bs : List Int) : flat (bs.map byV) = bs.map byV := flat_ints bs .u8
theorem cellsB (bs : List Int) : (bs.map byV).all cellB = true := by simp [List.all_eq_true]; intro a _; rfl
abbrev AxB (τ : St) (n0 : Nat) (p : Option Addr) (l c : Nat) (bs : List Int) : Prop := Ax τ n0 1 p l c (bs.map byV)
theorem AxB.bytes {τ : St} {n0 : Nat} {p : Option Addr} {c : Nat} {bs : List Int} (h : AxB τ n0 p bs.length c bs) : BytesP τ p bs.length bs := by
 have h' : Ax τ n0 1 p bs.length c (flat (bs.map byV)) := by rw [flatB]; exact h
 exact h'.slv (by simp) (by intro v hv; obtain ⟨x, _, rfl⟩ := List.mem_map.1 hv; exact elOk_byte x)
theorem AxB.push {τ : St} {n0 : Nat} {p q : Option Addr} {c d : Nat} {bs xs : List Int} (h : AxB τ n0 p bs.length c bs) (hx : BytesP τ q xs.length xs) (hr : bs.length + xs.length ≤ 1073741824) (hn : n0 ≤ τ.q) :
  ∃ p' c' τ', appendA Pg 22 22 (.slice p bs.length c) (.slice q xs.length d) τ = some (.slice p' (bs ++ xs).length c', τ') ∧ AxB τ' n0 p' (bs ++ xs).length c' (bs ++ xs) ∧ Only (AtP p) τ τ' ∧ (∀ b, AtP p' b → AtP p b ∨ τ.q ≤ b) := by
 have hs := hx.1
 rw [flatB] at hs
 obtain ⟨p', c', τ', g1, g2, g3, g4⟩ := Ax.append (k := d) appT_bytes h hs hr (cellsB xs) hn
 rw [← List.map_append] at g2
 rw [← List.length_append] at g1 g2
 exact ⟨p', c', τ', g1, g2, g3, g4⟩
theorem row_bytes (τ : St) (xs : List Int) : BytesP (τ.row (xs.map byV) 1) (some ⟨τ.q, 0, none⟩) xs.length xs := ⟨⟨by rw [flatB]; simp, by rw [flatB]; exact row_new _ _ _⟩, by simp, by intro v hv; obtain ⟨x, _, rfl⟩ := List.mem_map.1 hv; exact elOk_byte x⟩
theorem frameTo_len {x : Rec} (h : rightB x = true) (s : Nat) : (126 :: ((contentB x).take s).flatMap escB).length ≤ 55 := by
 have h1 := frame_len h
 have e : frameB x = (126 :: ((contentB x).take s).flatMap escB) ++ ((contentB x).drop s).flatMap escB := by rw [List.cons_append, ← List.flatMap_append, List.take_append_drop]; rfl
 rw [e, List.length_append] at h1
 omega
theorem ex_small {k : Nat} (h : k ≤ 1073741824) : capExact k = true := (capExact_iff k).2 (by unfold INEX; omega)
theorem frame_c {x : Rec} (h : rightB x = true) : ∃ p c σ', CallsA Pg 29 [recV x] σ (.slice p (frameB x).length c) σ' ∧ New σ σ' ∧ BytesP σ' p (frameB x).length (frameB x) ∧ ∀ b, AtP p b → σ.q ≤ b := by
 have hcl := content_len h
 obtain ⟨p1, c1, σ2, k1, n1, b1, f1⟩ := content_c (σ := (σ.re.row (recL x) 6).row [byV 126] 1) h
 have N1 : New σ.re ((σ.re.row (recL x) 6).row [byV 126] 1) := (New.row _ _ _).row'
 have o1 : Own ((σ.re.row (recL x) 6).row [byV 126] 1) (σ.q + 1) [byV 126] 1 := own_new _ _ _
 have a1 : AxB σ2 σ.q (some ⟨σ.q + 1, 0, none⟩) 1 1 [126] := Ax.lit (o1.le n1.le) rfl (ex_small (by omega)) (Nat.le_succ _)
 refine RunsQ.newSl (frame_ra k1 (P0 := fun p l c τ => l = (frameB x).length ∧ New σ.re τ ∧ AxB τ σ.q p l c (frameB x))
  (frame_loop1 (Inv := fun k p l c i τ => ∃ s : Nat, i = s ∧ s + k = (contentB x).length ∧ l = (126 :: ((contentB x).take s).flatMap escB).length ∧ New σ.re τ ∧ BytesP τ p1 (contentB x).length (contentB x) ∧ (∀ b, AtP p1 b → ¬ AtP p b) ∧ AxB τ σ.q p l c (126 :: ((contentB x).take s).flatMap escB)) ?_ (contentB x).length _ _ _ 0 σ2 ⟨0, rfl, by omega, rfl, N1.trans n1, b1, fun b hb hb2 => ?_, a1⟩) ?_)
 rotate_left
 ·obtain ⟨a, e, rfl⟩ := hb2
  cases e
  have h3 : σ.q + 2 ≤ σ.q + 1 := f1 _ hb
  omega
 ·rintro p l c τ ⟨rfl, hN, ha⟩
  exact frame_t1x0a ⟨hN, p, c, rfl, ha.bytes, fun b hb => (ha.bd b hb).1⟩
 rintro k p l c i τ ⟨s, rfl, hk, rfl, hN, hb1, hne, ha⟩
 by_cases hs : s < (contentB x).length
 rotate_left
 ·rw [List.take_of_length_le (by omega)] at ha ⊢
  exact frame_s1d ⟨rfl, hN, ha⟩ (by omega)
 obtain ⟨a, rfl, z, hz, ld⟩ := slv_at hb1 hs
 have hl55 := frameTo_len h s
 have e1 : ∀ w, escB z = w → 126 :: ((contentB x).take (s + 1)).flatMap escB = (126 :: ((contentB x).take s).flatMap escB) ++ w := by
  rintro w rfl
  rw [take_snoc hz, List.flatMap_append]; simp
 have key : ∀ w : List Int, escB z = w → w.length ≤ 2 → ∃ p' c' τ', appendA Pg 22 22 (.slice p (126 :: ((contentB x).take s).flatMap escB).length c) (.slice (some ⟨τ.q, 0, none⟩) w.length w.length) (τ.row (w.map byV) 1) = some (.slice p' (126 :: ((contentB x).take (s + 1)).flatMap escB).length c', τ') ∧
   ∃ k', k' < k ∧ ∃ s' : Nat, ((s : Int) + 1) = s' ∧ s' + k' = (contentB x).length ∧ (126 :: ((contentB x).take (s + 1)).flatMap escB).length = (126 :: ((contentB x).take s').flatMap escB).length ∧ New σ.re τ' ∧ BytesP τ' (some a) (contentB x).length (contentB x) ∧ (∀ b, AtP (some a) b → ¬ AtP p' b) ∧ AxB τ' σ.q p' (126 :: ((contentB x).take (s + 1)).flatMap escB).length c' (126 :: ((contentB x).take s').flatMap escB) := by
  intro w hw hwl
  have nr : New τ (τ.row (w.map byV) 1) := New.row _ _ _
  obtain ⟨p', c', τ', g1, g2, g3, g4⟩ := AxB.push (d := w.length) (ha.le nr.le) (row_bytes τ w) (by omega) (by have : σ.q ≤ τ.q := hN.nx; have := nr.le.q; omega)
  rw [e1 w hw]
  refine ⟨p', c', τ', g1, k - 1, by omega, s + 1, by omega, by omega, by rw [e1 w hw], (hN.row').of_only g3 (fun b hb => (ha.bd b hb).1), ?_, ?_, by rw [e1 w hw]; exact g2⟩
  ·exact g3.slv' (SlV.le hb1 nr.le) (fun a' e hb => by cases e; exact hne _ ⟨a, rfl, rfl⟩ hb)
  ·intro b hb hb'
   rcases g4 b hb' with g | g
   ·exact hne b hb g
   ·have h1 := slv_lt hb1 a rfl
    obtain ⟨a', e, rfl⟩ := hb
    cases e
    have : (τ.row (w.map byV) 1).q = τ.q + 1 := rfl
    omega
 by_cases z1 : z = 126
 ·subst z1
  obtain ⟨p', c', τ', g1, g2⟩ := key [125, 94] rfl (by simp)
  exact frame_s1a ld (by kernel_rfl) g1 g2 (by omega)
 by_cases z2 : z = 125
 ·subst z2
  obtain ⟨p', c', τ', g1, g2⟩ := key [125, 93] rfl (by simp)
  exact frame_s1b ld (by kernel_rfl) g1 g2 (by omega)
 ·obtain ⟨p', c', τ', g1, g2⟩ := key [z] (by simp [escB, z1, z2]) (by simp)
  exact frame_s1c ld g1 g2 (by omega)
end
section
variable {σ σ4 σF σD σJ σT σEB : St} {QD Q : Value → St → Prop} {i q1_a r : Addr} {l1 c1 l3 c3 BA l2_1 c2_1 lA cA lS cR lCB cCB piece_l piece_c : Nat} {n2 i3_1 i4_1 nA i2_1 nC nE nD : Int} {q3 q1 p2_1 qA qS qCB piece : Option Addr} {Inv : Nat → Int → Int → St → Prop} {Qr Pr : Int → St → Prop} {Qd Pd : St → Prop} {Nx Q0 P0 : (Option Addr) → Nat → Nat → St → Prop}
theorem ask_ra (nx : Q (.tuple ⟨[]⟩) σ) : RunsX Pg 43 [.bool true] σ Q QD :=
 runsX_of [.g, .g] (kc (by kernel_rfl) nx)
theorem ask_rb (nx : QD spX σ) : RunsX Pg 43 [.bool false] σ Q QD :=
 runsX_of [.g, .g, .die, .g, .g, .dx (.iface 88 (.agg ⟨[]⟩)) σ] (kc (by kernel_rfl) (ai (⟨rfl, rfl, rfl⟩ : (rigidB RD (.iface 88 (.agg ⟨[]⟩)) = true ∧ ((.iface 88 (.agg ⟨[]⟩)) : Value) = (.iface 88 (.agg ⟨[]⟩)) ∧ σ = σ)) nx))
theorem next_ra (h1 : loadA Pg σ 22 i = some (.slice (some q1_a) l1 c1)) (h2 : CallsA Pg 43 [.bool true] σ (.tuple ⟨[]⟩) σ) (h3 : loadA Pg σ 5 q1_a = some (.int .u8 n2)) (h4 : sliceA Pg σ 22 (.slice (some q1_a) l1 c1) (some (iV 1)) none none = some (.slice q3 l3 c3)) (h5 : effOp Pg (evL [.pointer (some i), .slice q3 l3 c3]) σ (.store 22 (.tmp 0) (.tmp 1)) = some (undef, σ4)) (nx : Q (.int .u8 n2) σ4) (u1 : 0 < ((l1 : Nat) : Int) := by omega) (u2 : (0 : Int) ≤ 0 ∧ 0 < ((l1 : Nat) : Int) := by omega) : RunsX Pg 41 [.pointer (some i)] σ Q QD :=
 runsX_of [.g, .g, .g, .g, .l (.slice (some q1_a) l1 c1), .g, .b true, .c (.tuple ⟨[]⟩) σ, .g, .g, .g, .l (.slice (some q1_a) l1 c1), .i, .l (.int .u8 n2), .g, .g, .g, .g, .g, .l (.slice (some q1_a) l1 c1), .v (.slice q3 l3 c3), .g, .g, .e undef σ4, .g, .g] (kc (by kernel_rfl) (ai h1 (ai (ltI_tt u1) (ai h2 (ai h1 (ai u2 (ai h3 (ai h1 (ai h4 (ai h5 nx))))))))))
theorem next_rb (h1 : loadA Pg σ 22 i = some (.slice q1 l1 c1)) (h2 : DiesA Pg 43 [.bool false] σ (.iface 88 (.agg ⟨[]⟩)) σ) (nx : QD spX σ) (u1 : ¬ 0 < ((l1 : Nat) : Int) := by omega) : RunsX Pg 41 [.pointer (some i)] σ Q QD :=
 runsX_of [.g, .die, .g, .g, .g, .l (.slice q1 l1 c1), .g, .b false, .dx (.iface 88 (.agg ⟨[]⟩)) σ] (kc (by kernel_rfl) (ai h1 (ai (ltI_ff u1) (ai h2 nx))))
noncomputable def rnum_c1 : Code := (Code.part [1, 1, 1, 0, 0] (bodyOf Pg 42))
def rnum_l1 (r : Addr) (i3_1 i4_1 : Int) : List (Nat × Value) := [(0, .pointer (some r)), (3, iV i3_1), (4, iV i4_1)]
def rnum_a1n (r : Addr) (Q : Int → Int → St → Prop) : Alt := ⟨Int × Int, .normal, fun t => rnum_l1 r t.1 t.2, fun t => [], fun t σ => Q t.1 t.2 σ⟩
def rnum_l1xr (r : Addr) (i2_1 : Int) : List (Nat × Value) := [(2, iV i2_1)]
def rnum_a1xr (r : Addr) (Q : Int → St → Prop) : Alt := ⟨Int, .ret, fun t => rnum_l1xr r t, fun t => [], fun t σ => Q t σ⟩
def rnum_l1xd (r : Addr) : List (Nat × Value) := []
def rnum_a1xd (r : Addr) (Q : St → Prop) : Alt := ⟨Unit, (died spX), fun t => rnum_l1xd r, fun t => [], fun t σ => Q σ⟩
def rnum_B1 (r : Addr) (i3_1 i4_1 : Int) (σ : St) (Nx : Int → Int → St → Prop) (Qr : Int → St → Prop) (Qd : St → Prop) : Prop := BodyX Pg rnum_c1 28 (rnum_l1 r i3_1 i4_1) [] [rnum_a1n r Nx, rnum_a1xr r Qr, rnum_a1xd r Qd] σ
def rnum_L1 (r : Addr) (i3_1 i4_1 : Int) (σ : St) (Qr : Int → St → Prop) (Qd : St → Prop) : Prop := LoopX Pg rnum_c1 28 (rnum_l1 r i3_1 i4_1) [] [rnum_a1xr r Qr, rnum_a1xd r Qd] σ
theorem rnum_loop1 (hb : ∀ k i3_1 i4_1 σ, Inv k i3_1 i4_1 σ → rnum_B1 r i3_1 i4_1 σ (fun i3_1' i4_1' σ' => ∃ k', k' < k ∧ Inv k' i3_1' i4_1' σ') Qr Qd) : ∀ k i3_1 i4_1 σ, Inv k i3_1 i4_1 σ → rnum_L1 r i3_1 i4_1 σ Qr Qd :=
 fun k i3_1 i4_1 σ h => loopX_inv (alts := [rnum_a1xr r Qr, rnum_a1xd r Qd]) (T := Int × Int) (lf := fun t => rnum_l1 r t.1 t.2) (mf := fun t => []) (Inv := fun k t σ => Inv k t.1 t.2 σ) (ai retNe (ai (diedNe spX) trivial)) (fun k t σ h => hb k t.1 t.2 σ h) k (i3_1, i4_1) σ h
theorem rnum_s1a {Nx : Int → Int → St → Prop} (h1 : CallsA Pg 41 [.pointer (some r)] σ (.int .u8 nA) σF) (h2 : CallsA Pg 43 [.bool true] σF (.tuple ⟨[]⟩) σF) (nx : Qr (i3_1 + ((Int.tmod nA 128) * i4_1)) σF) (u1 : -9223372036854775808 ≤ nA ∧ nA ≤ 9223372036854775807 := by omega) (u2 : -9223372036854775808 ≤ (Int.tmod nA 128) * i4_1 ∧ (Int.tmod nA 128) * i4_1 ≤ 9223372036854775807 := by omega) (u3 : -9223372036854775808 ≤ i3_1 + ((Int.tmod nA 128) * i4_1) ∧ i3_1 + ((Int.tmod nA 128) * i4_1) ≤ 9223372036854775807 := by omega) (u4 : (i3_1 + ((Int.tmod nA 128) * i4_1)) < 268435456 := by omega) (u5 : nA < 128 := by omega) : rnum_B1 r i3_1 i4_1 σ Nx Qr Qd :=
 body_ofX [.g, .g, .g, .c (.int .u8 nA) σF, .n nA, .g, .g, .g, .g, .g, .n ((Int.tmod nA 128) * i4_1), .n (i3_1 + ((Int.tmod nA 128) * i4_1)), .g, .g, .b true, .c (.tuple ⟨[]⟩) σF, .g, .b true, .g, .g, .fin (rnum_a1xr r Qr) (i3_1 + ((Int.tmod nA 128) * i4_1))] (fun g => kc (by kernel_rfl) (ai h1 (ai (wrap64 (n := nA) u1.1 u1.2) (ai (wrap64 (n := (Int.tmod nA 128) * i4_1) u2.1 u2.2) (ai (wrap64 (n := i3_1 + ((Int.tmod nA 128) * i4_1)) u3.1 u3.2) (ai (ltI_tt u4) (ai h2 (ai (ltI_tt u5) (fin (alts := [rnum_a1n r Nx, rnum_a1xr r Qr, rnum_a1xd r Qd]) (rnum_a1xr r Qr) (i3_1 + ((Int.tmod nA 128) * i4_1)) nx (inS in0))))))))))
theorem rnum_s1b {Nx : Int → Int → St → Prop} (h1 : CallsA Pg 41 [.pointer (some r)] σ (.int .u8 nA) σF) (h2 : CallsA Pg 43 [.bool true] σF (.tuple ⟨[]⟩) σF) (nx : Nx (i3_1 + ((Int.tmod nA 128) * i4_1)) (i4_1 * 128) σF) (u1 : -9223372036854775808 ≤ nA ∧ nA ≤ 9223372036854775807 := by omega) (u2 : -9223372036854775808 ≤ (Int.tmod nA 128) * i4_1 ∧ (Int.tmod nA 128) * i4_1 ≤ 9223372036854775807 := by omega) (u3 : -9223372036854775808 ≤ i3_1 + ((Int.tmod nA 128) * i4_1) ∧ i3_1 + ((Int.tmod nA 128) * i4_1) ≤ 9223372036854775807 := by omega) (u4 : (i3_1 + ((Int.tmod nA 128) * i4_1)) < 268435456 := by omega) (u5 : ¬ nA < 128 := by omega) (u6 : i4_1 < 268435456 := by omega) (u7 : -9223372036854775808 ≤ i4_1 * 128 ∧ i4_1 * 128 ≤ 9223372036854775807 := by omega) : rnum_B1 r i3_1 i4_1 σ Nx Qr Qd :=
 body_ofX [.g, .g, .g, .c (.int .u8 nA) σF, .n nA, .g, .g, .g, .g, .g, .n ((Int.tmod nA 128) * i4_1), .n (i3_1 + ((Int.tmod nA 128) * i4_1)), .g, .g, .b true, .c (.tuple ⟨[]⟩) σF, .g, .b false, .g, .b true, .c (.tuple ⟨[]⟩) σF, .g, .n (i4_1 * 128), .g, .fin (rnum_a1n r Nx) (i3_1 + ((Int.tmod nA 128) * i4_1), i4_1 * 128)] (fun g => kc (by kernel_rfl) (ai h1 (ai (wrap64 (n := nA) u1.1 u1.2) (ai (wrap64 (n := (Int.tmod nA 128) * i4_1) u2.1 u2.2) (ai (wrap64 (n := i3_1 + ((Int.tmod nA 128) * i4_1)) u3.1 u3.2) (ai (ltI_tt u4) (ai h2 (ai (ltI_ff u5) (ai (ltI_tt u6) (ai h2 (ai (wrap64 (n := i4_1 * 128) u7.1 u7.2) (fin (alts := [rnum_a1n r Nx, rnum_a1xr r Qr, rnum_a1xd r Qd]) (rnum_a1n r Nx) (i3_1 + ((Int.tmod nA 128) * i4_1), i4_1 * 128) nx in0))))))))))))
theorem rnum_s1c {Nx : Int → Int → St → Prop} (h1 : CallsA Pg 41 [.pointer (some r)] σ (.int .u8 nA) σF) (h2 : CallsA Pg 43 [.bool true] σF (.tuple ⟨[]⟩) σF) (h3 : DiesA Pg 43 [.bool false] σF (.iface 88 (.agg ⟨[]⟩)) σF) (nx : Qd σF) (u1 : -9223372036854775808 ≤ nA ∧ nA ≤ 9223372036854775807 := by omega) (u2 : -9223372036854775808 ≤ (Int.tmod nA 128) * i4_1 ∧ (Int.tmod nA 128) * i4_1 ≤ 9223372036854775807 := by omega) (u3 : -9223372036854775808 ≤ i3_1 + ((Int.tmod nA 128) * i4_1) ∧ i3_1 + ((Int.tmod nA 128) * i4_1) ≤ 9223372036854775807 := by omega) (u4 : (i3_1 + ((Int.tmod nA 128) * i4_1)) < 268435456 := by omega) (u5 : ¬ nA < 128 := by omega) (u6 : ¬ i4_1 < 268435456 := by omega) : rnum_B1 r i3_1 i4_1 σ Nx Qr Qd :=
 body_ofX [.g, .g, .g, .c (.int .u8 nA) σF, .n nA, .g, .g, .g, .g, .g, .n ((Int.tmod nA 128) * i4_1), .n (i3_1 + ((Int.tmod nA 128) * i4_1)), .g, .g, .b true, .c (.tuple ⟨[]⟩) σF, .g, .b false, .die, .g, .b false, .dx (.iface 88 (.agg ⟨[]⟩)) σF, .fin (rnum_a1xd r Qd) ()] (fun g => kc (by kernel_rfl) (ai h1 (ai (wrap64 (n := nA) u1.1 u1.2) (ai (wrap64 (n := (Int.tmod nA 128) * i4_1) u2.1 u2.2) (ai (wrap64 (n := i3_1 + ((Int.tmod nA 128) * i4_1)) u3.1 u3.2) (ai (ltI_tt u4) (ai h2 (ai (ltI_ff u5) (ai (ltI_ff u6) (ai h3 (fin (alts := [rnum_a1n r Nx, rnum_a1xr r Qr, rnum_a1xd r Qd]) (rnum_a1xd r Qd) () nx (inS (inS in0)))))))))))))
theorem rnum_s1d {Nx : Int → Int → St → Prop} (h1 : CallsA Pg 41 [.pointer (some r)] σ (.int .u8 nA) σF) (h2 : DiesA Pg 43 [.bool false] σF (.iface 88 (.agg ⟨[]⟩)) σF) (nx : Qd σF) (u1 : -9223372036854775808 ≤ nA ∧ nA ≤ 9223372036854775807 := by omega) (u2 : -9223372036854775808 ≤ (Int.tmod nA 128) * i4_1 ∧ (Int.tmod nA 128) * i4_1 ≤ 9223372036854775807 := by omega) (u3 : -9223372036854775808 ≤ i3_1 + ((Int.tmod nA 128) * i4_1) ∧ i3_1 + ((Int.tmod nA 128) * i4_1) ≤ 9223372036854775807 := by omega) (u4 : ¬ (i3_1 + ((Int.tmod nA 128) * i4_1)) < 268435456 := by omega) : rnum_B1 r i3_1 i4_1 σ Nx Qr Qd :=
 body_ofX [.g, .g, .g, .c (.int .u8 nA) σF, .n nA, .g, .g, .g, .g, .g, .n ((Int.tmod nA 128) * i4_1), .n (i3_1 + ((Int.tmod nA 128) * i4_1)), .g, .die, .g, .b false, .dx (.iface 88 (.agg ⟨[]⟩)) σF, .fin (rnum_a1xd r Qd) ()] (fun g => kc (by kernel_rfl) (ai h1 (ai (wrap64 (n := nA) u1.1 u1.2) (ai (wrap64 (n := (Int.tmod nA 128) * i4_1) u2.1 u2.2) (ai (wrap64 (n := i3_1 + ((Int.tmod nA 128) * i4_1)) u3.1 u3.2) (ai (ltI_ff u4) (ai h2 (fin (alts := [rnum_a1n r Nx, rnum_a1xr r Qr, rnum_a1xd r Qd]) (rnum_a1xd r Qd) () nx (inS (inS in0))))))))))
theorem rnum_s1e {Nx : Int → Int → St → Prop} (h1 : DiesA Pg 41 [.pointer (some r)] σ (.iface 88 (.agg ⟨[]⟩)) σ) (nx : Qd σ) : rnum_B1 r i3_1 i4_1 σ Nx Qr Qd :=
 body_ofX [.die, .g, .g, .g, .dx (.iface 88 (.agg ⟨[]⟩)) σ, .fin (rnum_a1xd r Qd) ()] (fun g => kc (by kernel_rfl) (ai h1 (fin (alts := [rnum_a1n r Nx, rnum_a1xr r Qr, rnum_a1xd r Qd]) (rnum_a1xd r Qd) () nx (inS (inS in0)))))
def rnum_K1_r (r : Addr) (i2_1 : Int) (σ : St) (Q : Value → St → Prop) (QD : Value → St → Prop) : Prop := ∀ g : Nat → Value, ∃ an, Hid (kAtX Pg (bodyOf Pg 42) [1, 1, 1, 0] (kFnX Pg 42 Q QD) .ret ⟨Fm 28 (ov (rnum_l1xr r i2_1) g), []⟩ σ an)
def rnum_K1_d (r : Addr) (σ : St) (Q : Value → St → Prop) (QD : Value → St → Prop) : Prop := ∀ g : Nat → Value, ∃ an, Hid (kAtX Pg (bodyOf Pg 42) [1, 1, 1, 0] (kFnX Pg 42 Q QD) (died spX) ⟨Fm 28 (ov (rnum_l1xd r) g), []⟩ σ an)
theorem rnum_ra (hL : rnum_L1 r 0 1 σ Pr Pd) (kr : ∀ i2_1' σ', Pr i2_1' σ' → rnum_K1_r r i2_1' σ' Q QD) (kd : ∀ σ', Pd σ' → rnum_K1_d r σ' Q QD) : RunsX Pg 42 [.pointer (some r)] σ Q QD :=
 runsX_of [.g, .g, .g, .lf 28 (rnum_l1 r 0 1) [rnum_a1xr r Pr, rnum_a1xd r Pd]] (kc (by kernel_rfl) (ai (ai tt (ai (arf (rnum_l1 r 0 1)) hL)) (ai (fun (t : Int) (g' : Nat → Value) (σ' : St) (q : Pr t σ') => kr t σ' q g') (ai (fun (t : Unit) (g' : Nat → Value) (σ' : St) (q : Pd σ') => kd σ' q g') trivial))))
theorem rnum_t1xra (nx : Q (iV i2_1) σ) : rnum_K1_r r i2_1 σ Q QD :=
 fun g => ⟨[], kc (by kernel_rfl) nx⟩
theorem rnum_t1xda (nx : QD spX σ) : rnum_K1_d r σ Q QD :=
 fun g => ⟨[], kc (by kernel_rfl) nx⟩
noncomputable def plain_c1 : Code := (Code.part [1, 1, 0, 0, 0] (bodyOf Pg 40))
def plain_l1 (BA : Nat) (p2_1 : Option Addr) (l2_1 c2_1 : Nat) : List (Nat × Value) := [(2, .slice p2_1 l2_1 c2_1), (3, .pointer (some ⟨BA, 0, none⟩))]
def plain_a1n (BA : Nat) (Q : (Option Addr) → Nat → Nat → St → Prop) : Alt := ⟨(Option Addr) × Nat × Nat, .normal, fun t => plain_l1 BA t.1 t.2.1 t.2.2, fun t => [], fun t σ => Q t.1 t.2.1 t.2.2 σ⟩
def plain_l1xd (BA : Nat) : List (Nat × Value) := []
def plain_a1xd (BA : Nat) (Q : St → Prop) : Alt := ⟨Unit, (died spX), fun t => plain_l1xd BA, fun t => [], fun t σ => Q σ⟩
def plain_l1x0 (BA : Nat) (p2_1 : Option Addr) (l2_1 c2_1 : Nat) : List (Nat × Value) := [(2, .slice p2_1 l2_1 c2_1)]
def plain_a1x0 (BA : Nat) (Q : (Option Addr) → Nat → Nat → St → Prop) : Alt := ⟨(Option Addr) × Nat × Nat, (.exit 0), fun t => plain_l1x0 BA t.1 t.2.1 t.2.2, fun t => [], fun t σ => Q t.1 t.2.1 t.2.2 σ⟩
def plain_B1 (BA : Nat) (p2_1 : Option Addr) (l2_1 c2_1 : Nat) (σ : St) (Nx : (Option Addr) → Nat → Nat → St → Prop) (Qd : St → Prop) (Q0 : (Option Addr) → Nat → Nat → St → Prop) : Prop := BodyX Pg plain_c1 33 (plain_l1 BA p2_1 l2_1 c2_1) [] [plain_a1n BA Nx, plain_a1xd BA Qd, plain_a1x0 BA Q0] σ
def plain_L1 (BA : Nat) (p2_1 : Option Addr) (l2_1 c2_1 : Nat) (σ : St) (Qd : St → Prop) (Q0 : (Option Addr) → Nat → Nat → St → Prop) : Prop := LoopX Pg plain_c1 33 (plain_l1 BA p2_1 l2_1 c2_1) [] [plain_a1xd BA Qd, plain_a1x0 BA Q0] σ
theorem plain_loop1 {Inv : Nat → (Option Addr) → Nat → Nat → St → Prop} (hb : ∀ k p2_1 l2_1 c2_1 σ, Inv k p2_1 l2_1 c2_1 σ → plain_B1 BA p2_1 l2_1 c2_1 σ (fun p2_1' l2_1' c2_1' σ' => ∃ k', k' < k ∧ Inv k' p2_1' l2_1' c2_1' σ') Qd Q0) : ∀ k p2_1 l2_1 c2_1 σ, Inv k p2_1 l2_1 c2_1 σ → plain_L1 BA p2_1 l2_1 c2_1 σ Qd Q0 :=
 fun k p2_1 l2_1 c2_1 σ h => loopX_inv (alts := [plain_a1xd BA Qd, plain_a1x0 BA Q0]) (T := (Option Addr) × Nat × Nat) (lf := fun t => plain_l1 BA t.1 t.2.1 t.2.2) (mf := fun t => []) (Inv := fun k t σ => Inv k t.1 t.2.1 t.2.2 σ) (ai (diedNe spX) (ai (exNe 0) trivial)) (fun k t σ h => hb k t.1 t.2.1 t.2.2 σ h) k (p2_1, l2_1, c2_1) σ h
theorem plain_s1a (h1 : loadA Pg σ 22 ⟨BA, 0, none⟩ = some (.slice qA lA cA)) (h2 : CallsA Pg 41 [.pointer (some ⟨BA, 0, none⟩)] σ (.int .u8 nC) σD) (h3 : CallsA Pg 41 [.pointer (some ⟨BA, 0, none⟩)] σD (.int .u8 nE) σJ) (h4 : binA Pg .xor 5 (.tmp 19) (.const (.int .u8 32)) (.int .u8 nE) (.int .u8 32) = some (.int .u8 nD)) (h5 : CallsA Pg 43 [.bool true] σJ (.tuple ⟨[]⟩) σJ) (h6 : appendA Pg 22 22 (.slice p2_1 l2_1 c2_1) (.slice (some ⟨σJ.q, 0, none⟩) 1 1) (σJ.row [.int .u8 nD] 1) = some (.slice qS lS cR, σT)) (nx : Nx qS lS cR σT) (u1 : 0 < ((lA : Nat) : Int) := by omega) (u2 : nC = 125 := by omega) (u3 : nD = 126 := by omega) : plain_B1 BA p2_1 l2_1 c2_1 σ Nx Qd Q0 :=
 body_ofX [.g, .g, .g, .l (.slice qA lA cA), .g, .b true, .g, .c (.int .u8 nC) σD, .g, .g, .b true, .g, .c (.int .u8 nE) σJ, .v (.int .u8 nD), .g, .g, .b true, .g, .g, .c (.tuple ⟨[]⟩) σJ, .g, .g, .g, .e (.slice qS lS cR) σT, .g, .fin (plain_a1n BA Nx) (qS, lS, cR)] (fun g => kc (by kernel_rfl) (ai h1 (ai (ltI_tt u1) (ai h2 (ai (eqI_tt u2) (ai h3 (ai h4 (ai (eqI_tt u3) (ai h5 (ai h6 (fin (alts := [plain_a1n BA Nx, plain_a1xd BA Qd, plain_a1x0 BA Q0]) (plain_a1n BA Nx) (qS, lS, cR) nx in0)))))))))))
theorem plain_s1b (h1 : loadA Pg σ 22 ⟨BA, 0, none⟩ = some (.slice qA lA cA)) (h2 : CallsA Pg 41 [.pointer (some ⟨BA, 0, none⟩)] σ (.int .u8 nC) σD) (h3 : CallsA Pg 41 [.pointer (some ⟨BA, 0, none⟩)] σD (.int .u8 nE) σJ) (h4 : binA Pg .xor 5 (.tmp 19) (.const (.int .u8 32)) (.int .u8 nE) (.int .u8 32) = some (.int .u8 nD)) (h5 : CallsA Pg 43 [.bool true] σJ (.tuple ⟨[]⟩) σJ) (h6 : appendA Pg 22 22 (.slice p2_1 l2_1 c2_1) (.slice (some ⟨σJ.q, 0, none⟩) 1 1) (σJ.row [.int .u8 nD] 1) = some (.slice qS lS cR, σT)) (nx : Nx qS lS cR σT) (u1 : 0 < ((lA : Nat) : Int) := by omega) (u2 : nC = 125 := by omega) (u3 : ¬ nD = 126 := by omega) (u4 : nD = 125 := by omega) : plain_B1 BA p2_1 l2_1 c2_1 σ Nx Qd Q0 :=
 body_ofX [.g, .g, .g, .l (.slice qA lA cA), .g, .b true, .g, .c (.int .u8 nC) σD, .g, .g, .b true, .g, .c (.int .u8 nE) σJ, .v (.int .u8 nD), .g, .g, .b false, .g, .g, .b true, .g, .c (.tuple ⟨[]⟩) σJ, .g, .g, .g, .e (.slice qS lS cR) σT, .g, .fin (plain_a1n BA Nx) (qS, lS, cR)] (fun g => kc (by kernel_rfl) (ai h1 (ai (ltI_tt u1) (ai h2 (ai (eqI_tt u2) (ai h3 (ai h4 (ai (eqI_ff u3) (ai (eqI_tt u4) (ai h5 (ai h6 (fin (alts := [plain_a1n BA Nx, plain_a1xd BA Qd, plain_a1x0 BA Q0]) (plain_a1n BA Nx) (qS, lS, cR) nx in0))))))))))))
theorem plain_s1c (h1 : loadA Pg σ 22 ⟨BA, 0, none⟩ = some (.slice qA lA cA)) (h2 : CallsA Pg 41 [.pointer (some ⟨BA, 0, none⟩)] σ (.int .u8 nC) σD) (h3 : CallsA Pg 41 [.pointer (some ⟨BA, 0, none⟩)] σD (.int .u8 nE) σJ) (h4 : binA Pg .xor 5 (.tmp 19) (.const (.int .u8 32)) (.int .u8 nE) (.int .u8 32) = some (.int .u8 nD)) (h5 : DiesA Pg 43 [.bool false] σJ (.iface 88 (.agg ⟨[]⟩)) σJ) (nx : Qd σJ) (u1 : 0 < ((lA : Nat) : Int) := by omega) (u2 : nC = 125 := by omega) (u3 : ¬ nD = 126 := by omega) (u4 : ¬ nD = 125 := by omega) : plain_B1 BA p2_1 l2_1 c2_1 σ Nx Qd Q0 :=
 body_ofX [.g, .g, .g, .l (.slice qA lA cA), .g, .b true, .g, .c (.int .u8 nC) σD, .g, .g, .b true, .g, .c (.int .u8 nE) σJ, .v (.int .u8 nD), .g, .die, .g, .b false, .g, .g, .b false, .g, .dx (.iface 88 (.agg ⟨[]⟩)) σJ, .fin (plain_a1xd BA Qd) ()] (fun g => kc (by kernel_rfl) (ai h1 (ai (ltI_tt u1) (ai h2 (ai (eqI_tt u2) (ai h3 (ai h4 (ai (eqI_ff u3) (ai (eqI_ff u4) (ai h5 (fin (alts := [plain_a1n BA Nx, plain_a1xd BA Qd, plain_a1x0 BA Q0]) (plain_a1xd BA Qd) () nx (inS in0))))))))))))
theorem plain_s1d (h1 : loadA Pg σ 22 ⟨BA, 0, none⟩ = some (.slice qA lA cA)) (h2 : CallsA Pg 41 [.pointer (some ⟨BA, 0, none⟩)] σ (.int .u8 nC) σD) (h3 : DiesA Pg 41 [.pointer (some ⟨BA, 0, none⟩)] σD (.iface 88 (.agg ⟨[]⟩)) σD) (nx : Qd σD) (u1 : 0 < ((lA : Nat) : Int) := by omega) (u2 : nC = 125 := by omega) : plain_B1 BA p2_1 l2_1 c2_1 σ Nx Qd Q0 :=
 body_ofX [.g, .g, .g, .l (.slice qA lA cA), .g, .b true, .g, .c (.int .u8 nC) σD, .g, .g, .b true, .die, .g, .dx (.iface 88 (.agg ⟨[]⟩)) σD, .fin (plain_a1xd BA Qd) ()] (fun g => kc (by kernel_rfl) (ai h1 (ai (ltI_tt u1) (ai h2 (ai (eqI_tt u2) (ai h3 (fin (alts := [plain_a1n BA Nx, plain_a1xd BA Qd, plain_a1x0 BA Q0]) (plain_a1xd BA Qd) () nx (inS in0))))))))
theorem plain_s1e (h1 : loadA Pg σ 22 ⟨BA, 0, none⟩ = some (.slice qA lA cA)) (h2 : CallsA Pg 41 [.pointer (some ⟨BA, 0, none⟩)] σ (.int .u8 nC) σD) (h3 : appendA Pg 22 22 (.slice p2_1 l2_1 c2_1) (.slice (some ⟨σD.q, 0, none⟩) 1 1) (σD.row [.int .u8 nC] 1) = some (.slice qCB lCB cCB, σEB)) (nx : Nx qCB lCB cCB σEB) (u1 : 0 < ((lA : Nat) : Int) := by omega) (u2 : ¬ nC = 125 := by omega) : plain_B1 BA p2_1 l2_1 c2_1 σ Nx Qd Q0 :=
 body_ofX [.g, .g, .g, .l (.slice qA lA cA), .g, .b true, .g, .c (.int .u8 nC) σD, .g, .g, .b false, .g, .g, .g, .e (.slice qCB lCB cCB) σEB, .g, .fin (plain_a1n BA Nx) (qCB, lCB, cCB)] (fun g => kc (by kernel_rfl) (ai h1 (ai (ltI_tt u1) (ai h2 (ai (eqI_ff u2) (ai h3 (fin (alts := [plain_a1n BA Nx, plain_a1xd BA Qd, plain_a1x0 BA Q0]) (plain_a1n BA Nx) (qCB, lCB, cCB) nx in0)))))))
theorem plain_s1g (h1 : loadA Pg σ 22 ⟨BA, 0, none⟩ = some (.slice qA lA cA)) (nx : Q0 p2_1 l2_1 c2_1 σ) (u1 : ¬ 0 < ((lA : Nat) : Int) := by omega) : plain_B1 BA p2_1 l2_1 c2_1 σ Nx Qd Q0 :=
 body_ofX [.g, .g, .g, .l (.slice qA lA cA), .g, .b false, .fin (plain_a1x0 BA Q0) (p2_1, l2_1, c2_1)] (fun g => kc (by kernel_rfl) (ai h1 (ai (ltI_ff u1) (fin (alts := [plain_a1n BA Nx, plain_a1xd BA Qd, plain_a1x0 BA Q0]) (plain_a1x0 BA Q0) (p2_1, l2_1, c2_1) nx (inS (inS in0))))))
def plain_K1_d (BA : Nat) (σ : St) (Q : Value → St → Prop) (QD : Value → St → Prop) : Prop := ∀ g : Nat → Value, ∃ an, Hid (kAtX Pg (bodyOf Pg 40) [1, 1, 0, 0] (kFnX Pg 40 Q QD) (died spX) ⟨Fm 33 (ov (plain_l1xd BA) g), []⟩ σ an)
def plain_K1_0 (BA : Nat) (p2_1 : Option Addr) (l2_1 c2_1 : Nat) (σ : St) (Q : Value → St → Prop) (QD : Value → St → Prop) : Prop := ∀ g : Nat → Value, ∃ an, Hid (kAtX Pg (bodyOf Pg 40) [1, 1, 0, 0] (kFnX Pg 40 Q QD) (.exit 0) ⟨Fm 33 (ov (plain_l1x0 BA p2_1 l2_1 c2_1) g), []⟩ σ an)
theorem plain_ra (hL : plain_L1 σ.q none 0 0 (σ.row [.slice piece piece_l piece_c] 1) Pd P0) (kd : ∀ σ', Pd σ' → plain_K1_d σ.q σ' Q QD) (k0 : ∀ p2_1' l2_1' c2_1' σ', P0 p2_1' l2_1' c2_1' σ' → plain_K1_0 σ.q p2_1' l2_1' c2_1' σ' Q QD) : RunsX Pg 40 [.slice piece piece_l piece_c] σ Q QD :=
 runsX_of [.g, .g, .g, .g, .g, .lf 33 (plain_l1 σ.q none 0 0) [plain_a1xd σ.q Pd, plain_a1x0 σ.q P0]] (kc (by kernel_rfl) (ai (ai tt (ai (arf (plain_l1 σ.q none 0 0)) hL)) (ai (fun (t : Unit) (g' : Nat → Value) (σ' : St) (q : Pd σ') => kd σ' q g') (ai (fun (t : (Option Addr) × Nat × Nat) (g' : Nat → Value) (σ' : St) (q : P0 t.1 t.2.1 t.2.2 σ') => k0 t.1 t.2.1 t.2.2 σ' q g') trivial))))
theorem plain_t1xda (nx : QD spX σ) : plain_K1_d BA σ Q QD :=
 fun g => ⟨[], kc (by kernel_rfl) nx⟩
theorem plain_t1x0a (nx : Q (.slice p2_1 l2_1 c2_1) σ) : plain_K1_0 BA p2_1 l2_1 c2_1 σ Q QD :=
 fun g => ⟨[.g, .g], kc (by kernel_rfl) nx⟩
end
section
variable {P : Program} {σ τ : St} {f : FuncId} {args : List Value} {x : Value} {S : Nat → Prop}
theorem RunsX_ret {Q : Value → St → Prop} (h : RunsX P f args σ Q fun _ _ => False) : RunsQ P f args σ Q := by
 rcases h with ⟨v, s, h1, h2⟩ | ⟨_, _, _, h⟩
 ·exact ⟨v, s, h1, h2⟩
 ·exact h.elim
theorem RunsX_die {QD : Value → St → Prop} (h : RunsX P f args σ (fun _ _ => False) QD) : ∃ x s, DiesR P f args σ x s ∧ QD x s := by
 rcases h with ⟨_, _, _, h⟩ | h
 ·exact h.elim
 ·exact h
theorem dies_pure (h : DiesR P f args σ.re x τ) (hl : σ.q ≤ τ.low) (hr : rigidB RD x = true) : DiesA P f args σ x σ := by
 obtain ⟨N0, hN⟩ := h
 refine ⟨N0, fun N hl' => ?_⟩
 unfold panCall
 rw [show (⟨σ.heap, σ.q, σ.q⟩ : St) = σ.re from rfl, hN N hl']
 simp only [hr, cond_true]
 unfold backA
 rw [(ble_iff _ _).2 hl, hr]; rfl
theorem dies_only (h : DiesR P f args σ.re x τ) (ho : Only S σ.re τ) (hr : rigidB RD x = true) : ∃ σ', DiesA P f args σ x σ' ∧ Only S σ σ' := by
 by_cases hl : σ.q ≤ τ.low
 ·exact ⟨σ, dies_pure h hl hr, Only.refl _ _⟩
 obtain ⟨N0, hN⟩ := h
 refine ⟨⟨τ.heap, τ.q, min σ.low τ.low⟩, ⟨N0, fun N hl' => ?_⟩, ho.lower (m := 0)⟩
 unfold panCall
 rw [show (⟨σ.heap, σ.q, σ.q⟩ : St) = σ.re from rfl, hN N hl']
 simp only [hr, cond_true]
 unfold backA
 have e1 : Nat.ble σ.q τ.low = false := by rw [Bool.eq_false_iff]; intro e; exact hl ((ble_iff _ _).1 e)
 have e2 : Nat.ble σ.q τ.q = true := (ble_iff _ _).2 ho.q
 rw [e1, Bool.false_and, cond_false, e2, cond_true, fN_eq, cond_ble]
end
theorem spX_rig : rigidB RD spX = true := rfl
structure BS (σ : St) (p : Option Addr) (len c : Nat) (bs : List Int) : Prop where
 bt : BytesP σ p len bs
 cut : CutS σ p len c
section
variable {σ τ : St} {p : Option Addr} {len c : Nat} {bs : List Int}
theorem BS.leng (h : BS σ p len c bs) : bs.length = len := BytesP.len h.bt
theorem BS.lt (h : BS σ p len c bs) : ∀ k, AtP p k → k < σ.q := by
 rintro k ⟨a, rfl, rfl⟩
 have hr : Row σ a (flat (bs.map byV)) := h.bt.1.2
 exact hr.lt
theorem BS.le (h : BS σ p len c bs) (k : Le σ τ) : BS τ p len c bs := ⟨SlV.le h.bt k, cutS_get h.cut fun b hb => k.get b (h.lt b hb)⟩
theorem BS.only {S : Nat → Prop} (h : BS σ p len c bs) (k : Only S σ τ) (hs : ∀ b, AtP p b → ¬ S b) : BS τ p len c bs :=
 ⟨k.slv' h.bt (fun a e hb => hs _ ⟨a, e, rfl⟩ hb), cutS_get h.cut fun b hb => k.get b (h.lt b hb) (hs b hb)⟩
theorem BS.row {a : Addr} (h : BS σ (some a) len c bs) : Row σ a (bs.map byV) := by
 have hr : Row σ a (flat (bs.map byV)) := h.bt.1.2
 rwa [flatB] at hr
theorem bs_of {a : Addr} (hr : Row σ a (bs.map byV)) (hl : bs.length = len) (hc : eszOk σ a 1 = true) (hk : len ≤ capLow c) : BS σ (some a) len c bs :=
 ⟨⟨⟨by rw [flatB]; simp [hl], by show Row σ a _; rw [flatB]; exact hr⟩, by simp [hl], by intro v hv; obtain ⟨x, _, rfl⟩ := List.mem_map.1 hv; exact elOk_byte x⟩, hc, hk⟩
theorem und22 : Tryd.prog.underlying 22 = some (.slice 5) := by kernel_rfl
theorem aadd0 (a : Addr) : aadd a 0 = a := rfl
theorem BS.at {a : Addr} {i : Nat} {x : Int} (h : BS σ (some a) len c bs) (hx : bs[i]? = some x) : loadA Tryd.prog σ 5 (aadd a i) = some (.int .u8 x) := h.row.load1 agg5 (by simp [hx])
theorem BS.drop {k : Nat} (h : BS σ p len c bs) (hk : k ≤ len) (hp : 0 < len) : ∃ q c', sliceA Tryd.prog σ 22 (.slice p len c) (some (iV (k : Int))) none none = some (.slice q (len - k) c') ∧ BS σ q (len - k) c' (bs.drop k) ∧ ∀ b, AtP q b → AtP p b := by
 have hl := h.leng
 cases p with
 | none => have : len = 0 := h.cut; omega
 | some a =>
  obtain ⟨hc1, hc2⟩ := h.cut
  have hr := h.row
  have hb1 : boundA (none : Option Value) len (capLow c) = some len := rfl
  have hb2 : boundA (some (iV (k : Int))) 0 len = some k := bound_some rfl hk
  have r1 : Row σ (aadd a k) ((bs.drop k).map byV) := by
   have := hr.part (k := k) (m := len - k) (by simp [hl]; omega)
   rw [← List.map_drop, ← List.map_take, List.take_of_length_le (by simp [hl])] at this
   exact this
  have hat : ∀ b, AtP (some (aadd a k)) b → AtP (some a) b := by rintro b ⟨_, e, rfl⟩; cases e; exact ⟨a, rfl, rfl⟩
  have hln : (bs.drop k).length = len - k := by simp [hl]
  cases hx : capExact c with
  | true =>
   have e1 : Nat.ble k (capLow c) = true := (ble_iff _ _).2 (by omega)
   have hcl := capLow_ex hx
   have hlt := (capExact_iff c).1 hx
   have hx2 : capExact (capLow c - k) = true := (capExact_iff _).2 (by omega)
   have hs : ∀ q, (bif Nat.beq (capLow c) k then a else aadd a (k * 1)) = q → sliceA Tryd.prog σ 22 (.slice (some a) len c) (some (iV (k : Int))) none none = some (.slice (some q) (len - k) (capLow c - k)) := by
    rintro q rfl
    simp only [sliceA, und22, size5, hc1, cond_true, sliceNums, hb1, hb2, hx, Bool.or_true, e1]
   by_cases hm : capLow c = k
   ·refine ⟨some a, _, hs a (by rw [hm, Nat.beq_refl]; rfl), bs_of ?_ hln hc1 ?_, fun b hb => hb⟩
    ·have hnil : bs.drop k = [] := List.drop_eq_nil_of_le (by omega)
     rw [hnil]
     have := hr.part (k := 0) (m := 0) (by simp)
     simpa [aadd0] using this
    ·rw [capLow_ex hx2]; omega
   ·have e2 : Nat.beq (capLow c) k = false := by rw [Bool.eq_false_iff]; intro e; exact hm (Nat.eq_of_beq_eq_true e)
    refine ⟨some (aadd a k), _, hs _ (by rw [e2, cond_false, Nat.mul_one]), bs_of r1 hln hc1 ?_, hat⟩
    rw [capLow_ex hx2]; omega
  | false =>
   by_cases hm : capLow c ≤ k
   ·have e1 : Nat.ble (capLow c) k = true := (ble_iff _ _).2 hm
    have e2 : (Nat.beq (capLow c) k && Nat.beq len k) = true := by rw [show capLow c = k by omega, show len = k by omega]; simp
    refine ⟨some (aadd a k), INEX, ?_, bs_of r1 hln hc1 ?_, hat⟩
    ·simp only [sliceA, und22, size5, hc1, cond_true, sliceNums, hb1, hb2, hx, Option.isSome_none, Bool.or_false, cond_false, e1, e2, Nat.mul_one]
     rw [show len - k = 0 by omega]
    ·have := capLow_inex 0; rw [Nat.zero_add] at this; omega
   ·have e1 : Nat.ble (capLow c) k = false := by rw [Bool.eq_false_iff]; intro e; exact hm ((ble_iff _ _).1 e)
    refine ⟨some (aadd a k), capLow c - k + INEX, ?_, bs_of r1 hln hc1 (by rw [capLow_inex]; omega), hat⟩
    simp only [sliceA, und22, size5, hc1, cond_true, sliceNums, hb1, hb2, hx, Option.isSome_none, Bool.or_false, cond_false, e1, Nat.mul_one]
theorem BS.take3 {k : Nat} (h : BS σ p len c bs) (hk : k ≤ len) (hp : 0 < len) (hb : k ≤ 1073741824) : ∃ q, sliceA Tryd.prog σ 22 (.slice p len c) none (some (iV (k : Int))) (some (iV (k : Int))) = some (.slice q k k) ∧ BS σ q k k (bs.take k) ∧ ∀ b, AtP q b → AtP p b := by
 have hl := h.leng
 cases p with
 | none => have : len = 0 := h.cut; omega
 | some a =>
  obtain ⟨hc1, hc2⟩ := h.cut
  have hr := h.row
  have hb1 : boundA (some (iV (k : Int))) 0 (capLow c) = some k := bound_some rfl (by omega)
  have hb2 : boundA (some (iV (k : Int))) 0 k = some k := bound_some rfl (Nat.le_refl _)
  have hb3 : boundA (none : Option Value) 0 k = some 0 := rfl
  have e1 : Nat.ble 0 k = true := (ble_iff _ _).2 (Nat.zero_le _)
  have hq : (bif Nat.beq k 0 then a else aadd a (0 * 1)) = a := by cases Nat.beq k 0 <;> rfl
  have hx : capExact k = true := ex_small (by omega)
  refine ⟨some a, ?_, bs_of ?_ (by simp [hl]; omega) hc1 (by rw [capLow_ex hx]; exact Nat.le_refl _), fun b hb => hb⟩
  ·simp only [sliceA, und22, size5, hc1, cond_true, sliceNums, hb1, hb2, hb3, Option.isSome_some, Bool.true_or, e1, hq, Nat.sub_zero]
  ·have := hr.part (k := 0) (m := k) (by simp [hl]; omega)
   rw [List.drop_zero, ← List.map_take] at this
   exact this
end
def InP (σ : St) (b : Nat) (bs : List Int) : Prop := ∃ p l c, Own σ b [.slice p l c] 1 ∧ BS σ p l c bs ∧ ∀ k, AtP p k → k < b
section
variable {σ τ : St} {b : Nat} {bs : List Int}
theorem InP.le (h : InP σ b bs) (k : Le σ τ) : InP τ b bs := by
 obtain ⟨p, l, c, o, hb, hn⟩ := h
 exact ⟨p, l, c, o.le k, hb.le k, hn⟩
theorem ask_t : CallsA Tryd.prog 43 [.bool true] σ (.tuple ⟨[]⟩) σ := (RunsX_ret (ask_ra ⟨rfl, Nat.le_refl _⟩)).pure
theorem ask_d : DiesA Tryd.prog 43 [.bool false] σ (.iface 88 (.agg ⟨[]⟩)) σ := by
 obtain ⟨x, s, h1, rfl, rfl⟩ := RunsX_die (ask_rb (σ := σ.re) (QD := fun x s => x = spX ∧ s = σ.re) ⟨rfl, rfl⟩)
 exact dies_pure h1 (Nat.le_refl _) spX_rig
theorem next_d (h : InP σ b []) : DiesA Tryd.prog 41 [.pointer (some ⟨b, 0, none⟩)] σ (.iface 88 (.agg ⟨[]⟩)) σ := by
 obtain ⟨p, l, c, o, hb, hn⟩ := h.le (le0 σ)
 have hl := hb.leng
 simp at hl
 subst hl
 obtain ⟨x, s, h1, rfl, rfl⟩ := RunsX_die (next_rb (σ := σ.re) (QD := fun x s => x = spX ∧ s = σ.re) (o.rw.ld agg22 (k := 0) rfl) ask_d ⟨rfl, rfl⟩ (by omega))
 exact dies_pure h1 (Nat.le_refl _) spX_rig
end
abbrev Bts (bs : List Int) : Prop := ∀ x ∈ bs, 0 ≤ x ∧ x ≤ 255
theorem Bts.tl {x : Int} {bs : List Int} (h : Bts (x :: bs)) : Bts bs := fun y hy => h y (List.mem_cons_of_mem _ hy)
def numP : List Int → Int → Int → Option (Int × List Int)
 | [], _, _ => none
 | c :: r, n, u => if n + Int.tmod c 128 * u < 268435456 then (if c < 128 then some (n + Int.tmod c 128 * u, r) else if u < 268435456 then numP r (n + Int.tmod c 128 * u) (u * 128) else none) else none
section
variable {P : Program} {σ τ : St} {b : Nat} {bs : List Int}
theorem mutL {f : FuncId} {args : List Value} {S : Nat → Prop} {m0 : Nat} {Q : Value → St → Prop} (h : RunsQ P f args σ.re fun v s => Only S σ.re s ∧ s.low ≤ m0 ∧ Q v s) (hm : m0 < σ.q) (hQ : ∀ v s m, Q v s → Q v ⟨s.heap, s.q, m⟩) : ∃ v σ', CallsA P f args σ v σ' ∧ Only S σ σ' ∧ σ'.low ≤ m0 ∧ Q v σ' := by
 obtain ⟨v, s, ⟨N0, hN⟩, h1, h2, h3⟩ := h
 refine ⟨v, ⟨s.heap, s.q, min σ.low s.low⟩, ⟨N0, fun N hl => ?_⟩, h1.lower (m := 0), Nat.le_trans (Nat.min_le_right _ _) h2, hQ _ _ _ h3⟩
 unfold callA
 rw [show (⟨σ.heap, σ.q, σ.q⟩ : St) = σ.re from rfl, hN N hl]
 show backA σ v s = _
 unfold backA
 have e1 : (Nat.ble σ.q s.low && rigidB RD v) = false := by
  rw [Bool.and_eq_false_iff]; left
  rw [Bool.eq_false_iff]; intro e; have := (ble_iff _ _).1 e; omega
 have e2 : Nat.ble σ.q s.q = true := (ble_iff _ _).2 h1.q
 rw [e1, cond_false, e2, cond_true, fN_eq, cond_ble]
theorem InP.lowM {m : Nat} (h : InP σ b bs) : InP ⟨σ.heap, σ.q, m⟩ b bs := h.le ⟨Nat.le_refl _, fun _ _ => rfl⟩
theorem next_l {x : Int} (h : InP σ b (x :: bs)) : ∃ σ', CallsA Pg 41 [.pointer (some ⟨b, 0, none⟩)] σ (.int .u8 x) σ' ∧ Only (· = b) σ σ' ∧ σ'.low ≤ b ∧ InP σ' b bs := by
 obtain ⟨p, l, c, o, hb, hn⟩ := h.le (le0 σ)
 have hl := hb.leng
 simp at hl
 have hp : 0 < l := by omega
 have hlt : b < σ.q := o.lt
 obtain ⟨q, c', k1, k2, k3⟩ := hb.drop (k := 1) (by omega) hp
 obtain ⟨a, rfl, _⟩ := hb.bt.some hp
 obtain ⟨v, σ', g1, g2, g3, g4, g5⟩ := mutL (S := (· = b)) (m0 := b) (Q := fun v s => v = .int .u8 x ∧ InP s b bs) (RunsX_ret (next_ra (σ := σ.re) (o.rw.ld agg22 (k := 0) rfl) ask_t (hb.at (i := 0) rfl) k1 (o.store (vs := [.slice q (l - 1) c']) rfl size22 rfl (by simp) rfl)
  ⟨Only.own (.inr rfl), Nat.min_le_right _ _, rfl, q, l - 1, c', o.put, k2.only (S := (· = b)) (Only.own (.inr rfl)) (fun k hk (e : k = b) => by have := hn k (k3 k hk); omega), fun k hk => hn k (k3 k hk)⟩ (by omega) (by omega))) hlt
  (by rintro v s m ⟨rfl, hi⟩; exact ⟨rfl, hi.lowM⟩)
 exact ⟨σ', g4 ▸ g1, g2, g3, g5⟩
theorem InP.lt (h : InP σ b bs) : b < σ.q := by obtain ⟨_, _, _, o, _⟩ := h; exact o.lt
theorem tmod128 {x : Int} (h : 0 ≤ x ∧ x ≤ 255) : 0 ≤ Int.tmod x 128 ∧ Int.tmod x 128 ≤ 127 := by
 rw [Int.tmod_eq_emod_of_nonneg h.1]; omega
theorem rnum_x (h : InP σ b bs) (hb : Bts bs) :
  RunsX Pg 42 [.pointer (some ⟨b, 0, none⟩)] σ.re (fun v s => ∃ n r, numP bs 0 1 = some (n, r) ∧ v = iV n ∧ InP s b r ∧ Only (· = b) σ.re s ∧ s.low ≤ b) (fun x s => x = spX ∧ numP bs 0 1 = none ∧ Only (· = b) σ.re s) := by
 refine rnum_ra (Pr := fun n s => ∃ r, numP bs 0 1 = some (n, r) ∧ InP s b r ∧ Only (· = b) σ.re s ∧ s.low ≤ b) (Pd := fun s => numP bs 0 1 = none ∧ Only (· = b) σ.re s)
  (rnum_loop1 (Inv := fun k n u s => ∃ r, r.length = k ∧ InP s b r ∧ Bts r ∧ Only (· = b) σ.re s ∧ numP bs 0 1 = numP r n u ∧ 0 ≤ n ∧ n < 268435456 ∧ (u = 1 ∨ u = 128 ∨ u = 16384 ∨ u = 2097152 ∨ u = 268435456)) ?_ bs.length 0 1 σ.re ⟨bs, rfl, h.le (le0 σ), hb, Only.refl _ _, rfl, by omega, by omega, .inl rfl⟩) ?_ ?_
 ·rintro k n u s ⟨r, rfl, hi, hr, ho, he, h1, h2, hu⟩
  have h3 : 1 ≤ u ∧ u ≤ 268435456 := by omega
  cases r with
  | nil => exact rnum_s1e (next_d hi) ⟨by rw [he]; rfl, ho⟩
  | cons c r =>
   obtain ⟨s', k1, k2, k3, k4⟩ := next_l hi
   have hc := hr c List.mem_cons_self
   have ht := tmod128 hc
   have m1 : 0 ≤ Int.tmod c 128 * u := Int.mul_nonneg ht.1 (by omega)
   have m2 : Int.tmod c 128 * u ≤ 127 * 268435456 := Int.mul_le_mul ht.2 h3.2 (by omega) (by omega)
   have ho' : Only (· = b) σ.re s' := ho.trans' k2 fun _ _ e => .inl e
   have hn : numP (c :: r) n u = if n + Int.tmod c 128 * u < 268435456 then (if c < 128 then some (n + Int.tmod c 128 * u, r) else if u < 268435456 then numP r (n + Int.tmod c 128 * u) (u * 128) else none) else none := rfl
   by_cases c1 : n + Int.tmod c 128 * u < 268435456
   rotate_left
   ·exact rnum_s1d k1 ask_d ⟨by rw [he, hn, if_neg c1], ho'⟩ (by omega) (by omega) (by omega) c1
   by_cases c2 : c < 128
   ·exact rnum_s1a k1 ask_t ⟨r, by rw [he, hn, if_pos c1, if_pos c2], k4, ho', k3⟩ (by omega) (by omega) (by omega) c1 c2
   by_cases c3 : u < 268435456
   ·exact rnum_s1b k1 ask_t ⟨r.length, by simp, r, rfl, k4, hr.tl, ho', by rw [he, hn, if_pos c1, if_neg c2, if_pos c3], by omega, c1, by omega⟩ (by omega) (by omega) (by omega) c1 c2 c3 (by omega)
   ·exact rnum_s1c k1 ask_t ask_d ⟨by rw [he, hn, if_pos c1, if_neg c2, if_neg c3], ho'⟩ (by omega) (by omega) (by omega) c1 c2 c3
 ·rintro n s ⟨r, g1, g2, g3, g4⟩
  exact rnum_t1xra ⟨n, r, g1, rfl, g2, g3, g4⟩
 ·rintro s ⟨g1, g2⟩
  exact rnum_t1xda ⟨rfl, g1, g2⟩
theorem rnum_c (h : InP σ b bs) (hb : Bts bs) :
    (∃ n r σ', numP bs 0 1 = some (n, r) ∧ CallsA Pg 42 [.pointer (some ⟨b, 0, none⟩)] σ (iV n) σ' ∧ Only (· = b) σ σ' ∧ InP σ' b r) ∨
    (∃ σ', numP bs 0 1 = none ∧ DiesA Pg 42 [.pointer (some ⟨b, 0, none⟩)] σ (.iface 88 (.agg ⟨[]⟩)) σ' ∧ Only (· = b) σ σ') := by
  rcases rnum_x h hb with ⟨v, s, h1, n, r, h2, rfl, h3, h4, h5⟩ | ⟨x, s, h1, rfl, h2, h3⟩
  · obtain ⟨v, σ', g1, g2, _, g3, g4⟩ := mutL (S := (· = b)) (m0 := b) (Q := fun v s => v = iV n ∧ InP s b r) ⟨_, s, h1, h4, h5, rfl, h3⟩ h.lt (by rintro v s m ⟨rfl, hi⟩; exact ⟨rfl, hi.lowM⟩)
    exact .inl ⟨n, r, σ', h2, g3 ▸ g1, g2, g4⟩
  · obtain ⟨σ', g1, g2⟩ := dies_only h1 h3 spX_rig
    exact .inr ⟨σ', h2, g1, g2⟩
def xorB (n : Int) : Int := if n / 32 % 2 = 0 then n + 32 else n - 32
theorem xor_tab : (List.range 256).all (fun k => match binA Pg .xor 5 (.tmp 19) (.const (.int .u8 32)) (.int .u8 (k : Int)) (.int .u8 32) with | some (.int .u8 z) => eqI z (xorB k) | _ => false) = true := by kernel_rfl
theorem xor_c {n : Int} (h : 0 ≤ n ∧ n ≤ 255) : binA Pg .xor 5 (.tmp 19) (.const (.int .u8 32)) (.int .u8 n) (.int .u8 32) = some (.int .u8 (xorB n)) := by
 have := List.all_eq_true.1 xor_tab n.toNat (List.mem_range.2 (by omega))
 rw [show ((n.toNat : Nat) : Int) = n by omega] at this
 split at this
 ·rename_i z hz
  rw [hz, (eqI_iff _ _).1 this]
 ·cases this
theorem xor_126 {n : Int} (h : 0 ≤ n ∧ n ≤ 255) : xorB n = 126 ↔ n = 94 := by unfold xorB; split <;> omega
theorem xor_125 {n : Int} (h : 0 ≤ n ∧ n ≤ 255) : xorB n = 125 ↔ n = 93 := by unfold xorB; split <;> omega
def plainP : List Int → Option (List Int)
 | [] => some []
 | [c] => if c = 125 then none else some [c]
 | c :: d :: r => if c = 125 then (if d = 94 then (plainP r).map (126 :: ·) else if d = 93 then (plainP r).map (125 :: ·) else none) else (plainP (d :: r)).map (c :: ·)
theorem plainP_lit {c : Int} {r : List Int} (h : c ≠ 125) : plainP (c :: r) = (plainP r).map (c :: ·) := by
 cases r with
 | nil => simp [plainP, h]
 | cons d r => rw [plainP, if_neg h]
theorem AxB.cutS {n0 c : Nat} {p : Option Addr} {xs : List Int} (h : AxB τ n0 p xs.length c xs) : BS τ p xs.length c xs := by
 refine ⟨h.bytes, ?_⟩
 have h' : Ax τ n0 1 p xs.length c (xs.map byV) := h
 clear h
 generalize xs.length = len at h' ⊢
 generalize xs.map byV = cs at h'
 rcases h' with h | ⟨b, rfl, h2, h3, h4, h5, h6⟩
 ·cases h with
  | nil => rfl
  | more g1 g2 g3 g4 g5 g6 g7 =>
   refine ⟨?_, by rw [capLow_inex]; exact Nat.le_refl _⟩
   simp only [eszOk, g1, stampOf, g2, extOf, Nat.beq_refl, cond_true]
   rfl
 ·subst h2
  exact ⟨by simp [eszOk, h5.get, stampOf, extOf], by rw [capLow_ex h3]; exact Nat.le_refl _⟩
theorem plain_x {p : Option Addr} {l c : Nat} (h : BS σ p l c bs) (hb : Bts bs) (hl : l ≤ 1073741823) :
  RunsX Pg 40 [.slice p l c] σ.re (fun v s => ∃ out q d, plainP bs = some out ∧ v = .slice q out.length d ∧ New σ.re s ∧ BS s q out.length d out ∧ ∀ b, AtP q b → σ.q ≤ b) (fun x s => x = spX ∧ plainP bs = none ∧ New σ.re s) := by
 have hbl := h.leng
 have h0 : InP (σ.re.row [.slice p l c] 1) σ.q bs := ⟨p, l, c, own_new _ _ _, (h.le (le0 σ)).le (Le.row _ _ _), fun k hk => h.lt k hk⟩
 refine plain_ra (Pd := fun s => plainP bs = none ∧ New σ.re s) (P0 := fun q m d s => ∃ out, plainP bs = some out ∧ m = out.length ∧ New σ.re s ∧ AxB s (σ.q + 1) q out.length d out)
  (plain_loop1 (Inv := fun k q m d s => ∃ r acc, r.length = k ∧ InP s σ.q r ∧ Bts r ∧ New σ.re s ∧ m = acc.length ∧ AxB s (σ.q + 1) q acc.length d acc ∧ acc.length + r.length ≤ bs.length ∧ plainP bs = (plainP r).map (acc ++ ·)) ?_ bs.length none 0 0 _ ⟨bs, [], rfl, h0, hb, New.row _ _ _, rfl, Ax.nil, by simp, by cases plainP bs <;> rfl⟩) ?_ ?_
 rotate_left
 ·rintro s ⟨g1, g2⟩
  exact plain_t1xda ⟨rfl, g1, g2⟩
 ·rintro q m d s ⟨out, g1, rfl, g2, g3⟩
  exact plain_t1x0a ⟨out, q, d, g1, rfl, g2, g3.cutS, fun b hb => by have := (g3.bd b hb).1; omega⟩
 rintro k q m d s ⟨r, acc, rfl, hi, hr, hN, rfl, ha, hlen, he⟩
 have hi' := hi
 obtain ⟨q0, l0, c0, o0, b0, n0⟩ := hi'
 have hl0 := b0.leng
 have ld : loadA Pg s 22 ⟨σ.q, 0, none⟩ = some (.slice q0 l0 c0) := o0.rw.ld agg22 (k := 0) rfl
 have hnx : σ.q + 1 ≤ s.q := by have := o0.lt; omega
 have push : ∀ (x : Int) (t : St) (r' : List Int), Only (· = σ.q) s t → InP t σ.q r' → New σ.re t → acc.length + 1 ≤ bs.length →
   ∃ q' d' t', appendA Pg 22 22 (.slice q acc.length d) (.slice (some ⟨t.q, 0, none⟩) 1 1) (t.row [.int .u8 x] 1) = some (.slice q' (acc ++ [x]).length d', t') ∧ AxB t' (σ.q + 1) q' (acc ++ [x]).length d' (acc ++ [x]) ∧ InP t' σ.q r' ∧ New σ.re t' := by
  intro x t r' ho hi' hN' hle
  have ha' : AxB t (σ.q + 1) q acc.length d acc := ha.only (S := (· = σ.q)) ho fun b hb e => by have := (ha.bd b hb).1; have e : b = σ.q := e; omega
  have nr : New t (t.row [.int .u8 x] 1) := New.row _ _ _
  have ht := ho.q
  obtain ⟨q', d', t', g1, g2, g3, g4⟩ := AxB.push (d := 1) (ha'.le nr.le) (row_bytes t [x]) (by simp; omega) (by have := nr.le.q; omega)
  refine ⟨q', d', t', g1, g2, ?_, (hN'.row').of_only g3 fun b hb => by have := (ha'.bd b hb).1; show σ.q ≤ b; omega⟩
  obtain ⟨p1, l1, c1, o1, b1, n1⟩ := hi'.le nr.le
  have hS : ∀ k, k ≤ σ.q → ¬ AtP q k := fun k hk e => by have := (ha'.bd k e).1; omega
  exact ⟨p1, l1, c1, g3.own' o1 (hS _ (Nat.le_refl _)), b1.only g3 (fun k hk => hS k (Nat.le_of_lt (n1 k hk))), n1⟩
 cases r with
 | nil =>
  simp at hl0
  exact plain_s1g ld ⟨acc, by rw [he]; simp [plainP], rfl, hN, ha⟩ (by omega)
 | cons c0 r =>
  simp at hl0 hlen
  obtain ⟨s1, k1, k2, _, i1⟩ := next_l hi
  have N1 : New σ.re s1 := hN.of_only k2 fun b hb => by have hb : b = σ.q := hb; show σ.q ≤ b; omega
  have hc0 := hr c0 List.mem_cons_self
  by_cases c1 : c0 = 125
  rotate_left
  ·obtain ⟨q', d', t', g1, g2, g3, g4⟩ := push c0 s1 r k2 i1 N1 (by omega)
   exact plain_s1e ld k1 g1 ⟨r.length, by simp, r, acc ++ [c0], rfl, g3, hr.tl, g4, rfl, g2, by simp; omega, by rw [he, plainP_lit c1]; cases plainP r <;> simp⟩ (by omega) c1
  subst c1
  cases r with
  | nil => exact plain_s1d ld k1 (next_d i1) ⟨by rw [he, show plainP [125] = none from rfl]; rfl, N1⟩ (by omega) rfl
  | cons d0 r =>
   simp at hlen
   obtain ⟨s2, k3, k4, _, i2⟩ := next_l i1
   have N2 : New σ.re s2 := N1.of_only k4 fun b hb => by have hb : b = σ.q := hb; show σ.q ≤ b; omega
   have ho2 : Only (· = σ.q) s s2 := k2.trans' k4 fun _ _ e => .inl e
   have hd0 := hr d0 (by simp)
   have hx := xor_c hd0
   by_cases d1 : d0 = 94
   ·subst d1
    obtain ⟨q', d', t', g1, g2, g3, g4⟩ := push (xorB 94) s2 r ho2 i2 N2 (by omega)
    exact plain_s1a ld k1 k3 hx ask_t g1 ⟨r.length, by simp; omega, r, acc ++ [xorB 94], rfl, g3, hr.tl.tl, g4, rfl, g2, by simp; omega, by rw [he, plainP, if_pos rfl, if_pos rfl]; cases plainP r <;> simp <;> rfl⟩ (by omega) rfl rfl
   by_cases d2 : d0 = 93
   ·subst d2
    obtain ⟨q', d', t', g1, g2, g3, g4⟩ := push (xorB 93) s2 r ho2 i2 N2 (by omega)
    exact plain_s1b ld k1 k3 hx ask_t g1 ⟨r.length, by simp; omega, r, acc ++ [xorB 93], rfl, g3, hr.tl.tl, g4, rfl, g2, by simp; omega, by rw [he, plainP, if_pos rfl, if_neg (by omega), if_pos rfl]; cases plainP r <;> simp <;> rfl⟩ (by omega) rfl (by decide) rfl
   ·exact plain_s1c ld k1 k3 hx ask_d ⟨by rw [he, plainP, if_pos rfl, if_neg d1, if_neg d2]; rfl, N2⟩ (by omega) rfl (fun e => d1 ((xor_126 hd0).1 e)) (fun e => d2 ((xor_125 hd0).1 e))
theorem plain_c {p : Option Addr} {l c : Nat} (h : BS σ p l c bs) (hb : Bts bs) (hl : l ≤ 1073741823) :
  (∃ out q d σ', plainP bs = some out ∧ CallsA Pg 40 [.slice p l c] σ (.slice q out.length d) σ' ∧ New σ σ' ∧ BS σ' q out.length d out ∧ ∀ b, AtP q b → σ.q ≤ b) ∨
  (plainP bs = none ∧ DiesA Pg 40 [.slice p l c] σ (.iface 88 (.agg ⟨[]⟩)) σ) := by
 rcases plain_x h hb hl with ⟨v, s, h1, out, q, d, h2, rfl, h3, h4, h5⟩ | ⟨x, s, h1, rfl, h2, h3⟩
 ·obtain ⟨v, σ', g1, g2, q, d, rfl, g3, g4⟩ := RunsQ.new (Q := fun v s => ∃ q d, v = .slice q out.length d ∧ BS s q out.length d out ∧ ∀ b, AtP q b → σ.q ≤ b) ⟨_, s, h1, h3, q, d, rfl, h4, h5⟩ (by rintro v s s' ⟨q, d, rfl, g, g'⟩ hle; exact ⟨q, d, rfl, g.le hle, g'⟩) (by
   rintro v s hr ⟨q, d, rfl, g, g'⟩
   refine ⟨q, d, rfl, ?_, g'⟩
   cases q with
   | none => exact ⟨slv_none g.bt, g.cut⟩
   | some a => exact Bool.noConfusion (show false = true from hr))
  exact .inl ⟨out, q, d, σ', h2, g1, g2, g3, g4⟩
 ·exact .inr ⟨h2, dies_pure h1 h3.lw spX_rig⟩
end
section
variable {a_0 b s sep q4 p0_1 qK qC qV q1 : Option Addr} {a_0_l a_0_c b_l b_c s_l s_c sep_c l4 c4 l0_1 c0_1 lM cI lC cC lV cV l1 c1 : Nat} {s1 s2 : ByteArray} {σ σD σ3 σS σ2 : St} {Q : Value → St → Prop} {c n1 n2 kA i10_1 nA : Int} {sep_a q4_a : Addr} {Inv : Nat → (Option Addr) → Nat → Nat → Int → St → Prop} {Q0 Nx P0 : (Option Addr) → Nat → Nat → Int → St → Prop}
theorem bEq_ra (h1 : seeOp Pg (evL [.slice a_0 a_0_l a_0_c]) σ (.convert 22 9 (.tmp 0)) = some (.string s1)) (h2 : seeOp Pg (evL [.slice b b_l b_c]) σ (.convert 22 9 (.tmp 0)) = some (.string s2)) (h3 : binA Pg .eql 9 (.tmp 6) (.tmp 8) (.string s1) (.string s2) = some (.bool true)) (nx : Q (.bool true) σ) : RunsQ Pg 46 [.slice a_0 a_0_l a_0_c, .slice b b_l b_c] σ Q :=
 runsQ_of [.g, .g, .v (.string s1), .g, .v (.string s2), .v (.bool true), .g] (kc (by kernel_rfl) (ai h1 (ai h2 (ai h3 nx))))
theorem bEq_rb (h1 : seeOp Pg (evL [.slice a_0 a_0_l a_0_c]) σ (.convert 22 9 (.tmp 0)) = some (.string s1)) (h2 : seeOp Pg (evL [.slice b b_l b_c]) σ (.convert 22 9 (.tmp 0)) = some (.string s2)) (h3 : binA Pg .eql 9 (.tmp 6) (.tmp 8) (.string s1) (.string s2) = some (.bool false)) (nx : Q (.bool false) σ) : RunsQ Pg 46 [.slice a_0 a_0_l a_0_c, .slice b b_l b_c] σ Q :=
 runsQ_of [.g, .g, .v (.string s1), .g, .v (.string s2), .v (.bool false), .g] (kc (by kernel_rfl) (ai h1 (ai h2 (ai h3 nx))))
theorem bIdxB_ra (h1 : (extR Pg σ (.func 106) [.slice b b_l b_c, .int .u8 c] = some (iV n1) ∧ σ = σ)) (nx : Q (iV n1) σ) : RunsQ Pg 95 [.slice b b_l b_c, .int .u8 c] σ Q :=
 runsQ_of [.g, .g, .g, .e (iV n1) σ, .g] (kc (by kernel_rfl) (ai h1 nx))
theorem bIdx_ra (h1 : loadA Pg σ 5 sep_a = some (.int .u8 n1)) (h2 : CallsA Pg 95 [.slice s s_l s_c, .int .u8 n1] σ (iV n2) σ) (nx : Q (iV n2) σ) : RunsQ Pg 78 [.slice s s_l s_c, .slice (some sep_a) 1 sep_c] σ Q :=
 runsQ_of [.g, .g, .g, .g, .g, .g, .g, .g, .g, .g, .g, .g, .i, .l (.int .u8 n1), .c (iV n2) σ, .g] (kc (by kernel_rfl) (ai (⟨by decide, by decide⟩ : idxOk 0 1) (ai h1 (ai h2 nx))))
theorem bCnt_ra (h1 : loadA Pg σ 5 sep_a = some (.int .u8 n1)) (h2 : (extR Pg σ (.func 94) [.slice s s_l s_c, .int .u8 n1] = some (iV n2) ∧ σ = σ)) (nx : Q (iV n2) σ) : RunsQ Pg 77 [.slice s s_l s_c, .slice (some sep_a) 1 sep_c] σ Q :=
 runsQ_of [.g, .g, .g, .g, .g, .g, .g, .g, .g, .i, .l (.int .u8 n1), .e (iV n2) σ, .g] (kc (by kernel_rfl) (ai (⟨by decide, by decide⟩ : idxOk 0 1) (ai h1 (ai h2 nx))))
noncomputable def genSp_c1 : Code := (Code.part [1, 1, 1, 1, 1, 1, 1, 1, 0, 0, 0] (bodyOf Pg 60))
def genSp_l1 (sep : Option Addr) (sep_c : Nat) (kA : Int) (q4 : Option Addr) (l4 c4 : Nat) (p0_1 : Option Addr) (l0_1 c0_1 : Nat) (i10_1 : Int) : List (Nat × Value) := [(0, .slice p0_1 l0_1 c0_1), (1, .slice sep 1 sep_c), (2, iV 0), (3, iV kA), (9, .slice q4 l4 c4), (10, iV i10_1)]
def genSp_a1n (sep : Option Addr) (sep_c : Nat) (kA : Int) (q4 : Option Addr) (l4 c4 : Nat) (Q : (Option Addr) → Nat → Nat → Int → St → Prop) : Alt := ⟨(Option Addr) × Nat × Nat × Int, .normal, fun t => genSp_l1 sep sep_c kA q4 l4 c4 t.1 t.2.1 t.2.2.1 t.2.2.2, fun t => [], fun t σ => Q t.1 t.2.1 t.2.2.1 t.2.2.2 σ⟩
def genSp_l1x0 (sep : Option Addr) (sep_c : Nat) (kA : Int) (q4 : Option Addr) (l4 c4 : Nat) (p0_1 : Option Addr) (l0_1 c0_1 : Nat) (i10_1 : Int) : List (Nat × Value) := [(0, .slice p0_1 l0_1 c0_1), (9, .slice q4 l4 c4), (10, iV i10_1)]
def genSp_a1x0 (sep : Option Addr) (sep_c : Nat) (kA : Int) (q4 : Option Addr) (l4 c4 : Nat) (Q : (Option Addr) → Nat → Nat → Int → St → Prop) : Alt := ⟨(Option Addr) × Nat × Nat × Int, (.exit 0), fun t => genSp_l1x0 sep sep_c kA q4 l4 c4 t.1 t.2.1 t.2.2.1 t.2.2.2, fun t => [], fun t σ => Q t.1 t.2.1 t.2.2.1 t.2.2.2 σ⟩
def genSp_B1 (sep : Option Addr) (sep_c : Nat) (kA : Int) (q4 : Option Addr) (l4 c4 : Nat) (p0_1 : Option Addr) (l0_1 c0_1 : Nat) (i10_1 : Int) (σ : St) (Nx : (Option Addr) → Nat → Nat → Int → St → Prop) (Q0 : (Option Addr) → Nat → Nat → Int → St → Prop) : Prop := BodyG Pg (runA Pg) none genSp_c1 70 (genSp_l1 sep sep_c kA q4 l4 c4 p0_1 l0_1 c0_1 i10_1) [] [genSp_a1n sep sep_c kA q4 l4 c4 Nx, genSp_a1x0 sep sep_c kA q4 l4 c4 Q0] σ
def genSp_L1 (sep : Option Addr) (sep_c : Nat) (kA : Int) (q4 : Option Addr) (l4 c4 : Nat) (p0_1 : Option Addr) (l0_1 c0_1 : Nat) (i10_1 : Int) (σ : St) (Q0 : (Option Addr) → Nat → Nat → Int → St → Prop) : Prop := LoopG Pg (runA Pg) none genSp_c1 70 (genSp_l1 sep sep_c kA q4 l4 c4 p0_1 l0_1 c0_1 i10_1) [] [genSp_a1x0 sep sep_c kA q4 l4 c4 Q0] σ
theorem genSp_loop1 (hb : ∀ k p0_1 l0_1 c0_1 i10_1 σ, Inv k p0_1 l0_1 c0_1 i10_1 σ → genSp_B1 sep sep_c kA q4 l4 c4 p0_1 l0_1 c0_1 i10_1 σ (fun p0_1' l0_1' c0_1' i10_1' σ' => ∃ k', k' < k ∧ Inv k' p0_1' l0_1' c0_1' i10_1' σ') Q0) : ∀ k p0_1 l0_1 c0_1 i10_1 σ, Inv k p0_1 l0_1 c0_1 i10_1 σ → genSp_L1 sep sep_c kA q4 l4 c4 p0_1 l0_1 c0_1 i10_1 σ Q0 :=
 fun k p0_1 l0_1 c0_1 i10_1 σ h => loopG_inv (alts := [genSp_a1x0 sep sep_c kA q4 l4 c4 Q0]) (T := (Option Addr) × Nat × Nat × Int) (lf := fun t => genSp_l1 sep sep_c kA q4 l4 c4 t.1 t.2.1 t.2.2.1 t.2.2.2) (mf := fun t => []) (Inv := fun k t σ => Inv k t.1 t.2.1 t.2.2.1 t.2.2.2 σ) (ai (exNe 0) trivial) (fun k t σ h => hb k t.1 t.2.1 t.2.2.1 t.2.2.2 σ h) k (p0_1, l0_1, c0_1, i10_1) σ h
theorem genSp_s1b (h1 : CallsA Pg 78 [.slice p0_1 l0_1 c0_1, .slice sep 1 sep_c] σ (iV nA) σ) (h2 : sliceA Pg σ 22 (.slice p0_1 l0_1 c0_1) none (some (iV (nA + 0))) (some (iV (nA + 0))) = some (.slice qK lM cI)) (h3 : effOp Pg (evL [.pointer (some (aadd q4_a (Int.toNat i10_1 * 1))), .slice qK lM cI]) σ (.store 22 (.tmp 0) (.tmp 1)) = some (undef, σD)) (h4 : sliceA Pg σD 22 (.slice p0_1 l0_1 c0_1) (some (iV (nA + 1))) none none = some (.slice qC lC cC)) (nx : Nx qC lC cC (i10_1 + 1) σD) (u1 : i10_1 < kA := by omega) (u2 : ¬ nA < 0 := by omega) (u3 : -9223372036854775808 ≤ nA + 0 ∧ nA + 0 ≤ 9223372036854775807 := by omega) (u4 : 0 ≤ i10_1 ∧ i10_1 < ((l4 : Nat) : Int) := by omega) (u5 : -9223372036854775808 ≤ nA + 1 ∧ nA + 1 ≤ 9223372036854775807 := by omega) (u6 : -9223372036854775808 ≤ i10_1 + 1 ∧ i10_1 + 1 ≤ 9223372036854775807 := by omega) : genSp_B1 sep sep_c kA (some q4_a) l4 c4 p0_1 l0_1 c0_1 i10_1 σ Nx Q0 :=
 body_of [.g, .g, .b true, .g, .g, .c (iV nA) σ, .g, .g, .b false, .g, .g, .g, .g, .g, .n (nA + 0), .g, .g, .n (nA + 0), .v (.slice qK lM cI), .i, .e undef σD, .g, .g, .g, .g, .n (nA + 1), .v (.slice qC lC cC), .g, .g, .n (i10_1 + 1), .g, .fin (genSp_a1n sep sep_c kA (some q4_a) l4 c4 Nx) (qC, lC, cC, i10_1 + 1)] (fun g => kc (by kernel_rfl) (ai (ltI_tt u1) (ai h1 (ai (ltI_ff u2) (ai (wrap64 (n := nA + 0) u3.1 u3.2) (ai (wrap64 (n := nA + 0) u3.1 u3.2) (ai h2 (ai u4 (ai h3 (ai (wrap64 (n := nA + 1) u5.1 u5.2) (ai h4 (ai (wrap64 (n := i10_1 + 1) u6.1 u6.2) (fin (alts := [genSp_a1n sep sep_c kA (some q4_a) l4 c4 Nx, genSp_a1x0 sep sep_c kA (some q4_a) l4 c4 Q0]) (genSp_a1n sep sep_c kA (some q4_a) l4 c4 Nx) (qC, lC, cC, i10_1 + 1) nx in0)))))))))))))
theorem genSp_s1c (nx : Q0 p0_1 l0_1 c0_1 i10_1 σ) (u1 : ¬ i10_1 < kA := by omega) : genSp_B1 sep sep_c kA q4 l4 c4 p0_1 l0_1 c0_1 i10_1 σ Nx Q0 :=
 body_of [.g, .g, .b false, .fin (genSp_a1x0 sep sep_c kA q4 l4 c4 Q0) (p0_1, l0_1, c0_1, i10_1)] (fun g => kc (by kernel_rfl) (ai (ltI_ff u1) (fin (alts := [genSp_a1n sep sep_c kA q4 l4 c4 Nx, genSp_a1x0 sep sep_c kA q4 l4 c4 Q0]) (genSp_a1x0 sep sep_c kA q4 l4 c4 Q0) (p0_1, l0_1, c0_1, i10_1) nx (inS in0))))
def genSp_K1_0 (sep : Option Addr) (sep_c : Nat) (kA : Int) (q4 : Option Addr) (l4 c4 : Nat) (p0_1 : Option Addr) (l0_1 c0_1 : Nat) (i10_1 : Int) (σ : St) (Q : Value → St → Prop) : Prop := ∀ g : Nat → Value, ∃ an, Hid (kAt Pg (runA Pg) none (bodyOf Pg 60) [1, 1, 1, 1, 1, 1, 1, 1, 0, 0] (kFn Pg 60 Q) (.exit 0) ⟨Fm 70 (ov (genSp_l1x0 sep sep_c kA q4 l4 c4 p0_1 l0_1 c0_1 i10_1) g), []⟩ σ an)
theorem genSp_ra (h1 : CallsA Pg 77 [.slice s s_l s_c, .slice sep 1 sep_c] σ (iV n1) σ) (h2 : seeOp Pg (evL [iV (n1 + 1), iV (((s_l : Nat) : Int) + 1)]) σ (.call { callee := .builtin .min, args := ⟨tmpsTo 2⟩, argTypes := ⟨[3, 3]⟩ }) = some (iV n2)) (h3 : effOp Pg (evL [iV n2, iV n2]) σ (.makeSlice 85 (.tmp 0) (.tmp 1)) = some (.slice q4 l4 c4, σ3)) (hL : genSp_L1 sep sep_c (n2 - 1) q4 l4 c4 s s_l s_c 0 σ3 P0) (k0 : ∀ p0_1' l0_1' c0_1' i10_1' σ', P0 p0_1' l0_1' c0_1' i10_1' σ' → genSp_K1_0 sep sep_c (n2 - 1) q4 l4 c4 p0_1' l0_1' c0_1' i10_1' σ' Q) (u1 : -9223372036854775808 ≤ n1 + 1 ∧ n1 + 1 ≤ 9223372036854775807 := by omega) (u2 : -9223372036854775808 ≤ ((s_l : Nat) : Int) + 1 ∧ ((s_l : Nat) : Int) + 1 ≤ 9223372036854775807 := by omega) (u3 : -9223372036854775808 ≤ n2 - 1 ∧ n2 - 1 ≤ 9223372036854775807 := by omega) : RunsQ Pg 60 [.slice s s_l s_c, .slice sep 1 sep_c, iV 0, iV (-1)] σ Q :=
 runsQ_of [.g, .g, .g, .g, .g, .g, .g, .g, .g, .g, .c (iV n1) σ, .n (n1 + 1), .g, .g, .g, .g, .n (((s_l : Nat) : Int) + 1), .v (iV n2), .g, .g, .e (.slice q4 l4 c4) σ3, .g, .g, .n (n2 - 1), .g, .g, .lf 70 (genSp_l1 sep sep_c (n2 - 1) q4 l4 c4 s s_l s_c 0) [genSp_a1x0 sep sep_c (n2 - 1) q4 l4 c4 P0]] (kc (by kernel_rfl) (ai h1 (ai (wrap64 (n := n1 + 1) u1.1 u1.2) (ai (wrap64 (n := ((s_l : Nat) : Int) + 1) u2.1 u2.2) (ai h2 (ai h3 (ai (wrap64 (n := n2 - 1) u3.1 u3.2) (ai (ai tt (ai (arf (genSp_l1 sep sep_c (n2 - 1) q4 l4 c4 s s_l s_c 0)) hL)) (ai (fun (t : (Option Addr) × Nat × Nat × Int) (g' : Nat → Value) (σ' : St) (q : P0 t.1 t.2.1 t.2.2.1 t.2.2.2 σ') => k0 t.1 t.2.1 t.2.2.1 t.2.2.2 σ' q g') trivial)))))))))
theorem genSp_t1x0a (h1 : effOp Pg (evL [.pointer (some (aadd q4_a (Int.toNat i10_1 * 1))), .slice p0_1 l0_1 c0_1]) σ (.store 22 (.tmp 0) (.tmp 1)) = some (undef, σS)) (h2 : sliceA Pg σS 85 (.slice (some q4_a) l4 c4) none (some (iV (i10_1 + 1))) none = some (.slice qV lV cV)) (nx : Q (.slice qV lV cV) σS) (u1 : 0 ≤ i10_1 ∧ i10_1 < ((l4 : Nat) : Int) := by omega) (u2 : -9223372036854775808 ≤ i10_1 + 1 ∧ i10_1 + 1 ≤ 9223372036854775807 := by omega) : genSp_K1_0 sep sep_c kA (some q4_a) l4 c4 p0_1 l0_1 c0_1 i10_1 σ Q :=
 fun g => ⟨[.g, .g, .g, .i, .e undef σS, .g, .g, .n (i10_1 + 1), .v (.slice qV lV cV), .g], kc (by kernel_rfl) (ai u1 (ai h1 (ai (wrap64 (n := i10_1 + 1) u2.1 u2.2) (ai h2 nx))))⟩
theorem split_ra (h1 : CallsA Pg 60 [.slice s s_l s_c, .slice sep 1 sep_c, iV 0, iV (-1)] σ (.slice q1 l1 c1) σ2) (nx : Q (.slice q1 l1 c1) σ2) : RunsQ Pg 38 [.slice s s_l s_c, .slice sep 1 sep_c] σ Q :=
 runsQ_of [.g, .g, .g, .c (.slice q1 l1 c1) σ2, .g] (kc (by kernel_rfl) (ai h1 nx))
theorem pieces_ra (nx : Q (.func (.func 37) ⟨[]⟩ ⟨[.pointer (some ⟨σ.q, 0, none⟩)]⟩) (σ.row [.slice b b_l b_c] 1)) : RunsQ Pg 21 [.slice b b_l b_c] σ Q :=
 runsQ_of [.g, .g, .g, .g] (kc (by kernel_rfl) nx)
end
def strB (bs : List Int) : List UInt8 := bs.map fun n => UInt8.ofNat n.toNat
theorem bytesA_map : ∀ bs : List Int, bytesA (bs.map byV) = some (strB bs)
 | [] => rfl
 | b :: bs => by rw [List.map_cons, bytesA, bytesA_map bs]; rfl
theorem byte_inj {x y : Int} (hx : 0 ≤ x ∧ x ≤ 255) (hy : 0 ≤ y ∧ y ≤ 255) (h : UInt8.ofNat x.toNat = UInt8.ofNat y.toNat) : x = y := by
 have := congrArg UInt8.toNat h
 simp only [UInt8.toNat_ofNat'] at this
 rw [Nat.mod_eq_of_lt (by omega), Nat.mod_eq_of_lt (by omega)] at this
 omega
theorem strB_inj : ∀ {xs ys : List Int}, Bts xs → Bts ys → strB xs = strB ys → xs = ys
 | [], [], _, _, _ => rfl
 | [], _ :: _, _, _, h => by simp [strB] at h
 | _ :: _, [], _, _, h => by simp [strB] at h
 | x :: xs, y :: ys, hx, hy, h => by
  simp only [strB, List.map_cons, List.cons.injEq] at h
  rw [byte_inj (hx x List.mem_cons_self) (hy y List.mem_cons_self) h.1, strB_inj hx.tl hy.tl h.2]
theorem eq_str {s t : ByteArray} {o1 o2 : Operand} : binA Tryd.prog .eql 9 o1 o2 (.string s) (.string t) = some (.bool (s.data.toList == t.data.toList)) := by
 have e : binA Tryd.prog .eql 9 o1 o2 (.string s) (.string t) = (pureVal Tryd.prog (do eqGuard .eql 9 o1 o2 (.string s) (.string t); binOp .eql 9 (.string s) (.string t))).filter (rigidB RD) := by kernel_rfl
 have e1 : pureVal Tryd.prog (eqGuard .eql 9 o1 o2 (.string s) (.string t)) = some () := by kernel_rfl
 have e2 : binOp .eql 9 (.string s) (.string t) = pure (.bool (s.toList == t.toList)) := rfl
 rw [e, pv_bind, e1]
 simp only [Option.bind_some]
 rw [e2, pv_pure, ByteArray.toList_eq, ByteArray.toList_eq]
 rfl
section
variable {σ : St}
theorem conv_str {p : Option Addr} {l c : Nat} {bs : List Int} (h : BytesP σ p l bs) : seeOp Tryd.prog (evL [.slice p l c]) σ (.convert 22 9 (.tmp 0)) = some (.string ⟨⟨strB bs⟩⟩) := by
 have hl := BytesP.len h
 cases p with
 | none =>
  have h0 : l = 0 := h.1.2
  subst h0
  have : bs = [] := List.eq_nil_of_length_eq_zero hl
  subst this
  show seeOp Tryd.prog (evL [.slice none 0 c]) σ (.convert 22 9 (.tmp 0)) = some (.string ⟨⟨[]⟩⟩)
  kernel_rfl
 | some a =>
  have hr := h.1.2
  rw [flatB] at hr
  have hrd := hr.rd
  rw [List.length_map, hl] at hrd
  have e : seeOp Tryd.prog (evL [.slice (some a) l c]) σ (.convert 22 9 (.tmp 0)) = (match readRow σ a l with
    | some cs => match bytesA cs with
     | some bs => some (.string ⟨⟨bs⟩⟩)
     | none => none
    | none => none) := by kernel_rfl
  rw [e, hrd]
  simp only [bytesA_map]
theorem bEq_c {p q : Option Addr} {l m c d : Nat} {xs ys : List Int} (h1 : BytesP σ p l xs) (h2 : BytesP σ q m ys) (b1 : Bts xs) (b2 : Bts ys) : CallsA Tryd.prog 46 [.slice p l c, .slice q m d] σ (.bool (decide (xs = ys))) σ := by
 have k1 := conv_str (c := c) (SlV.le h1 (le0 σ))
 have k2 := conv_str (c := d) (SlV.le h2 (le0 σ))
 by_cases e : xs = ys
 ·subst e
  rw [decide_eq_true rfl]
  exact (bEq_ra k1 k2 (by rw [eq_str, beq_self_eq_true]) ⟨rfl, Nat.le_refl _⟩).pure
 ·rw [decide_eq_false e]
  refine (bEq_rb k1 k2 ?_ ⟨rfl, Nat.le_refl _⟩).pure
  have : (strB xs == strB ys) = false := by rw [beq_eq_false_iff_ne]; exact fun h => e (strB_inj b1 b2 h)
  rw [eq_str]
  show some (Value.bool (strB xs == strB ys)) = _
  rw [this]
end
def numsP : Nat → List Int → Option (List Int × List Int)
 | 0, r => some ([], r)
 | k + 1, r => match numP r 0 1 with
  | some (n, r') => (numsP k r').map fun p => (n :: p.1, p.2)
  | none => none
def recOf (content : List Int) : List Int → Option Rec
 | [a, b, c, d, e, f] => if (0 ≤ d ∧ d ≤ 2) ∧ rightB ⟨a, b, c, d, e, f⟩ = true ∧ contentB ⟨a, b, c, d, e, f⟩ = content then some ⟨a, b, c, d, e, f⟩ else none
 | _ => none
def recC : List Int → Option Rec
 | [] => none
 | x :: t => match numsP 6 t with
  | some (l, _) => recOf (x :: t) l
  | none => none
def recP (p : List Int) : Option Rec := match plainP p with
 | some c => recC c
 | none => none
theorem numP_bts : ∀ {r : List Int} {n u : Int}, Bts r → ∀ m r', numP r n u = some (m, r') → Bts r'
 | [], n, u, _, m, r', h => by cases h
 | c :: r, n, u, hb, m, r', h => by
  unfold numP at h
  split at h
  ·split at h
   ·cases h; exact hb.tl
   ·split at h
    ·exact numP_bts hb.tl m r' h
    ·cases h
  ·cases h
theorem plainP_bts : ∀ (k : Nat) (bs : List Int), bs.length ≤ k → Bts bs → ∀ out, plainP bs = some out → Bts out := by
 intro k
 have one : ∀ {x : Int} {o : List Int}, (0 ≤ x ∧ x ≤ 255) → Bts o → Bts (x :: o) := fun hx ho y hy => by
  rcases List.mem_cons.1 hy with e | e
  ·rw [e]; exact hx
  ·exact ho y e
 induction k with
 | zero => intro bs hk _ out h; have : bs = [] := List.eq_nil_of_length_eq_zero (by omega); subst this; simp [plainP] at h; subst h; intro x hx; cases hx
 | succ k ih =>
  intro bs hk hb out h
  match bs, hk, hb, h with
  | [], _, _, h => simp [plainP] at h; subst h; intro x hx; cases hx
  | [c], _, hb, h =>
   unfold plainP at h
   split at h
   ·cases h
   ·simp at h; subst h; exact hb
  | c :: d :: r, hk, hb, h =>
   unfold plainP at h
   simp at hk
   split at h
   ·split at h
    ·obtain ⟨o, h1, rfl⟩ := Option.map_eq_some_iff.1 h
     exact one (by omega) (ih r (by omega) hb.tl.tl o h1)
    ·split at h
     ·obtain ⟨o, h1, rfl⟩ := Option.map_eq_some_iff.1 h
      exact one (by omega) (ih r (by omega) hb.tl.tl o h1)
     ·cases h
   ·obtain ⟨o, h1, rfl⟩ := Option.map_eq_some_iff.1 h
    exact one (hb c List.mem_cons_self) (ih (d :: r) (by simp; omega) hb.tl o h1)
theorem content_bts {x : Rec} : Bts (contentB x) := by
 intro y hy
 unfold contentB at hy
 rcases List.mem_append.1 hy with h | h
 ·unfold countedB at h
  rcases List.mem_cons.1 h with e | e
  ·rw [e]; omega
  ·obtain ⟨n, _, h2⟩ := List.mem_flatMap.1 e
   exact numB_byte _ _ h2
 ·have key : ∀ (l : List Int) (p : Int × Int), 0 ≤ p.1 ∧ p.1 ≤ 255 ∧ 0 ≤ p.2 ∧ p.2 ≤ 255 → 0 ≤ (l.foldl (fun p c => ((p.1 + c) % 256, (p.2 + (p.1 + c) % 256) % 256)) p).1 ∧ (l.foldl (fun p c => ((p.1 + c) % 256, (p.2 + (p.1 + c) % 256) % 256)) p).1 ≤ 255 ∧ 0 ≤ (l.foldl (fun p c => ((p.1 + c) % 256, (p.2 + (p.1 + c) % 256) % 256)) p).2 ∧ (l.foldl (fun p c => ((p.1 + c) % 256, (p.2 + (p.1 + c) % 256) % 256)) p).2 ≤ 255 := by
   intro l
   induction l with
   | nil => intro p hp; exact hp
   | cons c l ih => intro p hp; rw [List.foldl_cons]; exact ih _ ⟨by omega, by omega, by omega, by omega⟩
  have := key (countedB x) (0, 0) (by omega)
  simp only [List.mem_cons, List.not_mem_nil, or_false] at h
  unfold chk at h
  rcases h with rfl | rfl
  ·exact ⟨this.1, this.2.1⟩
  ·exact ⟨this.2.2.1, this.2.2.2⟩
section
variable {BA BB l1 c1 BD BC piece_l piece_c lD cJ lW cW : Nat} {q1 piece qL qW : Option Addr} {Inv : Nat → Int → St → Prop} {Qd Q0 Pd P0 : St → Prop} {i20_1 nA n3 n5 n6 n7 n8 n9 n10 nGC nHC nVB nWB nIC nJC nI nP nQ nHB nIB zE nJB nKB nLB nMB nNB nOB nPB nR nEC nH nSB nTB nUB nFC nBA nBD nS nBE nBF nBG nZ nBH nBI nBJ nAB : Int} {σF σD σ σFB σ2 σ4 σ3 σS σN σB σH σI σGB σV σHB σW σA σIB σX : St} {Nx : Int → St → Prop} {Q : Value → St → Prop} {b11 bA bB bC bE bG : Bool}
noncomputable def rcrd_c1 : Code := (Code.part [1, 1, 1, 1, 1, 1, 0, 1, 0, 0] (bodyOf Pg 22))
def rcrd_l1 (BA BB : Nat) (q1 : Option Addr) (l1 c1 BD BC : Nat) (i20_1 : Int) : List (Nat × Value) := [(2, .pointer (some ⟨BA, 0, none⟩)), (3, .pointer (some ⟨BB, 0, none⟩)), (4, .slice q1 l1 c1), (5, .pointer (some ⟨BD, 0, none⟩)), (6, .pointer (some ⟨BC, 0, none⟩)), (20, iV i20_1)]
def rcrd_a1n (BA BB : Nat) (q1 : Option Addr) (l1 c1 BD BC : Nat) (Q : Int → St → Prop) : Alt := ⟨Int, .normal, fun t => rcrd_l1 BA BB q1 l1 c1 BD BC t, fun t => [], fun t σ => Q t σ⟩
def rcrd_l1xd (BA BB : Nat) (q1 : Option Addr) (l1 c1 BD BC : Nat) : List (Nat × Value) := [(2, .pointer (some ⟨BA, 0, none⟩)), (3, .pointer (some ⟨BB, 0, none⟩))]
def rcrd_a1xd (BA BB : Nat) (q1 : Option Addr) (l1 c1 BD BC : Nat) (Q : St → Prop) : Alt := ⟨Unit, (died spX), fun t => rcrd_l1xd BA BB q1 l1 c1 BD BC, fun t => [], fun t σ => Q σ⟩
def rcrd_l1x0 (BA BB : Nat) (q1 : Option Addr) (l1 c1 BD BC : Nat) : List (Nat × Value) := [(2, .pointer (some ⟨BA, 0, none⟩)), (3, .pointer (some ⟨BB, 0, none⟩)), (4, .slice q1 l1 c1), (6, .pointer (some ⟨BC, 0, none⟩))]
def rcrd_a1x0 (BA BB : Nat) (q1 : Option Addr) (l1 c1 BD BC : Nat) (Q : St → Prop) : Alt := ⟨Unit, (.exit 0), fun t => rcrd_l1x0 BA BB q1 l1 c1 BD BC, fun t => [], fun t σ => Q σ⟩
def rcrd_B1 (BA BB : Nat) (q1 : Option Addr) (l1 c1 BD BC : Nat) (i20_1 : Int) (σ : St) (Nx : Int → St → Prop) (Qd : St → Prop) (Q0 : St → Prop) : Prop := BodyX Pg rcrd_c1 61 (rcrd_l1 BA BB q1 l1 c1 BD BC i20_1) [] [rcrd_a1n BA BB q1 l1 c1 BD BC Nx, rcrd_a1xd BA BB q1 l1 c1 BD BC Qd, rcrd_a1x0 BA BB q1 l1 c1 BD BC Q0] σ
def rcrd_L1 (BA BB : Nat) (q1 : Option Addr) (l1 c1 BD BC : Nat) (i20_1 : Int) (σ : St) (Qd : St → Prop) (Q0 : St → Prop) : Prop := LoopX Pg rcrd_c1 61 (rcrd_l1 BA BB q1 l1 c1 BD BC i20_1) [] [rcrd_a1xd BA BB q1 l1 c1 BD BC Qd, rcrd_a1x0 BA BB q1 l1 c1 BD BC Q0] σ
theorem rcrd_loop1 (hb : ∀ k i20_1 σ, Inv k i20_1 σ → rcrd_B1 BA BB q1 l1 c1 BD BC i20_1 σ (fun i20_1' σ' => ∃ k', k' < k ∧ Inv k' i20_1' σ') Qd Q0) : ∀ k i20_1 σ, Inv k i20_1 σ → rcrd_L1 BA BB q1 l1 c1 BD BC i20_1 σ Qd Q0 :=
 fun k i20_1 σ h => loopX_inv (alts := [rcrd_a1xd BA BB q1 l1 c1 BD BC Qd, rcrd_a1x0 BA BB q1 l1 c1 BD BC Q0]) (T := Int) (lf := fun t => rcrd_l1 BA BB q1 l1 c1 BD BC t) (mf := fun t => []) (Inv := fun k t σ => Inv k t σ) (ai (diedNe spX) (ai (exNe 0) trivial)) (fun k t σ h => hb k t σ h) k i20_1 σ h
theorem rcrd_s1a (h1 : CallsA Pg 42 [.pointer (some ⟨BD, 0, none⟩)] σ (iV nA) σF) (h2 : effOp Pg (evL [.pointer (some ⟨BC, 0 + Int.toNat i20_1 * 1, none⟩), iV nA]) σF (.store 3 (.tmp 0) (.tmp 1)) = some (undef, σD)) (nx : Nx (i20_1 + 1) σD) (u1 : i20_1 < 6 := by omega) (u2 : 0 ≤ i20_1 ∧ i20_1 < 6 := by omega) (u3 : -9223372036854775808 ≤ i20_1 + 1 ∧ i20_1 + 1 ≤ 9223372036854775807 := by omega) : rcrd_B1 BA BB q1 l1 c1 BD BC i20_1 σ Nx Qd Q0 :=
 body_ofX [.b true, .g, .g, .g, .g, .c (iV nA) σF, .i, .e undef σD, .n (i20_1 + 1), .g, .fin (rcrd_a1n BA BB q1 l1 c1 BD BC Nx) (i20_1 + 1)] (fun g => kc (by kernel_rfl) (ai (ltI_tt u1) (ai h1 (ai u2 (ai h2 (ai (wrap64 (n := i20_1 + 1) u3.1 u3.2) (fin (alts := [rcrd_a1n BA BB q1 l1 c1 BD BC Nx, rcrd_a1xd BA BB q1 l1 c1 BD BC Qd, rcrd_a1x0 BA BB q1 l1 c1 BD BC Q0]) (rcrd_a1n BA BB q1 l1 c1 BD BC Nx) (i20_1 + 1) nx in0)))))))
theorem rcrd_s1b (h1 : DiesA Pg 42 [.pointer (some ⟨BD, 0, none⟩)] σ (.iface 88 (.agg ⟨[]⟩)) σFB) (nx : Qd σFB) (u1 : i20_1 < 6 := by omega) : rcrd_B1 BA BB q1 l1 c1 BD BC i20_1 σ Nx Qd Q0 :=
 body_ofX [.b true, .g, .g, .die, .g, .g, .dx (.iface 88 (.agg ⟨[]⟩)) σFB, .fin (rcrd_a1xd BA BB q1 l1 c1 BD BC Qd) ()] (fun g => kc (by kernel_rfl) (ai (ltI_tt u1) (ai h1 (fin (alts := [rcrd_a1n BA BB q1 l1 c1 BD BC Nx, rcrd_a1xd BA BB q1 l1 c1 BD BC Qd, rcrd_a1x0 BA BB q1 l1 c1 BD BC Q0]) (rcrd_a1xd BA BB q1 l1 c1 BD BC Qd) () nx (inS in0)))))
theorem rcrd_s1c (nx : Q0 σ) (u1 : ¬ i20_1 < 6 := by omega) : rcrd_B1 BA BB q1 l1 c1 BD BC i20_1 σ Nx Qd Q0 :=
 body_ofX [.b false, .fin (rcrd_a1x0 BA BB q1 l1 c1 BD BC Q0) ()] (fun g => kc (by kernel_rfl) (ai (ltI_ff u1) (fin (alts := [rcrd_a1n BA BB q1 l1 c1 BD BC Nx, rcrd_a1xd BA BB q1 l1 c1 BD BC Qd, rcrd_a1x0 BA BB q1 l1 c1 BD BC Q0]) (rcrd_a1x0 BA BB q1 l1 c1 BD BC Q0) () nx (inS (inS in0)))))
def rcrd_K1_d (BA BB : Nat) (q1 : Option Addr) (l1 c1 BD BC : Nat) (σ : St) (Q : Value → St → Prop) : Prop := ∀ g : Nat → Value, ∃ an, Hid (kAtX Pg (bodyOf Pg 22) [1, 1, 1, 1, 1, 1, 0, 1, 0] (kFnR Pg 22 (.func (.func 39) ⟨[]⟩ ⟨[.pointer (some ⟨BA, 0, none⟩), .pointer (some ⟨BB, 0, none⟩)]⟩) Q) (died spX) ⟨Fm 61 (ov (rcrd_l1xd BA BB q1 l1 c1 BD BC) g), []⟩ σ an)
def rcrd_K1_0 (BA BB : Nat) (q1 : Option Addr) (l1 c1 BD BC : Nat) (σ : St) (Q : Value → St → Prop) : Prop := ∀ g : Nat → Value, ∃ an, Hid (kAtX Pg (bodyOf Pg 22) [1, 1, 1, 1, 1, 1, 0, 1, 0] (kFnR Pg 22 (.func (.func 39) ⟨[]⟩ ⟨[.pointer (some ⟨BA, 0, none⟩), .pointer (some ⟨BB, 0, none⟩)]⟩) Q) (.exit 0) ⟨Fm 61 (ov (rcrd_l1x0 BA BB q1 l1 c1 BD BC) g), []⟩ σ an)
theorem rcrd_ra (h1 : CallsA Pg 40 [.slice piece piece_l piece_c] ((σ.row (rcd 0 0 0 0 0 0) 6).row [.bool false] 1) (.slice q1 l1 c1) σ2) (h2 : CallsA Pg 41 [.pointer (some ⟨σ2.q, 0, none⟩)] (σ2.row [.slice q1 l1 c1] 1) (.int .u8 n3) σ4) (hL : rcrd_L1 σ.q (σ.q + 1) q1 l1 c1 σ2.q σ4.q 0 (σ4.row (ints6 0 0 0 0 0 0) 1) Pd P0) (kd : ∀ σ', Pd σ' → rcrd_K1_d σ.q (σ.q + 1) q1 l1 c1 σ2.q σ4.q σ' Q) (k0 : ∀ σ', P0 σ' → rcrd_K1_0 σ.q (σ.q + 1) q1 l1 c1 σ2.q σ4.q σ' Q) : RunsQ Pg 22 [.slice piece piece_l piece_c] σ Q :=
 recvs_of [.g, .g, .g, .g, .c (.slice q1 l1 c1) σ2, .g, .g, .g, .g, .g, .g, .g, .g, .g, .c (.int .u8 n3) σ4, .g, .g, .lf 61 (rcrd_l1 σ.q (σ.q + 1) q1 l1 c1 σ2.q σ4.q 0) [rcrd_a1xd σ.q (σ.q + 1) q1 l1 c1 σ2.q σ4.q Pd, rcrd_a1x0 σ.q (σ.q + 1) q1 l1 c1 σ2.q σ4.q P0]] (kc (by kernel_rfl) (ai h1 (ai h2 (ai (ai tt (ai (arf (rcrd_l1 σ.q (σ.q + 1) q1 l1 c1 σ2.q σ4.q 0)) hL)) (ai (fun (t : Unit) (g' : Nat → Value) (σ' : St) (q : Pd σ') => kd σ' q g') (ai (fun (t : Unit) (g' : Nat → Value) (σ' : St) (q : P0 σ') => k0 σ' q g') trivial))))))
theorem rcrd_rb (h1 : CallsA Pg 40 [.slice piece piece_l piece_c] ((σ.row (rcd 0 0 0 0 0 0) 6).row [.bool false] 1) (.slice q1 l1 c1) σ2) (h2 : DiesA Pg 41 [.pointer (some ⟨σ2.q, 0, none⟩)] (σ2.row [.slice q1 l1 c1] 1) (.iface 88 (.agg ⟨[]⟩)) (σ2.row [.slice q1 l1 c1] 1)) (h3 : effOp Pg (evL [.pointer (some ⟨σ.q, 0, none⟩), .agg ⟨rcd 0 0 0 0 0 0⟩]) (((σ2.row [.slice q1 l1 c1] 1).row [] 0).own (σ2.q + 1) [] 0) (.store 40 (.tmp 0) (.tmp 1)) = some (undef, σ3)) (h4 : effOp Pg (evL [.pointer (some ⟨(σ.q + 1), 0, none⟩), .bool false]) σ3 (.store 4 (.tmp 0) (.tmp 1)) = some (undef, σ4)) (h5 : loadA Pg σ4 40 ⟨σ.q, 0, none⟩ = some (.agg ⟨rcd n5 n6 n7 n8 n9 n10⟩)) (h6 : loadA Pg σ4 4 ⟨(σ.q + 1), 0, none⟩ = some (.bool b11)) (nx : Q (.tuple ⟨[.agg ⟨rcd n5 n6 n7 n8 n9 n10⟩, .bool b11]⟩) σ4) : RunsQ Pg 22 [.slice piece piece_l piece_c] σ Q :=
 recvs_of [.g, .g, .g, .g, .c (.slice q1 l1 c1) σ2, .g, .g, .g, .g, .g, .g, .die, .g, .g, .g, .dx (.iface 88 (.agg ⟨[]⟩)) (σ2.row [.slice q1 l1 c1] 1), .g, .g, .g, .g, .g, .g, .g, .g, .e undef (((σ2.row [.slice q1 l1 c1] 1).row [] 0).own (σ2.q + 1) [] 0), .g, .g, .g, .g, .e undef σ3, .e undef σ4, .l (.agg ⟨rcd n5 n6 n7 n8 n9 n10⟩), .l (.bool b11)] (kc (by kernel_rfl) (ai h1 (ai h2 (ai ((own_new _ _ _).store (vs := []) rfl size88 rfl (by first | (simp; done) | (simp; omega)) rfl : effOp Pg (evL [.pointer (some ⟨(σ2.q + 1), 0, none⟩), .agg ⟨[]⟩]) ((σ2.row [.slice q1 l1 c1] 1).row [] 0) (.store 88 (.tmp 0) (.tmp 1)) = some (undef, (((σ2.row [.slice q1 l1 c1] 1).row [] 0).own (σ2.q + 1) [] 0))) (ai h3 (ai h4 (ai h5 (ai h6 nx))))))))
theorem rcrd_rc (h1 : DiesA Pg 40 [.slice piece piece_l piece_c] ((σ.row (rcd 0 0 0 0 0 0) 6).row [.bool false] 1) (.iface 88 (.agg ⟨[]⟩)) ((σ.row (rcd 0 0 0 0 0 0) 6).row [.bool false] 1)) (nx : Q (.tuple ⟨[.agg ⟨rcd 0 0 0 0 0 0⟩, .bool false]⟩) ((((((σ.row (rcd 0 0 0 0 0 0) 6).row [.bool false] 1).row [] 0).own (σ.q + 2) [] 0).own σ.q (rcd 0 0 0 0 0 0) 6).own (σ.q + 1) [.bool false] 1)) : RunsQ Pg 22 [.slice piece piece_l piece_c] σ Q :=
 recvs_of [.g, .g, .g, .die, .g, .dx (.iface 88 (.agg ⟨[]⟩)) ((σ.row (rcd 0 0 0 0 0 0) 6).row [.bool false] 1), .g, .g, .g, .g, .g, .g, .g, .g, .e undef ((((σ.row (rcd 0 0 0 0 0 0) 6).row [.bool false] 1).row [] 0).own (σ.q + 2) [] 0), .g, .g, .g, .g, .e undef (((((σ.row (rcd 0 0 0 0 0 0) 6).row [.bool false] 1).row [] 0).own (σ.q + 2) [] 0).own σ.q (rcd 0 0 0 0 0 0) 6), .e undef ((((((σ.row (rcd 0 0 0 0 0 0) 6).row [.bool false] 1).row [] 0).own (σ.q + 2) [] 0).own σ.q (rcd 0 0 0 0 0 0) 6).own (σ.q + 1) [.bool false] 1), .l (.agg ⟨rcd 0 0 0 0 0 0⟩), .l (.bool false)] (kc (by kernel_rfl) (ai h1 (ai ((own_new _ _ _).store (vs := []) rfl size88 rfl (by first | (simp; done) | (simp; omega)) rfl : effOp Pg (evL [.pointer (some ⟨(σ.q + 2), 0, none⟩), .agg ⟨[]⟩]) (((σ.row (rcd 0 0 0 0 0 0) 6).row [.bool false] 1).row [] 0) (.store 88 (.tmp 0) (.tmp 1)) = some (undef, ((((σ.row (rcd 0 0 0 0 0 0) 6).row [.bool false] 1).row [] 0).own (σ.q + 2) [] 0))) (ai (((own_new _ _ _).row.row.own (by first | (simp; done) | (simp; omega))).store (vs := (rcd 0 0 0 0 0 0)) rfl size40 rfl (by first | (simp; done) | (simp; omega)) rfl : effOp Pg (evL [.pointer (some ⟨σ.q, 0, none⟩), .agg ⟨rcd 0 0 0 0 0 0⟩]) ((((σ.row (rcd 0 0 0 0 0 0) 6).row [.bool false] 1).row [] 0).own (σ.q + 2) [] 0) (.store 40 (.tmp 0) (.tmp 1)) = some (undef, (((((σ.row (rcd 0 0 0 0 0 0) 6).row [.bool false] 1).row [] 0).own (σ.q + 2) [] 0).own σ.q (rcd 0 0 0 0 0 0) 6))) (ai ((((own_new _ _ _).row.own (by first | (simp; done) | (simp; omega))).own (by first | (simp; done) | (simp; omega))).store (vs := [.bool false]) rfl size4 rfl (by first | (simp; done) | (simp; omega)) rfl : effOp Pg (evL [.pointer (some ⟨(σ.q + 1), 0, none⟩), .bool false]) (((((σ.row (rcd 0 0 0 0 0 0) 6).row [.bool false] 1).row [] 0).own (σ.q + 2) [] 0).own σ.q (rcd 0 0 0 0 0 0) 6) (.store 4 (.tmp 0) (.tmp 1)) = some (undef, ((((((σ.row (rcd 0 0 0 0 0 0) 6).row [.bool false] 1).row [] 0).own (σ.q + 2) [] 0).own σ.q (rcd 0 0 0 0 0 0) 6).own (σ.q + 1) [.bool false] 1))) (ai ((((own_new _ _ _).row.row.own (by first | (simp; done) | (simp; omega))).put.own (by first | (simp; done) | (simp; omega))).rw.ldN agg40 size40 (k := 0) rfl rfl (by first | (simp; done) | (simp; omega)) : loadA Pg ((((((σ.row (rcd 0 0 0 0 0 0) 6).row [.bool false] 1).row [] 0).own (σ.q + 2) [] 0).own σ.q (rcd 0 0 0 0 0 0) 6).own (σ.q + 1) [.bool false] 1) 40 ⟨σ.q, 0, none⟩ = some (.agg ⟨rcd 0 0 0 0 0 0⟩)) (ai ((((own_new _ _ _).row.own (by first | (simp; done) | (simp; omega))).own (by first | (simp; done) | (simp; omega))).put.rw.ld agg4 (k := 0) rfl : loadA Pg ((((((σ.row (rcd 0 0 0 0 0 0) 6).row [.bool false] 1).row [] 0).own (σ.q + 2) [] 0).own σ.q (rcd 0 0 0 0 0 0) 6).own (σ.q + 1) [.bool false] 1) 4 ⟨(σ.q + 1), 0, none⟩ = some (.bool false)) nx)))))))
theorem rcrd_t1xda (h1 : effOp Pg (evL [.pointer (some ⟨BA, 0, none⟩), .agg ⟨rcd 0 0 0 0 0 0⟩]) ((σ.row [] 0).own σ.q [] 0) (.store 40 (.tmp 0) (.tmp 1)) = some (undef, σS)) (h2 : effOp Pg (evL [.pointer (some ⟨BB, 0, none⟩), .bool false]) σS (.store 4 (.tmp 0) (.tmp 1)) = some (undef, σN)) (h3 : loadA Pg σN 40 ⟨BA, 0, none⟩ = some (.agg ⟨rcd nGC nHC nVB nWB nIC nJC⟩)) (h4 : loadA Pg σN 4 ⟨BB, 0, none⟩ = some (.bool bA)) (nx : Q (.tuple ⟨[.agg ⟨rcd nGC nHC nVB nWB nIC nJC⟩, .bool bA]⟩) σN) : rcrd_K1_d BA BB q1 l1 c1 BD BC σ Q :=
 fun g => ⟨[.g, .g, .g, .g, .g, .g, .g, .g, .e undef ((σ.row [] 0).own σ.q [] 0), .g, .g, .g, .g, .e undef σS, .e undef σN, .l (.agg ⟨rcd nGC nHC nVB nWB nIC nJC⟩), .l (.bool bA)], kc (by kernel_rfl) (ai ((own_new _ _ _).store (vs := []) rfl size88 rfl (by first | (simp; done) | (simp; omega)) rfl : effOp Pg (evL [.pointer (some ⟨σ.q, 0, none⟩), .agg ⟨[]⟩]) (σ.row [] 0) (.store 88 (.tmp 0) (.tmp 1)) = some (undef, ((σ.row [] 0).own σ.q [] 0))) (ai h1 (ai h2 (ai h3 (ai h4 nx)))))⟩
theorem rcrd_t1x0a (h1 : loadA Pg σ 3 ⟨BC, 3, none⟩ = some (iV nI)) (h2 : CallsA Pg 44 [] σ (.slice qL lD cJ) σB) (h3 : CallsA Pg 31 [iV nI, iV 0, iV (((lD : Nat) : Int) - 1)] σB (.bool true) σB) (h4 : CallsA Pg 43 [.bool true] σB (.tuple ⟨[]⟩) σB) (h5 : belowL σB.q [.slice qL lD cJ]) (h6 : (((⟨BC, 3, none⟩ : Addr).block < σB.q ∧ goodB RD (iV nI) = true) ∧ loadA Pg σB 3 ⟨BC, 3, none⟩ = some (iV nI))) (h7 : loadA Pg σB 3 ⟨BC, 0, none⟩ = some (iV nP)) (h8 : loadA Pg σB 3 ⟨BC, 1, none⟩ = some (iV nQ)) (h9 : loadA Pg σB 3 ⟨BC, 2, none⟩ = some (iV nHB)) (h10 : loadA Pg σB 3 ⟨BC, 3, none⟩ = some (iV nIB)) (h11 : wrapK .u8 (nIB) = zE) (h12 : loadA Pg σB 3 ⟨BC, 4, none⟩ = some (iV nJB)) (h13 : loadA Pg σB 3 ⟨BC, 5, none⟩ = some (iV nKB)) (h14 : effOp Pg (evL [.pointer (some ⟨BA, 0, none⟩), .agg ⟨rcd nP nQ nHB zE nJB nKB⟩]) σB (.store 40 (.tmp 0) (.tmp 1)) = some (undef, σH)) (h15 : loadA Pg σH 40 ⟨BA, 0, none⟩ = some (.agg ⟨rcd nLB nMB nNB nOB nPB nR⟩)) (h16 : CallsA Pg 45 [.agg ⟨rcd nLB nMB nNB nOB nPB nR⟩] σH (.bool true) σH) (h17 : CallsA Pg 47 [.agg ⟨rcd nLB nMB nNB nOB nPB nR⟩] σH (.slice qW lW cW) σI) (h18 : CallsA Pg 46 [.slice qW lW cW, .slice q1 l1 c1] σI (.bool true) σI) (h19 : CallsA Pg 43 [.bool true] σI (.tuple ⟨[]⟩) σI) (h20 : loadA Pg σI 40 ⟨BA, 0, none⟩ = some (.agg ⟨rcd nEC nH nSB nTB nUB nFC⟩)) (h21 : effOp Pg (evL [.pointer (some ⟨BA, 0, none⟩), .agg ⟨rcd nEC nH nSB nTB nUB nFC⟩]) σI (.store 40 (.tmp 0) (.tmp 1)) = some (undef, σGB)) (h22 : effOp Pg (evL [.pointer (some ⟨BB, 0, none⟩), .bool true]) σGB (.store 4 (.tmp 0) (.tmp 1)) = some (undef, σV)) (h23 : loadA Pg σV 40 ⟨BA, 0, none⟩ = some (.agg ⟨rcd nBA nBD nS nBE nBF nBG⟩)) (h24 : loadA Pg σV 4 ⟨BB, 0, none⟩ = some (.bool bB)) (nx : Q (.tuple ⟨[.agg ⟨rcd nBA nBD nS nBE nBF nBG⟩, .bool bB]⟩) σV) (u1 : -9223372036854775808 ≤ ((lD : Nat) : Int) - 1 ∧ ((lD : Nat) : Int) - 1 ≤ 9223372036854775807 := by omega) (b_BC : BC < σ.q := by omega) : rcrd_K1_0 BA BB q1 l1 c1 BD BC σ Q :=
 fun g => ⟨[.i, .l (iV nI), .c (.slice qL lD cJ) σB, .g, .n (((lD : Nat) : Int) - 1), .c (.bool true) σB, .c (.tuple ⟨[]⟩) σB, .i, .l (iV nP), .i, .l (iV nQ), .i, .l (iV nHB), .i, .l (iV nIB), .n zE, .i, .l (iV nJB), .i, .l (iV nKB), .g, .e undef σH, .l (.agg ⟨rcd nLB nMB nNB nOB nPB nR⟩), .g, .g, .g, .c (.bool true) σH, .g, .l (.agg ⟨rcd nLB nMB nNB nOB nPB nR⟩), .c (.slice qW lW cW) σI, .g, .c (.bool true) σI, .g, .c (.tuple ⟨[]⟩) σI, .l (.agg ⟨rcd nEC nH nSB nTB nUB nFC⟩), .e undef σGB, .e undef σV, .g, .g, .l (.agg ⟨rcd nBA nBD nS nBE nBF nBG⟩), .l (.bool bB)], kc (by kernel_rfl) (ai (⟨by decide, by decide⟩ : idxOk 3 6) (ai h1 (ai h2 (ai (wrap64 (n := ((lD : Nat) : Int) - 1) u1.1 u1.2) (ai h3 (ai h4 (ai ((belowL_cons (belowB_ptr b_BC) belowL_nil) : belowL σ.q [.pointer (some ⟨BC, 3, none⟩)]) (ai h5 (ai (⟨⟨b_BC, rfl⟩, h1⟩ : (((⟨BC, 3, none⟩ : Addr).block < σ.q ∧ goodB RD (iV nI) = true) ∧ loadA Pg σ 3 ⟨BC, 3, none⟩ = some (iV nI))) (ai h6 (ai (⟨by decide, by decide⟩ : idxOk 0 6) (ai h7 (ai (⟨by decide, by decide⟩ : idxOk 1 6) (ai h8 (ai (⟨by decide, by decide⟩ : idxOk 2 6) (ai h9 (ai (⟨by decide, by decide⟩ : idxOk 3 6) (ai h10 (ai h11 (ai (⟨by decide, by decide⟩ : idxOk 4 6) (ai h12 (ai (⟨by decide, by decide⟩ : idxOk 5 6) (ai h13 (ai h14 (ai h15 (ai h16 (ai h15 (ai h17 (ai h18 (ai h19 (ai h20 (ai h21 (ai h22 (ai h23 (ai h24 nx)))))))))))))))))))))))))))))))))))⟩
theorem rcrd_t1x0b (h1 : loadA Pg σ 3 ⟨BC, 3, none⟩ = some (iV nI)) (h2 : CallsA Pg 44 [] σ (.slice qL lD cJ) σB) (h3 : CallsA Pg 31 [iV nI, iV 0, iV (((lD : Nat) : Int) - 1)] σB (.bool true) σB) (h4 : CallsA Pg 43 [.bool true] σB (.tuple ⟨[]⟩) σB) (h5 : belowL σB.q [.slice qL lD cJ]) (h6 : (((⟨BC, 3, none⟩ : Addr).block < σB.q ∧ goodB RD (iV nI) = true) ∧ loadA Pg σB 3 ⟨BC, 3, none⟩ = some (iV nI))) (h7 : loadA Pg σB 3 ⟨BC, 0, none⟩ = some (iV nP)) (h8 : loadA Pg σB 3 ⟨BC, 1, none⟩ = some (iV nQ)) (h9 : loadA Pg σB 3 ⟨BC, 2, none⟩ = some (iV nHB)) (h10 : loadA Pg σB 3 ⟨BC, 3, none⟩ = some (iV nIB)) (h11 : wrapK .u8 (nIB) = zE) (h12 : loadA Pg σB 3 ⟨BC, 4, none⟩ = some (iV nJB)) (h13 : loadA Pg σB 3 ⟨BC, 5, none⟩ = some (iV nKB)) (h14 : effOp Pg (evL [.pointer (some ⟨BA, 0, none⟩), .agg ⟨rcd nP nQ nHB zE nJB nKB⟩]) σB (.store 40 (.tmp 0) (.tmp 1)) = some (undef, σH)) (h15 : loadA Pg σH 40 ⟨BA, 0, none⟩ = some (.agg ⟨rcd nLB nMB nNB nOB nPB nR⟩)) (h16 : CallsA Pg 45 [.agg ⟨rcd nLB nMB nNB nOB nPB nR⟩] σH (.bool true) σH) (h17 : CallsA Pg 47 [.agg ⟨rcd nLB nMB nNB nOB nPB nR⟩] σH (.slice qW lW cW) σI) (h18 : CallsA Pg 46 [.slice qW lW cW, .slice q1 l1 c1] σI (.bool false) σI) (h19 : DiesA Pg 43 [.bool false] σI (.iface 88 (.agg ⟨[]⟩)) σI) (h20 : effOp Pg (evL [.pointer (some ⟨BA, 0, none⟩), .agg ⟨rcd 0 0 0 0 0 0⟩]) ((σI.row [] 0).own σI.q [] 0) (.store 40 (.tmp 0) (.tmp 1)) = some (undef, σHB)) (h21 : effOp Pg (evL [.pointer (some ⟨BB, 0, none⟩), .bool false]) σHB (.store 4 (.tmp 0) (.tmp 1)) = some (undef, σW)) (h22 : loadA Pg σW 40 ⟨BA, 0, none⟩ = some (.agg ⟨rcd nSB nTB nUB nFC nZ nBH⟩)) (h23 : loadA Pg σW 4 ⟨BB, 0, none⟩ = some (.bool bC)) (nx : Q (.tuple ⟨[.agg ⟨rcd nSB nTB nUB nFC nZ nBH⟩, .bool bC]⟩) σW) (u1 : -9223372036854775808 ≤ ((lD : Nat) : Int) - 1 ∧ ((lD : Nat) : Int) - 1 ≤ 9223372036854775807 := by omega) (b_BC : BC < σ.q := by omega) : rcrd_K1_0 BA BB q1 l1 c1 BD BC σ Q :=
 fun g => ⟨[.i, .l (iV nI), .c (.slice qL lD cJ) σB, .g, .n (((lD : Nat) : Int) - 1), .c (.bool true) σB, .c (.tuple ⟨[]⟩) σB, .i, .l (iV nP), .i, .l (iV nQ), .i, .l (iV nHB), .i, .l (iV nIB), .n zE, .i, .l (iV nJB), .i, .l (iV nKB), .g, .e undef σH, .l (.agg ⟨rcd nLB nMB nNB nOB nPB nR⟩), .g, .g, .die, .g, .c (.bool true) σH, .g, .l (.agg ⟨rcd nLB nMB nNB nOB nPB nR⟩), .c (.slice qW lW cW) σI, .g, .c (.bool false) σI, .g, .dx (.iface 88 (.agg ⟨[]⟩)) σI, .g, .g, .g, .g, .g, .g, .g, .g, .e undef ((σI.row [] 0).own σI.q [] 0), .g, .g, .g, .g, .e undef σHB, .e undef σW, .l (.agg ⟨rcd nSB nTB nUB nFC nZ nBH⟩), .l (.bool bC)], kc (by kernel_rfl) (ai (⟨by decide, by decide⟩ : idxOk 3 6) (ai h1 (ai h2 (ai (wrap64 (n := ((lD : Nat) : Int) - 1) u1.1 u1.2) (ai h3 (ai h4 (ai ((belowL_cons (belowB_ptr b_BC) belowL_nil) : belowL σ.q [.pointer (some ⟨BC, 3, none⟩)]) (ai h5 (ai (⟨⟨b_BC, rfl⟩, h1⟩ : (((⟨BC, 3, none⟩ : Addr).block < σ.q ∧ goodB RD (iV nI) = true) ∧ loadA Pg σ 3 ⟨BC, 3, none⟩ = some (iV nI))) (ai h6 (ai (⟨by decide, by decide⟩ : idxOk 0 6) (ai h7 (ai (⟨by decide, by decide⟩ : idxOk 1 6) (ai h8 (ai (⟨by decide, by decide⟩ : idxOk 2 6) (ai h9 (ai (⟨by decide, by decide⟩ : idxOk 3 6) (ai h10 (ai h11 (ai (⟨by decide, by decide⟩ : idxOk 4 6) (ai h12 (ai (⟨by decide, by decide⟩ : idxOk 5 6) (ai h13 (ai h14 (ai h15 (ai h16 (ai h15 (ai h17 (ai h18 (ai h19 (ai ((own_new _ _ _).store (vs := []) rfl size88 rfl (by first | (simp; done) | (simp; omega)) rfl : effOp Pg (evL [.pointer (some ⟨σI.q, 0, none⟩), .agg ⟨[]⟩]) (σI.row [] 0) (.store 88 (.tmp 0) (.tmp 1)) = some (undef, ((σI.row [] 0).own σI.q [] 0))) (ai h20 (ai h21 (ai h22 (ai h23 nx)))))))))))))))))))))))))))))))))))⟩
theorem rcrd_t1x0c (h1 : loadA Pg σ 3 ⟨BC, 3, none⟩ = some (iV nI)) (h2 : CallsA Pg 44 [] σ (.slice qL lD cJ) σB) (h3 : CallsA Pg 31 [iV nI, iV 0, iV (((lD : Nat) : Int) - 1)] σB (.bool true) σB) (h4 : CallsA Pg 43 [.bool true] σB (.tuple ⟨[]⟩) σB) (h5 : belowL σB.q [.slice qL lD cJ]) (h6 : (((⟨BC, 3, none⟩ : Addr).block < σB.q ∧ goodB RD (iV nI) = true) ∧ loadA Pg σB 3 ⟨BC, 3, none⟩ = some (iV nI))) (h7 : loadA Pg σB 3 ⟨BC, 0, none⟩ = some (iV nP)) (h8 : loadA Pg σB 3 ⟨BC, 1, none⟩ = some (iV nQ)) (h9 : loadA Pg σB 3 ⟨BC, 2, none⟩ = some (iV nHB)) (h10 : loadA Pg σB 3 ⟨BC, 3, none⟩ = some (iV nIB)) (h11 : wrapK .u8 (nIB) = zE) (h12 : loadA Pg σB 3 ⟨BC, 4, none⟩ = some (iV nJB)) (h13 : loadA Pg σB 3 ⟨BC, 5, none⟩ = some (iV nKB)) (h14 : effOp Pg (evL [.pointer (some ⟨BA, 0, none⟩), .agg ⟨rcd nP nQ nHB zE nJB nKB⟩]) σB (.store 40 (.tmp 0) (.tmp 1)) = some (undef, σH)) (h15 : loadA Pg σH 40 ⟨BA, 0, none⟩ = some (.agg ⟨rcd nLB nMB nNB nOB nPB nR⟩)) (h16 : CallsA Pg 45 [.agg ⟨rcd nLB nMB nNB nOB nPB nR⟩] σH (.bool false) σH) (h17 : DiesA Pg 43 [.bool false] σH (.iface 88 (.agg ⟨[]⟩)) σH) (h18 : effOp Pg (evL [.pointer (some ⟨BA, 0, none⟩), .agg ⟨rcd 0 0 0 0 0 0⟩]) ((σH.row [] 0).own σH.q [] 0) (.store 40 (.tmp 0) (.tmp 1)) = some (undef, σA)) (h19 : effOp Pg (evL [.pointer (some ⟨BB, 0, none⟩), .bool false]) σA (.store 4 (.tmp 0) (.tmp 1)) = some (undef, σI)) (h20 : loadA Pg σI 40 ⟨BA, 0, none⟩ = some (.agg ⟨rcd nBI nEC nH nSB nTB nUB⟩)) (h21 : loadA Pg σI 4 ⟨BB, 0, none⟩ = some (.bool bE)) (nx : Q (.tuple ⟨[.agg ⟨rcd nBI nEC nH nSB nTB nUB⟩, .bool bE]⟩) σI) (u1 : -9223372036854775808 ≤ ((lD : Nat) : Int) - 1 ∧ ((lD : Nat) : Int) - 1 ≤ 9223372036854775807 := by omega) (b_BC : BC < σ.q := by omega) : rcrd_K1_0 BA BB q1 l1 c1 BD BC σ Q :=
 fun g => ⟨[.i, .l (iV nI), .c (.slice qL lD cJ) σB, .g, .n (((lD : Nat) : Int) - 1), .c (.bool true) σB, .c (.tuple ⟨[]⟩) σB, .i, .l (iV nP), .i, .l (iV nQ), .i, .l (iV nHB), .i, .l (iV nIB), .n zE, .i, .l (iV nJB), .i, .l (iV nKB), .g, .e undef σH, .l (.agg ⟨rcd nLB nMB nNB nOB nPB nR⟩), .g, .g, .die, .g, .c (.bool false) σH, .g, .g, .dx (.iface 88 (.agg ⟨[]⟩)) σH, .g, .g, .g, .g, .g, .g, .g, .g, .e undef ((σH.row [] 0).own σH.q [] 0), .g, .g, .g, .g, .e undef σA, .e undef σI, .l (.agg ⟨rcd nBI nEC nH nSB nTB nUB⟩), .l (.bool bE)], kc (by kernel_rfl) (ai (⟨by decide, by decide⟩ : idxOk 3 6) (ai h1 (ai h2 (ai (wrap64 (n := ((lD : Nat) : Int) - 1) u1.1 u1.2) (ai h3 (ai h4 (ai ((belowL_cons (belowB_ptr b_BC) belowL_nil) : belowL σ.q [.pointer (some ⟨BC, 3, none⟩)]) (ai h5 (ai (⟨⟨b_BC, rfl⟩, h1⟩ : (((⟨BC, 3, none⟩ : Addr).block < σ.q ∧ goodB RD (iV nI) = true) ∧ loadA Pg σ 3 ⟨BC, 3, none⟩ = some (iV nI))) (ai h6 (ai (⟨by decide, by decide⟩ : idxOk 0 6) (ai h7 (ai (⟨by decide, by decide⟩ : idxOk 1 6) (ai h8 (ai (⟨by decide, by decide⟩ : idxOk 2 6) (ai h9 (ai (⟨by decide, by decide⟩ : idxOk 3 6) (ai h10 (ai h11 (ai (⟨by decide, by decide⟩ : idxOk 4 6) (ai h12 (ai (⟨by decide, by decide⟩ : idxOk 5 6) (ai h13 (ai h14 (ai h15 (ai h16 (ai h17 (ai ((own_new _ _ _).store (vs := []) rfl size88 rfl (by first | (simp; done) | (simp; omega)) rfl : effOp Pg (evL [.pointer (some ⟨σH.q, 0, none⟩), .agg ⟨[]⟩]) (σH.row [] 0) (.store 88 (.tmp 0) (.tmp 1)) = some (undef, ((σH.row [] 0).own σH.q [] 0))) (ai h18 (ai h19 (ai h20 (ai h21 nx))))))))))))))))))))))))))))))))⟩
theorem rcrd_t1x0d (h1 : loadA Pg σ 3 ⟨BC, 3, none⟩ = some (iV nI)) (h2 : CallsA Pg 44 [] σ (.slice qL lD cJ) σB) (h3 : CallsA Pg 31 [iV nI, iV 0, iV (((lD : Nat) : Int) - 1)] σB (.bool false) σB) (h4 : belowL σB.q [.slice qL lD cJ]) (h5 : (((⟨BC, 3, none⟩ : Addr).block < σB.q ∧ goodB RD (iV nI) = true) ∧ loadA Pg σB 3 ⟨BC, 3, none⟩ = some (iV nI))) (h6 : DiesA Pg 43 [.bool false] σB (.iface 88 (.agg ⟨[]⟩)) σB) (h7 : effOp Pg (evL [.pointer (some ⟨BA, 0, none⟩), .agg ⟨rcd 0 0 0 0 0 0⟩]) ((σB.row [] 0).own σB.q [] 0) (.store 40 (.tmp 0) (.tmp 1)) = some (undef, σIB)) (h8 : effOp Pg (evL [.pointer (some ⟨BB, 0, none⟩), .bool false]) σIB (.store 4 (.tmp 0) (.tmp 1)) = some (undef, σX)) (h9 : loadA Pg σX 40 ⟨BA, 0, none⟩ = some (.agg ⟨rcd nHB nIB nBJ nJB nKB nAB⟩)) (h10 : loadA Pg σX 4 ⟨BB, 0, none⟩ = some (.bool bG)) (nx : Q (.tuple ⟨[.agg ⟨rcd nHB nIB nBJ nJB nKB nAB⟩, .bool bG]⟩) σX) (u1 : -9223372036854775808 ≤ ((lD : Nat) : Int) - 1 ∧ ((lD : Nat) : Int) - 1 ≤ 9223372036854775807 := by omega) (b_BC : BC < σ.q := by omega) : rcrd_K1_0 BA BB q1 l1 c1 BD BC σ Q :=
 fun g => ⟨[.die, .i, .l (iV nI), .c (.slice qL lD cJ) σB, .g, .n (((lD : Nat) : Int) - 1), .c (.bool false) σB, .dx (.iface 88 (.agg ⟨[]⟩)) σB, .g, .g, .g, .g, .g, .g, .g, .g, .e undef ((σB.row [] 0).own σB.q [] 0), .g, .g, .g, .g, .e undef σIB, .e undef σX, .l (.agg ⟨rcd nHB nIB nBJ nJB nKB nAB⟩), .l (.bool bG)], kc (by kernel_rfl) (ai (tt : true = true) (ai (⟨by decide, by decide⟩ : idxOk 3 6) (ai h1 (ai h2 (ai (wrap64 (n := ((lD : Nat) : Int) - 1) u1.1 u1.2) (ai h3 (ai ((belowL_cons (belowB_ptr b_BC) belowL_nil) : belowL σ.q [.pointer (some ⟨BC, 3, none⟩)]) (ai h4 (ai (⟨⟨b_BC, rfl⟩, h1⟩ : (((⟨BC, 3, none⟩ : Addr).block < σ.q ∧ goodB RD (iV nI) = true) ∧ loadA Pg σ 3 ⟨BC, 3, none⟩ = some (iV nI))) (ai h5 (ai h6 (ai ((own_new _ _ _).store (vs := []) rfl size88 rfl (by first | (simp; done) | (simp; omega)) rfl : effOp Pg (evL [.pointer (some ⟨σB.q, 0, none⟩), .agg ⟨[]⟩]) (σB.row [] 0) (.store 88 (.tmp 0) (.tmp 1)) = some (undef, ((σB.row [] 0).own σB.q [] 0))) (ai h7 (ai h8 (ai h9 (ai h10 nx))))))))))))))))⟩
end
abbrev nilR : Rec := ⟨0, 0, 0, 0, 0, 0⟩
abbrev recA (bs : List Int) : Value := .tuple ⟨[recV ((recP bs).getD nilR), .bool (recP bs).isSome]⟩
structure J (σ0 s : St) (n B3 B4 : Nat) (q : Option Addr) (m d : Nat) (out r L : List Int) : Prop where
 nw : New σ0 s
 o1 : Own s n (recL nilR) 6
 o2 : Own s (n + 1) [.bool false] 1
 inp : InP s B3 r
 o4 : Own s B4 (L.map intV) 1
 bs : BS s q m d out
 eq : σ0.q = n
 l3 : n + 1 < B3
 l4 : B3 < B4
 at_ : ∀ k, AtP q k → n + 1 < k ∧ k < B3
section
variable {σ0 s s' : St} {n B3 B4 m d : Nat} {q : Option Addr} {out r r' L L' : List Int}
theorem J.num (h : J σ0 s n B3 B4 q m d out r L) (k : Only (· = B3) s s') (i : InP s' B3 r') : J σ0 s' n B3 B4 q m d out r' L := by
 have hl3 := h.l3
 have hl4 := h.l4
 have he := h.eq
 exact ⟨h.nw.of_only k fun b hb => by have hb : b = B3 := hb; omega, k.own' h.o1 (fun e => by have e : n = B3 := e; omega), k.own' h.o2 (fun e => by have e : n + 1 = B3 := e; omega), i, k.own' h.o4 (fun e => by have e : B4 = B3 := e; omega), h.bs.only k (fun b hb e => by have := (h.at_ b hb).2; have e : b = B3 := e; omega), he, hl3, hl4, h.at_⟩
theorem J.set (h : J σ0 s n B3 B4 q m d out r L) : J σ0 (s.own B4 (L'.map intV) 1) n B3 B4 q m d out r L' := by
 have hl3 := h.l3
 have hl4 := h.l4
 have he := h.eq
 have k : Only (· = B4) s (s.own B4 (L'.map intV) 1) := Only.own (.inr rfl)
 obtain ⟨p, l, c, o, b, hn⟩ := h.inp
 exact ⟨h.nw.of_only k fun b hb => by have hb : b = B4 := hb; omega, k.own' h.o1 (fun e => by have e : n = B4 := e; omega), k.own' h.o2 (fun e => by have e : n + 1 = B4 := e; omega), ⟨p, l, c, k.own' o (fun e => by have e : B3 = B4 := e; omega), b.only k (fun j hj e => by have := hn j hj; have e : j = B4 := e; omega), hn⟩, h.o4.put, h.bs.only k (fun b hb e => by have := (h.at_ b hb).2; have e : b = B4 := e; omega), he, hl3, hl4, h.at_⟩
theorem J.le (h : J σ0 s n B3 B4 q m d out r L) (k : New s s') : J σ0 s' n B3 B4 q m d out r L :=
 ⟨h.nw.trans k, h.o1.le k.le, h.o2.le k.le, h.inp.le k.le, h.o4.le k.le, h.bs.le k.le, h.eq, h.l3, h.l4, h.at_⟩
theorem die4 {cs : List Value} {b : Bool} (hN : New σ0 s) (he : σ0.q = n) (hl : σ0.low = n) (o1 : Own s n cs 6) (hc : cs.length = 6) (o2 : Own s (n + 1) [.bool b] 1) :
  effOp Pg (evL [.pointer (some ⟨n, 0, none⟩), .agg ⟨rcd 0 0 0 0 0 0⟩]) ((s.row [] 0).own s.q [] 0) (.store 40 (.tmp 0) (.tmp 1)) = some (undef, ((s.row [] 0).own s.q [] 0).own n (recL nilR) 6) ∧
  effOp Pg (evL [.pointer (some ⟨n + 1, 0, none⟩), .bool false]) (((s.row [] 0).own s.q [] 0).own n (recL nilR) 6) (.store 4 (.tmp 0) (.tmp 1)) = some (undef, (((s.row [] 0).own s.q [] 0).own n (recL nilR) 6).own (n + 1) [.bool false] 1) ∧
  loadA Pg ((((s.row [] 0).own s.q [] 0).own n (recL nilR) 6).own (n + 1) [.bool false] 1) 40 ⟨n, 0, none⟩ = some (.agg ⟨rcd 0 0 0 0 0 0⟩) ∧
  loadA Pg ((((s.row [] 0).own s.q [] 0).own n (recL nilR) 6).own (n + 1) [.bool false] 1) 4 ⟨n + 1, 0, none⟩ = some (.bool false) ∧
  n ≤ ((((s.row [] 0).own s.q [] 0).own n (recL nilR) 6).own (n + 1) [.bool false] 1).low := by
 have h1 := o1.lt
 have h2 := o2.lt
 have k1 : Own ((s.row [] 0).own s.q [] 0) n cs 6 := (o1.row).own (by omega)
 have k2 : Own ((s.row [] 0).own s.q [] 0) (n + 1) [.bool b] 1 := (o2.row).own (by omega)
 have k3 : Own (((s.row [] 0).own s.q [] 0).own n (recL nilR) 6) (n + 1) [.bool b] 1 := k2.own (by omega)
 have k4 : Own (((s.row [] 0).own s.q [] 0).own n (recL nilR) 6) n (recL nilR) 6 := k1.put
 have hlow : n ≤ s.low := hN.low n (by omega) (by omega)
 refine ⟨k1.store (vs := recL nilR) rfl size40 rfl (by simp [hc]) (by simp [hc]), k3.store (vs := [.bool false]) rfl size4 rfl (by simp) rfl, (k4.own (by omega)).rw.ldN agg40 size40 (k := 0) rfl rfl (by simp), (k3.put).rw.ld agg4 (k := 0) rfl, ?_⟩
 simp only [St.own_low, St.row_low]
 omega
end
section
variable {σ : St} {bs : List Int}
theorem nums_step {k : Nat} {fs : List Int} {r r' t : List Int} {n : Int} {N : Nat} (h : numsP N t = (numsP (k + 1) r).map fun p => (fs ++ p.1, p.2)) (e : numP r 0 1 = some (n, r')) : numsP N t = (numsP k r').map fun p => ((fs ++ [n]) ++ p.1, p.2) := by
 have e2 : numsP (k + 1) r = (numsP k r').map fun p => (n :: p.1, p.2) := by rw [numsP, e]
 rw [h, e2]
 cases numsP k r' <;> simp
theorem kinds_b {b : Nat} (o : Own σ b kindL 1) : belowL σ.q [.slice (some ⟨b, 0, none⟩) 3 3] := belowL_cons (belowB_sl1 o.lt) belowL_nil
theorem rcrd_c {p : Option Addr} {l c : Nat} (h : BS σ p l c bs) (hb : Bts bs) (hl : l ≤ 1073741823) : CallsA Pg 22 [.slice p l c] σ (recA bs) σ := by
 refine RunsQ.pure (v := recA bs) ?_ rfl
 have hN0 : New σ.re ((σ.re.row (rcd 0 0 0 0 0 0) 6).row [.bool false] 1) := (New.row _ _ _).row'
 have o1 : Own ((σ.re.row (rcd 0 0 0 0 0 0) 6).row [.bool false] 1) σ.q (recL nilR) 6 := (own_new _ _ _).row
 have o2 : Own ((σ.re.row (rcd 0 0 0 0 0 0) 6).row [.bool false] 1) (σ.q + 1) [.bool false] 1 := own_new _ _ _
 have hbl := h.leng
 rcases plain_c ((h.le (le0 σ)).le hN0.le) hb hl with ⟨out, q, d, σ2, e1, k1, n1, b1, f1⟩ | ⟨e1, k1⟩
 rotate_left
 ·refine rcrd_rc k1 ⟨by simp [recA, recP, e1], ?_⟩
  have := (die4 hN0 rfl rfl o1 rfl o2).2.2.2.2
  exact this
 have ho := plainP_bts _ _ (Nat.le_refl _) hb out e1
 have N2 : New σ.re σ2 := hN0.trans n1
 have hn2 : σ.q + 2 ≤ σ2.q := n1.nx
 have hN3 : New σ.re (σ2.row [.slice q out.length d] 1) := N2.row'
 have n3 : New σ2 (σ2.row [.slice q out.length d] 1) := New.row _ _ _
 have i3 : InP (σ2.row [.slice q out.length d] 1) σ2.q out := ⟨q, out.length, d, own_new _ _ _, b1.le n3.le, fun k hk => b1.lt k hk⟩
 have p1 : Own (σ2.row [.slice q out.length d] 1) σ.q (recL nilR) 6 := (o1.le n1.le).le n3.le
 have p2 : Own (σ2.row [.slice q out.length d] 1) (σ.q + 1) [.bool false] 1 := (o2.le n1.le).le n3.le
 cases out with
 | nil =>
  obtain ⟨g1, g2, g3, g4, g5⟩ := die4 hN3 rfl rfl p1 rfl p2
  exact rcrd_rb k1 (next_d i3) g1 g2 g3 g4 ⟨by simp [recA, recP, e1, recC], g5⟩
 | cons x t =>
  obtain ⟨σ4, k4, w4, _, i4⟩ := next_l i3
  have hn4 : σ2.q + 1 ≤ σ4.q := w4.q
  have n5 : New σ4 (σ4.row (ints6 0 0 0 0 0 0) 1) := New.row _ _ _
  have hat : ∀ k, AtP q k → σ.q + 1 < k ∧ k < σ2.q := fun k hk => ⟨by have : σ.q + 2 ≤ k := f1 k hk; omega, b1.lt k hk⟩
  have N4 : New σ.re σ4 := hN3.of_only w4 fun b hb => by have hb : b = σ2.q := hb; show σ.q ≤ b; omega
  have J0 : J σ.re (σ4.row (ints6 0 0 0 0 0 0) 1) σ.q σ2.q σ4.q q (x :: t).length d (x :: t) t [0, 0, 0, 0, 0, 0] :=
   ⟨N4.trans n5, (w4.own' p1 (fun e => by have e : σ.q = σ2.q := e; omega)).le n5.le, (w4.own' p2 (fun e => by have e : σ.q + 1 = σ2.q := e; omega)).le n5.le, i4.le n5.le, own_new _ _ _, ((b1.le n3.le).only w4 (fun b hb e => by have := (hat b hb).2; have e : b = σ2.q := e; omega)).le n5.le, rfl, by omega, by omega, hat⟩
  refine rcrd_ra k1 k4 (Pd := fun s => recP bs = none ∧ New σ.re s ∧ Own s σ.q (recL nilR) 6 ∧ Own s (σ.q + 1) [.bool false] 1)
   (P0 := fun s => ∃ fs r, fs.length = 6 ∧ numsP 6 t = some (fs, r) ∧ J σ.re s σ.q σ2.q σ4.q q (x :: t).length d (x :: t) r fs)
   (rcrd_loop1 (Inv := fun k i s => ∃ (j : Nat) (fs r : List Int), i = (j : Int) ∧ j + k = 6 ∧ fs.length = j ∧ Bts r ∧ (numsP 6 t = (numsP (6 - j) r).map fun p => (fs ++ p.1, p.2)) ∧ J σ.re s σ.q σ2.q σ4.q q (x :: t).length d (x :: t) r (fs ++ List.replicate (6 - j) 0)) ?_ 6 0 _ ⟨0, [], t, rfl, rfl, rfl, ho.tl, by cases numsP 6 t <;> rfl, J0⟩) ?_ ?_
  ·rintro k i s ⟨j, fs, r, rfl, hk, hf, hr, hnum, hJ⟩
   by_cases hj : j < 6
   rotate_left
   ·have : j = 6 := by omega
    subst this
    exact rcrd_s1c ⟨fs, r, hf, by rw [hnum]; simp [numsP], by simpa using hJ⟩ (by omega)
   have e6 : 6 - j = (6 - (j + 1)) + 1 := by omega
   rw [e6] at hnum hJ
   rcases rnum_c hJ.inp hr with ⟨n, r', s', g1, g2, g3, g4⟩ | ⟨s', g1, g2, g3⟩
   ·have hJ' := hJ.num g3 g4
    have hlen : (List.map intV (fs ++ List.replicate (6 - (j + 1) + 1) 0)).length = 6 := by simp [hf]; omega
    have hset : (List.map intV (fs ++ List.replicate (6 - (j + 1) + 1) 0)).take (0 + Int.toNat (j : Int) * 1) ++ ([intV n] ++ (List.map intV (fs ++ List.replicate (6 - (j + 1) + 1) 0)).drop (0 + Int.toNat (j : Int) * 1 + 1)) = List.map intV ((fs ++ [n]) ++ List.replicate (6 - (j + 1)) 0) := by
     rw [show 0 + Int.toNat (j : Int) * 1 = fs.length by simp [hf]]
     rw [List.map_append, List.take_left' (by simp), List.drop_append]
     simp [List.replicate_succ]
    have st := hJ'.o4.store (k := 0 + Int.toNat (j : Int) * 1) (t := 3) (v := intV n) (vs := [intV n]) rfl size3 rfl (by rw [hlen]; simp; omega) hset
    exact rcrd_s1a g2 st ⟨k - 1, by omega, j + 1, fs ++ [n], r', by omega, by omega, by simp [hf], numP_bts hr n r' g1, nums_step hnum g1, hJ'.set⟩ (by omega) (by omega) (by omega)
   ·refine rcrd_s1b g2 ⟨?_, ?_⟩ (by omega)
    ·have e2 : numsP (6 - (j + 1) + 1) r = none := by rw [numsP, g1]
     rw [e2] at hnum
     simp [recP, e1, recC, hnum]
    ·have he := hJ.l3
     exact ⟨hJ.nw.of_only g3 fun b hb => by have hb : b = σ2.q := hb; show σ.q ≤ b; omega, g3.own' hJ.o1 (fun e => by have e : σ.q = σ2.q := e; omega), g3.own' hJ.o2 (fun e => by have e : σ.q + 1 = σ2.q := e; omega)⟩
  ·rintro s ⟨hn, hN, p1, p2⟩
   obtain ⟨g1, g2, g3, g4, g5⟩ := die4 hN rfl rfl p1 rfl p2
   exact rcrd_t1xda g1 g2 g3 g4 ⟨by simp [recA, hn], g5⟩
  ·rintro s ⟨fs, r, hf, hnum, hJ⟩
   match fs, hf with
   | [a, b, c', d', e, f], _ =>
   have hrec : recP bs = recOf (x :: t) [a, b, c', d', e, f] := by simp [recP, e1, recC, hnum]
   obtain ⟨kb, s5, k5, n5, o5⟩ := kinds_c (σ := s)
   have J5 := hJ.le n5
   have ld : ∀ (k : Nat) (v : Int), [a, b, c', d', e, f][k]? = some v → loadA Pg s5 3 ⟨σ4.q, k, none⟩ = some (iV v) := fun k v hv => J5.o4.rw.ld agg3 (k := k) (by simp only [List.getElem?_map, hv]; rfl)
   have kw := within_c (σ := s5) (n := d') (lo := 0) (hi := ((3 : Nat) : Int) - 1)
   by_cases hd : 0 ≤ d' ∧ d' ≤ 2
   rotate_left
   ·have hno : recP bs = none := by rw [hrec, recOf, if_neg (fun h => hd h.1)]
    rw [show inB d' 0 (((3 : Nat) : Int) - 1) = false from inB_false.2 (by omega)] at kw
    obtain ⟨g1, g2, g3, g4, g5⟩ := die4 J5.nw rfl rfl J5.o1 rfl J5.o2
    exact rcrd_t1x0d (hJ.o4.rw.ld agg3 (k := 3) rfl) k5 kw (kinds_b o5) ⟨⟨J5.o4.lt, rfl⟩, ld 3 d' rfl⟩ ask_d g1 g2 g3 g4 ⟨by simp [recA, hno], g5⟩ (by omega) hJ.o4.lt
   rw [show inB d' 0 (((3 : Nat) : Int) - 1) = true from inB_iff.2 (by omega)] at kw
   have hd8 : wrapK .u8 d' = d' := by rw [wrap8]; omega
   have q1 : Own (s5.own σ.q (recL ⟨a, b, c', d', e, f⟩) 6) σ.q (recL ⟨a, b, c', d', e, f⟩) 6 := J5.o1.put
   have st1 := J5.o1.store (t := 40) (v := recV ⟨a, b, c', d', e, f⟩) (vs := recL ⟨a, b, c', d', e, f⟩) (k := 0) rfl size40 rfl (by simp) (ds := recL ⟨a, b, c', d', e, f⟩) rfl
   have w6 : Only (· = σ.q) s5 (s5.own σ.q (recL ⟨a, b, c', d', e, f⟩) 6) := Only.own (.inr rfl)
   have N6 : New σ.re (s5.own σ.q (recL ⟨a, b, c', d', e, f⟩) 6) := J5.nw.own (Nat.le_refl _)
   have q2 : Own (s5.own σ.q (recL ⟨a, b, c', d', e, f⟩) 6) (σ.q + 1) [.bool false] 1 := J5.o2.own (by omega)
   have b6 := J5.bs.only w6 (fun k hk e => by have := (hat k hk).1; have e : k = σ.q := e; omega)
   have ld6 : loadA Pg (s5.own σ.q (recL ⟨a, b, c', d', e, f⟩) 6) 40 ⟨σ.q, 0, none⟩ = some (recV ⟨a, b, c', d', e, f⟩) := q1.rw.ldN agg40 size40 (k := 0) rfl rfl (by simp)
   have kv := valid_c (σ := s5.own σ.q (recL ⟨a, b, c', d', e, f⟩) 6) (x := ⟨a, b, c', d', e, f⟩) ⟨hd.1, by show d' ≤ 255; omega⟩
   have hl6 : Own (s5.own σ.q (recL ⟨a, b, c', d', e, f⟩) 6) σ4.q (List.map intV [a, b, c', d', e, f]) 1 := J5.o4.own (by have := hJ.l3; have := hJ.l4; omega)
   have guard : ((⟨σ4.q, 3, none⟩ : Addr).block < s5.q ∧ goodB RD (iV d') = true) ∧ loadA Pg s5 3 ⟨σ4.q, 3, none⟩ = some (iV d') := ⟨⟨J5.o4.lt, rfl⟩, ld 3 d' rfl⟩
   by_cases hr : rightB ⟨a, b, c', d', e, f⟩ = true
   rotate_left
   ·have hr' : rightB ⟨a, b, c', d', e, f⟩ = false := by simpa using hr
    have hno : recP bs = none := by rw [hrec, recOf, if_neg (fun h => hr h.2.1)]
    rw [hr'] at kv
    obtain ⟨g1, g2, g3, g4, g5⟩ := die4 N6 rfl rfl q1 rfl q2
    exact rcrd_t1x0c (hJ.o4.rw.ld agg3 (k := 3) rfl) k5 kw ask_t (kinds_b o5) guard (ld 0 a rfl) (ld 1 b rfl) (ld 2 c' rfl) (ld 3 d' rfl) hd8 (ld 4 e rfl) (ld 5 f rfl) st1 ld6 kv ask_d g1 g2 g3 g4 ⟨by simp [recA, hno], g5⟩ (by omega) hJ.o4.lt
   rw [hr] at kv
   obtain ⟨q7, c7, s7, k7, n7, b7, f7⟩ := content_c (σ := s5.own σ.q (recL ⟨a, b, c', d', e, f⟩) 6) hr
   have N7 := N6.trans n7
   have r1 := q1.le n7.le
   have r2 := q2.le n7.le
   have keq := bEq_c (c := c7) (d := d) b7 (b6.le n7.le).bt content_bts ho
   by_cases he : contentB ⟨a, b, c', d', e, f⟩ = x :: t
   rotate_left
   ·have hno : recP bs = none := by rw [hrec, recOf, if_neg (fun h => he h.2.2)]
    rw [decide_eq_false he] at keq
    obtain ⟨g1, g2, g3, g4, g5⟩ := die4 N7 rfl rfl r1 rfl r2
    exact rcrd_t1x0b (hJ.o4.rw.ld agg3 (k := 3) rfl) k5 kw ask_t (kinds_b o5) guard (ld 0 a rfl) (ld 1 b rfl) (ld 2 c' rfl) (ld 3 d' rfl) hd8 (ld 4 e rfl) (ld 5 f rfl) st1 ld6 kv k7 keq ask_d g1 g2 g3 g4 ⟨by simp [recA, hno], g5⟩ (by omega) hJ.o4.lt
   rw [decide_eq_true he] at keq
   have hyes : recP bs = some ⟨a, b, c', d', e, f⟩ := by rw [hrec, recOf, if_pos ⟨hd, hr, he⟩]
   have ld7 : loadA Pg s7 40 ⟨σ.q, 0, none⟩ = some (recV ⟨a, b, c', d', e, f⟩) := r1.rw.ldN agg40 size40 (k := 0) rfl rfl (by simp)
   have st2 := r1.store (t := 40) (v := recV ⟨a, b, c', d', e, f⟩) (vs := recL ⟨a, b, c', d', e, f⟩) (k := 0) rfl size40 rfl (by simp) (ds := recL ⟨a, b, c', d', e, f⟩) rfl
   have t1 : Own (s7.own σ.q (recL ⟨a, b, c', d', e, f⟩) 6) σ.q (recL ⟨a, b, c', d', e, f⟩) 6 := r1.put
   have t2 : Own (s7.own σ.q (recL ⟨a, b, c', d', e, f⟩) 6) (σ.q + 1) [.bool false] 1 := r2.own (by omega)
   have st3 := t2.store (t := 4) (v := .bool true) (vs := [.bool true]) (k := 0) rfl size4 rfl (by simp) (ds := [.bool true]) rfl
   have hlow : σ.q ≤ s7.low := N7.lw
   refine rcrd_t1x0a (hJ.o4.rw.ld agg3 (k := 3) rfl) k5 kw ask_t (kinds_b o5) guard (ld 0 a rfl) (ld 1 b rfl) (ld 2 c' rfl) (ld 3 d' rfl) hd8 (ld 4 e rfl) (ld 5 f rfl) st1 ld6 kv k7 keq ask_t ld7 st2 st3 ((t1.own (by omega)).rw.ldN agg40 size40 (k := 0) rfl rfl (by simp)) ((t2.put).rw.ld agg4 (k := 0) rfl) ⟨by simp [recA, hyes], ?_⟩ (by omega) hJ.o4.lt
   simp only [St.own_low]
   omega
end
theorem tmod_nn {c : Int} (h : 0 ≤ c) : Int.tmod c 128 = c % 128 := Int.tmod_eq_emod_of_nonneg h
theorem plainP_esc : ∀ cs : List Int, plainP (cs.flatMap escB) = some cs
 | [] => rfl
 | c :: cs => by
  have ih := plainP_esc cs
  rw [List.flatMap_cons]
  by_cases h6 : c = 126
  ·subst h6
   rw [show escB 126 = [125, 94] from rfl]
   show plainP (125 :: 94 :: cs.flatMap escB) = _
   rw [plainP, if_pos rfl, if_pos rfl, ih]; rfl
  ·by_cases h5 : c = 125
   ·subst h5
    rw [show escB 125 = [125, 93] from rfl]
    show plainP (125 :: 93 :: cs.flatMap escB) = _
    rw [plainP, if_pos rfl, if_neg (by omega), if_pos rfl, ih]; rfl
   ·rw [show escB c = [c] by unfold escB; rw [if_neg h6, if_neg h5]]
    show plainP (c :: cs.flatMap escB) = _
    rw [plainP_lit h5, ih]; rfl
theorem plainP_inv : ∀ (k : Nat) (p : List Int), p.length ≤ k → (126 : Int) ∉ p → ∀ out, plainP p = some out → p = out.flatMap escB
 | _, [], _, _, out, h => by cases h; rfl
 | 0, _ :: _, hl, _, _, _ => by simp at hl
 | k + 1, c :: r, hl, hn, out, h => by
  by_cases h5 : c = 125
  ·subst h5
   cases r with
   | nil => rw [plainP, if_pos rfl] at h; cases h
   | cons d r =>
    have hr : (126 : Int) ∉ r := fun e => hn (List.mem_cons_of_mem _ (List.mem_cons_of_mem _ e))
    have hlr : r.length ≤ k := by simp at hl; omega
    rw [plainP, if_pos rfl] at h
    by_cases h4 : d = 94
    ·subst h4
     rw [if_pos rfl] at h
     cases e : plainP r with
     | none => rw [e] at h; cases h
     | some o =>
      rw [e] at h; cases h
      rw [List.flatMap_cons, ← plainP_inv k r hlr hr o e]; rfl
    ·rw [if_neg h4] at h
     by_cases h3 : d = 93
     ·subst h3
      rw [if_pos rfl] at h
      cases e : plainP r with
      | none => rw [e] at h; cases h
      | some o =>
       rw [e] at h; cases h
       rw [List.flatMap_cons, ← plainP_inv k r hlr hr o e]; rfl
     ·rw [if_neg h3] at h; cases h
  ·have hc : c ≠ 126 := fun e => hn (by rw [e]; exact List.mem_cons_self)
   rw [plainP_lit h5] at h
   cases e : plainP r with
   | none => rw [e] at h; cases h
   | some o =>
    rw [e] at h; cases h
    rw [List.flatMap_cons, ← plainP_inv k r (by simp at hl; omega) (fun e => hn (List.mem_cons_of_mem _ e)) o e, show escB c = [c] by unfold escB; rw [if_neg hc, if_neg h5]]; rfl
theorem numP_numB : ∀ (k : Nat) (m u : Int) (rest : List Int), 0 ≤ m → 1 ≤ u → m + k * u < 268435456 → numP (numB k ++ rest) m u = some (m + k * u, rest) := by
 intro k
 induction k using Nat.strongRecOn with
 | _ k ih =>
  intro m u rest hm hu hk
  by_cases hs : k ≤ 127
  ·rw [numB_small hs]
   show numP ((k : Int) :: rest) m u = _
   rw [numP, tmod_nn (by omega), show (k : Int) % 128 = k by omega, if_pos hk, if_pos (by omega)]
  ·rw [numB_big (by omega)]
   have hd : (k : Int) = ((k % 128 : Nat) : Int) + 128 * ((k / 128 : Nat) : Int) := by omega
   have hp : 0 ≤ ((k % 128 : Nat) : Int) * u := Int.mul_nonneg (by omega) (by omega)
   have hq : (u * 128 : Int) ≤ ((k / 128 : Nat) : Int) * (u * 128) := by
    have := Int.mul_le_mul_of_nonneg_right (a := (1 : Int)) (b := ((k / 128 : Nat) : Int)) (c := u * 128) (by omega) (by omega)
    omega
   have he : (k : Int) * u = ((k % 128 : Nat) : Int) * u + ((k / 128 : Nat) : Int) * (u * 128) := by
    rw [hd, Int.add_mul]
    congr 1
    rw [Int.mul_comm 128, Int.mul_assoc, Int.mul_comm 128]
   have hm2 : ∀ z : Int, z = ((k % 128 : Nat) : Int) + 128 → Int.tmod z 128 = ((k % 128 : Nat) : Int) := by
    intro z hz; rw [tmod_nn (by omega)]; omega
   rw [List.cons_append, numP, hm2 _ (by omega), if_pos (by omega), if_neg (by omega), if_pos (by omega), ih (k / 128) (by omega) _ _ rest (by omega) (by omega) (by omega)]
   congr 2; omega
theorem numP_numI {n : Int} {rest : List Int} (h0 : 0 ≤ n) (h : n < 268435456) : numP (numI n ++ rest) 0 1 = some (n, rest) := by
 unfold numI
 rw [numP_numB n.toNat 0 1 rest (by omega) (by omega) (by omega)]
 congr 2; omega
theorem numsP_all : ∀ (l : List Int) (rest : List Int), (∀ n ∈ l, 0 ≤ n ∧ n < 268435456) → numsP l.length (l.flatMap numI ++ rest) = some (l, rest)
 | [], rest, _ => rfl
 | n :: l, rest, h => by
  have hn := h n List.mem_cons_self
  rw [List.flatMap_cons, List.append_assoc]
  show (match numP (numI n ++ (l.flatMap numI ++ rest)) 0 1 with | some (n, r') => (numsP l.length r').map fun (p : List Int × List Int) => (n :: p.1, p.2) | none => none) = _
  rw [numP_numI hn.1 hn.2]
  show (numsP l.length (l.flatMap numI ++ rest)).map (fun (p : List Int × List Int) => (n :: p.1, p.2)) = _
  rw [numsP_all l rest fun n hn => h n (List.mem_cons_of_mem _ hn)]
  rfl
theorem fld_bd {x : Rec} (h : rightB x = true) : ∀ n ∈ fieldsL x, 0 ≤ n ∧ n ≤ 10000000 := fun n hn => by
 have := rightB_iff h
 simp [fieldsL] at hn
 omega
theorem rightB_k {x : Rec} (h : rightB x = true) : 0 ≤ x.k ∧ x.k ≤ 2 := by
 unfold rightB at h
 simp only [Bool.and_eq_true] at h
 have h := h.2
 split at h
 ·omega
 ·split at h
  ·omega
  ·split at h
   ·omega
   ·cases h
theorem recP_yes {x : Rec} (h : rightB x = true) : recP ((contentB x).flatMap escB) = some x := by
 have hn := numsP_all (fieldsL x) [(chk (countedB x)).1, (chk (countedB x)).2] fun n hn => by have := fld_bd h n hn; omega
 unfold recP
 rw [plainP_esc]
 show recC (((bodyB x).length : Int) % 256 :: (bodyB x ++ [(chk (countedB x)).1, (chk (countedB x)).2])) = _
 show (match numsP 6 ((fieldsL x).flatMap numI ++ [(chk (countedB x)).1, (chk (countedB x)).2]) with | some (l, _) => recOf (contentB x) l | none => none) = _
 rw [show (6 : Nat) = (fieldsL x).length from rfl, hn]
 show recOf (contentB x) (fieldsL x) = _
 show (if (0 ≤ x.k ∧ x.k ≤ 2) ∧ rightB x = true ∧ contentB x = contentB x then some x else none) = _
 rw [if_pos ⟨rightB_k h, h, rfl⟩]
theorem recP_inv {p : List Int} {x : Rec} (hn : (126 : Int) ∉ p) (h : recP p = some x) : rightB x = true ∧ p = (contentB x).flatMap escB := by
 unfold recP at h
 cases e : plainP p with
 | none => rw [e] at h; cases h
 | some c =>
  rw [e] at h
  have key : rightB x = true ∧ contentB x = c := by
   cases c with
   | nil => cases h
   | cons y t =>
    simp only [recC] at h
    cases e2 : numsP 6 t with
    | none => rw [e2] at h; cases h
    | some q =>
     rw [e2] at h
     simp only at h
     unfold recOf at h
     split at h
     ·split at h
      ·rename_i hc
       cases h
       exact hc.2
      ·cases h
     ·cases h
  rw [key.2]
  exact ⟨key.1, plainP_inv _ p (Nat.le_refl _) hn c e⟩
def idxF : List Int → Int
 | [] => -1
 | c :: r => if c = 126 then 0 else if idxF r = -1 then -1 else idxF r + 1
def splitB : List Int → List (List Int)
 | [] => [[]]
 | c :: r => if c = 126 then [] :: splitB r else match splitB r with
  | p :: ps => (c :: p) :: ps
  | [] => [[c]]
theorem splitB_ne : ∀ bs : List Int, splitB bs ≠ []
 | [] => by simp [splitB]
 | c :: r => by
  unfold splitB
  split
  ·simp
  ·cases splitB r <;> simp
theorem splitB_len : ∀ bs : List Int, (splitB bs).length = bs.count 126 + 1
 | [] => rfl
 | c :: r => by
  have ih := splitB_len r
  unfold splitB
  by_cases h : c = 126
  ·subst h; rw [if_pos rfl]; simp [ih]
  ·rw [if_neg h, List.count_cons_of_ne h, ← ih]
   cases hs : splitB r with
   | nil => exact absurd hs (splitB_ne r)
   | cons p ps => rfl
theorem idxF_ge : ∀ bs : List Int, -1 ≤ idxF bs
 | [] => by simp [idxF]
 | c :: r => by
  have := idxF_ge r
  unfold idxF
  split
  ·omega
  ·split <;> omega
theorem idxF_no : ∀ {bs : List Int}, idxF bs = -1 → splitB bs = [bs] ∧ bs.count 126 = 0
 | [], _ => ⟨rfl, rfl⟩
 | c :: r, h => by
  unfold idxF at h
  split at h
  ·omega
  ·rename_i hc
   have hg := idxF_ge r
   have hr : idxF r = -1 := by
    by_cases e : idxF r = -1
    ·exact e
    ·rw [if_neg e] at h; omega
   obtain ⟨h1, h2⟩ := idxF_no hr
   refine ⟨?_, by rw [List.count_cons_of_ne hc, h2]⟩
   unfold splitB
   rw [if_neg hc, h1]
theorem idxF_yes : ∀ {bs : List Int} {m : Nat}, idxF bs = (m : Int) → m < bs.length ∧ splitB bs = bs.take m :: splitB (bs.drop (m + 1)) ∧ bs.count 126 = (bs.drop (m + 1)).count 126 + 1
 | [], m, h => by simp [idxF] at h
 | c :: r, m, h => by
  unfold idxF at h
  split at h
  ·rename_i hc
   have : m = 0 := by omega
   subst this hc
   refine ⟨by simp, by rw [splitB, if_pos rfl]; rfl, by simp⟩
  ·rename_i hc
   split at h
   ·omega
   ·have hm : idxF r = ((m - 1 : Nat) : Int) := by have := idxF_ge r; omega
    have hm1 : 1 ≤ m := by have := idxF_ge r; omega
    obtain ⟨h1, h2, h3⟩ := idxF_yes hm
    obtain ⟨k, rfl⟩ : ∃ k, m = k + 1 := ⟨m - 1, by omega⟩
    simp only [Nat.add_sub_cancel] at h1 h2 h3
    refine ⟨by simp; omega, ?_, by rw [List.count_cons_of_ne hc]; exact h3⟩
    rw [splitB, if_neg hc, h2]
    rfl
theorem ofNat126 {c : Int} (h : 0 ≤ c ∧ c ≤ 255) : (UInt8.ofNat c.toNat == ((126 : Int).toNat.toUInt8)) = decide (c = 126) := by
 by_cases e : c = 126
 ·subst e; rfl
 ·rw [decide_eq_false e, beq_eq_false_iff_ne]
  intro h2
  exact e (byte_inj h (y := 126) (by omega) h2)
theorem idx_strB : ∀ {bs : List Int}, Bts bs → Lib.indexByte (strB bs) ((126 : Int).toNat.toUInt8) = idxF bs
 | [], _ => rfl
 | c :: r, h => by
  have ih := idx_strB h.tl
  have hc := ofNat126 (h c List.mem_cons_self)
  show (if UInt8.ofNat c.toNat == _ then (0 : Int) else if Lib.indexByte (strB r) _ == -1 then -1 else Lib.indexByte (strB r) _ + 1) = _
  rw [hc, ih, show idxF (c :: r) = if c = 126 then 0 else if idxF r = -1 then -1 else idxF r + 1 from rfl]
  by_cases e : c = 126
  ·simp [e]
  ·by_cases e2 : idxF r = -1 <;> simp [e, e2]
theorem cnt_strB : ∀ {bs : List Int}, Bts bs → (strB bs).count ((126 : Int).toNat.toUInt8) = bs.count 126
 | [], _ => rfl
 | c :: r, h => by
  have ih := cnt_strB h.tl
  have hc := ofNat126 (h c List.mem_cons_self)
  show (UInt8.ofNat c.toNat :: strB r).count _ = _
  rw [List.count_cons, ih, hc, List.count_cons]
  simp
section
variable {σ τ : St} {bs : List Int} {p : Option Addr} {l c : Nat}
theorem bytesV_bs (h : BytesP σ p l bs) : bytesV σ (.slice p l c) = some (strB bs) := by
 have hl := BytesP.len h
 cases p with
 | none =>
  have h0 : l = 0 := h.1.2
  subst h0
  have : bs = [] := List.eq_nil_of_length_eq_zero hl
  subst this
  rfl
 | some a =>
  have hr := h.1.2
  rw [flatB] at hr
  have hrd := hr.rd
  rw [List.length_map, hl] at hrd
  unfold bytesV
  simp only [hrd, bytesA_map]
theorem ext_cnt : extR Tryd.prog σ (.func 94) [.slice p l c, .int .u8 126] = (match bytesV σ (.slice p l c) with
  | some bs => some (goInt ((ByteArray.mk ⟨bs⟩).foldl (fun n x => if x == (126 : Int).toNat.toUInt8 then n + 1 else n) (0 : Nat)))
  | none => none) := by kernel_rfl
theorem ext_idx : extR Tryd.prog σ (.func 106) [.slice p l c, .int .u8 126] = (match bytesV σ (.slice p l c) with
  | some bs => (match (List.range (ByteArray.mk ⟨bs⟩).size).find? fun i => (ByteArray.mk ⟨bs⟩)[i]! == (126 : Int).toNat.toUInt8 with
   | some i => some (goInt i)
   | none => some (goInt (-1)))
  | none => none) := by kernel_rfl
theorem cnt_c (h : BytesP σ p l bs) (hb : Bts bs) : extR Tryd.prog σ (.func 94) [.slice p l c, .int .u8 126] = some (iV (bs.count 126 : Nat)) := by
 rw [ext_cnt, bytesV_bs h]
 show some (goInt _) = _
 have k := Lib.foldl_data (fun (n : Int) x => if x == (126 : Int).toNat.toUInt8 then n + 1 else n) ((0 : Nat) : Int) (ByteArray.mk ⟨strB bs⟩)
 rw [k, Lib.count_foldl]
 show some (Value.int .i64 (((0 : Nat) : Int) + ((strB bs).count _ : Nat))) = _
 rw [cnt_strB hb]
 simp
theorem idx_c (h : BytesP σ p l bs) (hb : Bts bs) : extR Tryd.prog σ (.func 106) [.slice p l c, .int .u8 126] = some (iV (idxF bs)) := by
 rw [ext_idx, bytesV_bs h]
 have k := Lib.firstIdx_eq (ByteArray.mk ⟨strB bs⟩) ((126 : Int).toNat.toUInt8)
 have k2 : Lib.indexByte (ByteArray.mk ⟨strB bs⟩).data.toList ((126 : Int).toNat.toUInt8) = idxF bs := idx_strB hb
 rw [k2] at k
 unfold firstIdx at k
 simp only
 split at k
 ·rename_i i hi; simp only [hi]; rw [← k]; rfl
 ·rename_i hi; simp only [hi]; rw [← k]; rfl
theorem bIdxB_c (h : BytesP σ p l bs) (hb : Bts bs) : CallsA Tryd.prog 95 [.slice p l c, .int .u8 126] σ (iV (idxF bs)) σ :=
 (bIdxB_ra ⟨idx_c (SlV.le h (le0 σ)) hb, rfl⟩ ⟨rfl, Nat.le_refl _⟩).pure
theorem bIdx_c {a : Addr} {d : Nat} (hs : Row σ a [byV 126]) (h : BytesP σ p l bs) (hb : Bts bs) : CallsA Tryd.prog 78 [.slice p l c, .slice (some a) 1 d] σ (iV (idxF bs)) σ :=
 (bIdx_ra (hs.re.ld1 agg5) (bIdxB_c (SlV.le h (le0 σ)) hb) ⟨rfl, Nat.le_refl _⟩).pure
theorem bCnt_c {a : Addr} {d : Nat} (hs : Row σ a [byV 126]) (h : BytesP σ p l bs) (hb : Bts bs) : CallsA Tryd.prog 77 [.slice p l c, .slice (some a) 1 d] σ (iV (bs.count 126 : Nat)) σ :=
 (bCnt_ra (hs.re.ld1 agg5) ⟨cnt_c (SlV.le h (le0 σ)) hb, rfl⟩ ⟨rfl, Nat.le_refl _⟩).pure
end
theorem min_see {a b : Int} {σ : St} : seeOp Pg (evL [iV a, iV b]) σ (.call { callee := .builtin .min, args := ⟨tmpsTo 2⟩, argTypes := ⟨[3, 3]⟩ }) = some (iV (min a b)) := by
 have e : pureVal Pg (Builtin.min_ ⟨[3, 3]⟩ 0 ⟨[iV a, iV b]⟩) = some (iV (min a b)) := by
  rw [show min a b = if b < a then b else a by split <;> omega]
  simp only [Builtin.min_, List.foldlM, Builtin.min2]
  rfl
 have e2 : seeOp Pg (evL [iV a, iV b]) σ (.call { callee := .builtin .min, args := ⟨tmpsTo 2⟩, argTypes := ⟨[3, 3]⟩ }) =
   match ((pureVal Pg (Builtin.min_ ⟨[3, 3]⟩ 0 ⟨[iV a, iV b]⟩)).filter (rigidB RD)) with | some v => some v | none => lookOp Pg (evL [iV a, iV b]) σ (.call { callee := .builtin .min, args := ⟨tmpsTo 2⟩, argTypes := ⟨[3, 3]⟩ }) := rfl
 rw [e2, e]; rfl
def PcV (τ : St) (p : Option Addr) (v : Value) (pc : List Int) : Prop := ∃ q l c, v = .slice q l c ∧ BS τ q l c pc ∧ ∀ b, AtP q b → AtP p b
section
variable {σ τ τ' : St} {bs : List Int} {p : Option Addr} {l c : Nat}
theorem PcV.le {v : Value} {pc : List Int} (h : PcV τ p v pc) (k : Le τ τ') : PcV τ' p v pc := by
 obtain ⟨q, l, c, rfl, h1, h2⟩ := h
 exact ⟨q, l, c, rfl, h1.le k, h2⟩
theorem PcV.only {S : Nat → Prop} {v : Value} {pc : List Int} (h : PcV τ p v pc) (k : Only S τ τ') (hs : ∀ b, AtP p b → ¬ S b) : PcV τ' p v pc := by
 obtain ⟨q, l, c, rfl, h1, h2⟩ := h
 exact ⟨q, l, c, rfl, h1.only k fun b hb => hs b (h2 b hb), h2⟩
def PcsV (τ : St) (p : Option Addr) (vs : List Value) (pcs : List (List Int)) : Prop := ∀ (i : Nat) (pc : List Int), pcs[i]? = some pc → ∃ v, vs[i]? = some v ∧ PcV τ p v pc
theorem PcsV.le {vs : List Value} {pcs : List (List Int)} (h : PcsV τ p vs pcs) (k : Le τ τ') : PcsV τ' p vs pcs := fun i pc hi => by
 obtain ⟨v, h1, h2⟩ := h i pc hi
 exact ⟨v, h1, h2.le k⟩
theorem PcsV.set {S : Nat → Prop} {vs : List Value} {pcs : List (List Int)} {v : Value} {pc : List Int} (h : PcsV τ p vs pcs) (k : Only S τ τ') (hs : ∀ b, AtP p b → ¬ S b) (hv : PcV τ p v pc) (hl : pcs.length < vs.length) : PcsV τ' p (vs.set pcs.length v) (pcs ++ [pc]) := fun i x hi => by
 rcases Nat.lt_trichotomy i pcs.length with e | e | e
 ·rw [List.getElem?_append_left e] at hi
  obtain ⟨v', h1, h2⟩ := h i x hi
  exact ⟨v', by rw [List.getElem?_set_ne (by omega)]; exact h1, h2.only k hs⟩
 ·subst e
  simp at hi; subst hi
  exact ⟨v, by simp [hl], hv.only k hs⟩
 ·rw [List.getElem?_append_right (by omega)] at hi
  have : i - pcs.length ≠ 0 := by omega
  cases hj : i - pcs.length with
  | zero => omega
  | succ j => rw [hj] at hi; simp at hi
theorem set_row {vs : List Value} {j : Nat} {v : Value} (hj : j < vs.length) : vs.take (0 + Int.toNat (j : Int) * 1) ++ ([v] ++ vs.drop (0 + Int.toNat (j : Int) * 1 + 1)) = vs.set j v := by
 rw [show 0 + Int.toNat (j : Int) * 1 = j by simp, List.set_eq_take_append_cons_drop, if_pos hj]
 rfl
theorem genSp_c {a : Addr} {d : Nat} (hs : Row σ a [byV 126]) (h : BS σ p l c bs) (hb : Bts bs) (hl : l ≤ 1073741000) :
  ∃ B vs c' σ', CallsA Pg 60 [.slice p l c, .slice (some a) 1 d, iV 0, iV (-1)] σ (.slice (some ⟨B, 0, none⟩) (splitB bs).length c') σ' ∧ New σ σ' ∧ Own σ' B vs 1 ∧ vs.length = (splitB bs).length ∧ PcsV σ' p vs (splitB bs) ∧ σ.q ≤ B := by
 have hbl := h.leng
 have hcl : bs.count 126 ≤ bs.length := List.count_le_length
 have hsl := splitB_len bs
 have hpl : ∀ b, AtP p b → b < σ.q := h.lt
 suffices hmain : RunsQ Pg 60 [.slice p l c, .slice (some a) 1 d, iV 0, iV (-1)] σ.re fun v s => New σ.re s ∧ ∃ B vs c', v = .slice (some ⟨B, 0, none⟩) (splitB bs).length c' ∧ Own s B vs 1 ∧ vs.length = (splitB bs).length ∧ PcsV s p vs (splitB bs) ∧ σ.q ≤ B by
  obtain ⟨v, σ', g1, g2, B, vs, c', rfl, g3, g4, g5, g6⟩ := RunsQ.new hmain (by
   rintro v s s' ⟨B, vs, c', rfl, g3, g4, g5, g6⟩ hle
   exact ⟨B, vs, c', rfl, g3.le hle, g4, g5.le hle, g6⟩) (by
   rintro v s hr ⟨B, vs, c', rfl, _⟩
   exact Bool.noConfusion (show false = true from hr))
  exact ⟨B, vs, c', σ', g1, g2, g3, g4, g5, g6⟩
 have hmin : min (((bs.count 126 : Nat) : Int) + 1) ((l : Nat) + 1 : Int) = ((bs.count 126 + 1 : Nat) : Int) := by omega
 have see := min_see (σ := σ.re) (a := ((bs.count 126 : Nat) : Int) + 1) (b := ((l : Nat) : Int) + 1)
 rw [hmin] at see
 have mk := make_sl (P := Pg) (σ := σ.re) (st := 85) (e := 22) (z := .slice none 0 0) (n := 1) (by kernel_rfl) (by kernel_rfl) (len := bs.count 126 + 1) (by omega)
 have hk : ((bs.count 126 + 1 : Nat) : Int) - 1 = ((bs.count 126 : Nat) : Int) := by omega
 let F : (Option Addr) → Nat → Nat → Nat → List (List Int) → List Int → St → Prop := fun p0 l0 c0 j done rest s => ∃ vs, done.length = j ∧ BS s p0 l0 c0 rest ∧ Bts rest ∧ rest.length ≤ bs.length ∧ (∀ b, AtP p0 b → AtP p b) ∧ New σ.re s ∧ Own s σ.q vs 1 ∧ vs.length = bs.count 126 + 1 ∧ PcsV s p vs done ∧ splitB bs = done ++ splitB rest ∧ rest.count 126 + j = bs.count 126
 refine genSp_ra (bCnt_c hs.re (SlV.le h.bt (le0 σ)) hb) see mk (P0 := fun p0 l0 c0 i s => ∃ rest done, i = ((bs.count 126 : Nat) : Int) ∧ F p0 l0 c0 (bs.count 126) done rest s) ?_ ?_ (by omega) (by omega) (by omega)
 ·rw [hk]
  refine genSp_loop1 (Inv := fun k p0 l0 c0 i s => ∃ (j : Nat) (done : List (List Int)) (rest : List Int), i = (j : Int) ∧ k = rest.count 126 ∧ F p0 l0 c0 j done rest s) ?_ (bs.count 126) p l c 0 _ ⟨0, [], bs, rfl, rfl, zerosA [.slice none 0 0] (bs.count 126 + 1), rfl, (h.le (le0 σ)).le (Le.row _ _ _), hb, Nat.le_refl _, fun _ hb => hb, New.row _ _ _, own_new _ _ _, by rw [zerosA_len]; simp, fun i pc hi => by simp at hi, rfl, rfl⟩
  rintro k p0 l0 c0 i s ⟨j, done, rest, rfl, rfl, vs, hd, hB, hr, hrl, hat, hN, ho, hvl, hP, hsp, hcnt⟩
  by_cases hj : j < bs.count 126
  rotate_left
  ·have : j = bs.count 126 := by omega
   subst this
   exact genSp_s1c ⟨rest, done, rfl, vs, hd, hB, hr, hrl, hat, hN, ho, hvl, hP, hsp, hcnt⟩ (by omega)
  have hL := hB.leng
  have hge := idxF_ge rest
  have hne : idxF rest ≠ -1 := fun e => by have := (idxF_no e).2; omega
  obtain ⟨m, hm⟩ : ∃ m : Nat, idxF rest = (m : Int) := ⟨(idxF rest).toNat, by omega⟩
  obtain ⟨m1, m2, m3⟩ := idxF_yes hm
  have ki := bIdx_c (c := c0) (d := d) (hs.re.le hN.le) hB.bt hr
  rw [hm] at ki
  obtain ⟨q, k2, b2, f2⟩ := hB.take3 (k := m) (by omega) (by omega) (by omega)
  have st := ho.store (P := Pg) (t := 22) (v := .slice q m m) (vs := [.slice q m m]) (k := 0 + Int.toNat (j : Int) * 1) rfl size22 rfl (by simp [hvl]; omega) (set_row (by omega))
  have w : Only (· = σ.q) s (s.own σ.q (vs.set j (.slice q m m)) 1) := Only.own (.inr rfl)
  have hS : ∀ b, AtP p b → ¬ (b = σ.q) := fun b hb e => by have := hpl b hb; omega
  have B' := hB.only w (fun b hb => hS b (hat b hb))
  obtain ⟨q', c', k4, b4, f4⟩ := B'.drop (k := m + 1) (by omega) (by omega)
  have hP' := hP.set w hS (pc := rest.take m) ⟨q, m, m, rfl, b2, fun b hb => hat b (f2 b hb)⟩ (by omega)
  rw [hd] at hP'
  refine genSp_s1b ki (by rw [Int.add_zero]; exact k2) st (by rw [show (m : Int) + 1 = ((m + 1 : Nat) : Int) by omega]; exact k4) ⟨(rest.drop (m + 1)).count 126, by omega, j + 1, done ++ [rest.take m], rest.drop (m + 1), by omega, rfl, vs.set j (.slice q m m), by simp [hd], b4, fun x hx => hr x (List.mem_of_mem_drop hx), by simp; omega, fun b hb => hat b (f4 b hb), hN.own (Nat.le_refl _), ho.put, by simp [hvl], hP', by rw [hsp, m2]; simp, by omega⟩ (by omega) (by omega) (by omega) (by omega) (by omega) (by omega)
 ·rintro p0 l0 c0 i s ⟨rest, done, rfl, vs, hd, hB, hr, hrl, hat, hN, ho, hvl, hP, hsp, hcnt⟩
  have h0 : rest.count 126 = 0 := by omega
  have hone : splitB rest = [rest] := by
   by_cases e : idxF rest = -1
   ·exact (idxF_no e).1
   ·have hge := idxF_ge rest
    obtain ⟨m, hm⟩ : ∃ m : Nat, idxF rest = (m : Int) := ⟨(idxF rest).toNat, by omega⟩
    have := (idxF_yes hm).2.2
    omega
  have st := ho.store (P := Pg) (t := 22) (v := .slice p0 l0 c0) (vs := [.slice p0 l0 c0]) (k := 0 + Int.toNat ((bs.count 126 : Nat) : Int) * 1) rfl size22 rfl (by simp [hvl]) (set_row (by omega))
  have w : Only (· = σ.q) s (s.own σ.q (vs.set (bs.count 126) (.slice p0 l0 c0)) 1) := Only.own (.inr rfl)
  have hS : ∀ b, AtP p b → ¬ (b = σ.q) := fun b hb e => by have := hpl b hb; omega
  have hP' := hP.set w hS (pc := rest) ⟨p0, l0, c0, rfl, hB, hat⟩ (by omega)
  rw [hd] at hP'
  have hfin : splitB bs = done ++ [rest] := by rw [hsp, hone]
  have o' : Own (s.own σ.q (vs.set (bs.count 126) (.slice p0 l0 c0)) 1) σ.q (vs.set (bs.count 126) (.slice p0 l0 c0)) 1 := ho.put
  have hx : capExact (bs.count 126 + 1) = true := ex_small (by omega)
  have hok : eszOk (s.own σ.q (vs.set (bs.count 126) (.slice p0 l0 c0)) 1) ⟨σ.q, 0, none⟩ 1 = true := by simp [eszOk, o'.get, stampOf, extOf]
  have e1 : boundA (some (iV (((bs.count 126 : Nat) : Int) + 1))) (bs.count 126 + 1) (bs.count 126 + 1) = some (bs.count 126 + 1) := bound_some (by omega) (Nat.le_refl _)
  have e2 : boundA (none : Option Value) 0 (bs.count 126 + 1) = some 0 := rfl
  have e3 : Nat.ble 0 (bs.count 126 + 1) = true := (ble_iff _ _).2 (Nat.zero_le _)
  have hq : (bif Nat.beq (bs.count 126 + 1) 0 then (⟨σ.q, 0, none⟩ : Addr) else aadd ⟨σ.q, 0, none⟩ (0 * 1)) = ⟨σ.q, 0, none⟩ := rfl
  have u85 : Pg.underlying 85 = some (.slice 22) := by kernel_rfl
  have sl : sliceA Pg (s.own σ.q (vs.set (bs.count 126) (.slice p0 l0 c0)) 1) 85 (.slice (some ⟨σ.q, 0, none⟩) (bs.count 126 + 1) (bs.count 126 + 1)) none (some (iV (((bs.count 126 : Nat) : Int) + 1))) none = some (.slice (some ⟨σ.q, 0, none⟩) (bs.count 126 + 1) (bs.count 126 + 1)) := by
   simp only [sliceA, u85, size22, hok, cond_true, sliceNums, capLow_ex hx, e1, e2, e3, hx, Bool.or_true, hq, Nat.sub_zero]
  rw [hk]
  refine genSp_t1x0a (q4_a := ⟨σ.q, 0, none⟩) st sl ⟨hN.own (Nat.le_refl _), σ.q, vs.set (bs.count 126) (.slice p0 l0 c0), bs.count 126 + 1, by rw [hsl], o', by simp [hvl, hsl], by rw [hfin]; exact hP', Nat.le_refl _⟩ (by omega) (by omega)
theorem split_c {a : Addr} {d : Nat} (hs : Row σ a [byV 126]) (h : BS σ p l c bs) (hb : Bts bs) (hl : l ≤ 1073741000) :
  ∃ B vs c' σ', CallsA Pg 38 [.slice p l c, .slice (some a) 1 d] σ (.slice (some ⟨B, 0, none⟩) (splitB bs).length c') σ' ∧ New σ σ' ∧ Own σ' B vs 1 ∧ vs.length = (splitB bs).length ∧ PcsV σ' p vs (splitB bs) ∧ σ.q ≤ B := by
 obtain ⟨B, vs, c', s, g1, g2, g3, g4, g5, g6⟩ := genSp_c (d := d) hs.re (h.le (le0 σ)) hb hl
 obtain ⟨v, σ', g1, g2, B, vs, c', rfl, g3, g4, g5, g6⟩ := RunsQ.new (Q := fun v s => ∃ B vs c', v = .slice (some ⟨B, 0, none⟩) (splitB bs).length c' ∧ Own s B vs 1 ∧ vs.length = (splitB bs).length ∧ PcsV s p vs (splitB bs) ∧ σ.q ≤ B) (split_ra g1 ⟨g2, B, vs, c', rfl, g3, g4, g5, g6⟩) (by
   rintro v s s' ⟨B, vs, c', rfl, g3, g4, g5, g6⟩ hle
   exact ⟨B, vs, c', rfl, g3.le hle, g4, g5.le hle, g6⟩) (by
   rintro v s hr ⟨B, vs, c', rfl, _⟩
   exact Bool.noConfusion (show false = true from hr))
 exact ⟨B, vs, c', σ', g1, g2, g3, g4, g5, g6⟩
end
section
variable {l l2 c2 lA cA l1 c1 : Nat} {q2 qA q1 : Option Addr} {Inv : Nat → Int → St → Prop} {Qr Q0 Pr P0 : St → Prop} {i9_1 : Int} {q2_a v0 : Addr} {σD σ σ3 : St} {Nx : Int → St → Prop} {Q : Value → St → Prop}
noncomputable def pcs1_c1 : Code := (Code.part [1, 0, 0] (bodyOf Pg 37))
def pcs1_l1 (l : Nat) (q2 : Option Addr) (l2 c2 : Nat) (i9_1 : Int) : List (Nat × Value) := [(0, .func (.yield l) ⟨[]⟩ ⟨[]⟩), (7, .slice q2 l2 c2), (8, iV ((l2 : Nat) : Int)), (9, iV i9_1)]
def pcs1_a1n (l : Nat) (q2 : Option Addr) (l2 c2 : Nat) (Q : Int → St → Prop) : Alt := ⟨Int, .normal, fun t => pcs1_l1 l q2 l2 c2 t, fun t => [], fun t σ => Q t σ⟩
def pcs1_l1xr (l : Nat) (q2 : Option Addr) (l2 c2 : Nat) : List (Nat × Value) := []
def pcs1_a1xr (l : Nat) (q2 : Option Addr) (l2 c2 : Nat) (Q : St → Prop) : Alt := ⟨Unit, .ret, fun t => pcs1_l1xr l q2 l2 c2, fun t => [], fun t σ => Q σ⟩
def pcs1_l1x0 (l : Nat) (q2 : Option Addr) (l2 c2 : Nat) : List (Nat × Value) := []
def pcs1_a1x0 (l : Nat) (q2 : Option Addr) (l2 c2 : Nat) (Q : St → Prop) : Alt := ⟨Unit, (.exit 0), fun t => pcs1_l1x0 l q2 l2 c2, fun t => [], fun t σ => Q σ⟩
def pcs1_B1 (l : Nat) (q2 : Option Addr) (l2 c2 : Nat) (i9_1 : Int) (σ : St) (Nx : Int → St → Prop) (Qr : St → Prop) (Q0 : St → Prop) : Prop := BodyG Pg (runA Pg) none pcs1_c1 26 (pcs1_l1 l q2 l2 c2 i9_1) [] [pcs1_a1n l q2 l2 c2 Nx, pcs1_a1xr l q2 l2 c2 Qr, pcs1_a1x0 l q2 l2 c2 Q0] σ
def pcs1_L1 (l : Nat) (q2 : Option Addr) (l2 c2 : Nat) (i9_1 : Int) (σ : St) (Qr : St → Prop) (Q0 : St → Prop) : Prop := LoopG Pg (runA Pg) none pcs1_c1 26 (pcs1_l1 l q2 l2 c2 i9_1) [] [pcs1_a1xr l q2 l2 c2 Qr, pcs1_a1x0 l q2 l2 c2 Q0] σ
theorem pcs1_loop1 (hb : ∀ k i9_1 σ, Inv k i9_1 σ → pcs1_B1 l q2 l2 c2 i9_1 σ (fun i9_1' σ' => ∃ k', k' < k ∧ Inv k' i9_1' σ') Qr Q0) : ∀ k i9_1 σ, Inv k i9_1 σ → pcs1_L1 l q2 l2 c2 i9_1 σ Qr Q0 :=
 fun k i9_1 σ h => loopG_inv (alts := [pcs1_a1xr l q2 l2 c2 Qr, pcs1_a1x0 l q2 l2 c2 Q0]) (T := Int) (lf := fun t => pcs1_l1 l q2 l2 c2 t) (mf := fun t => []) (Inv := fun k t σ => Inv k t σ) (ai retNe (ai (exNe 0) trivial)) (fun k t σ h => hb k t σ h) k i9_1 σ h
theorem pcs1_s1a (h1 : loadA Pg σ 22 (aadd q2_a (Int.toNat i9_1 * 1)) = some (.slice qA lA cA)) (h2 : CallsY Pg l [.bool true, .slice qA lA cA] σ (.bool true) σD) (nx : Nx (i9_1 + 1) σD) (u1 : i9_1 < ((l2 : Nat) : Int) := by omega) (u2 : 0 ≤ i9_1 ∧ i9_1 < ((l2 : Nat) : Int) := by omega) (u3 : 0 < ((lA : Nat) : Int) := by omega) (u4 : 0 < i9_1 := by omega) (u5 : -9223372036854775808 ≤ i9_1 + 1 ∧ i9_1 + 1 ≤ 9223372036854775807 := by omega) : pcs1_B1 l (some q2_a) l2 c2 i9_1 σ Nx Qr Q0 :=
 body_of [.b true, .g, .i, .l (.slice qA lA cA), .g, .g, .g, .g, .b true, .g, .g, .g, .b true, .g, .c (.bool true) σD, .g, .g, .n (i9_1 + 1), .g, .fin (pcs1_a1n l (some q2_a) l2 c2 Nx) (i9_1 + 1)] (fun g => kc (by kernel_rfl) (ai (ltI_tt u1) (ai u2 (ai h1 (ai (ltI_tt u3) (ai (ltI_tt u4) (ai h2 (ai (wrap64 (n := i9_1 + 1) u5.1 u5.2) (fin (alts := [pcs1_a1n l (some q2_a) l2 c2 Nx, pcs1_a1xr l (some q2_a) l2 c2 Qr, pcs1_a1x0 l (some q2_a) l2 c2 Q0]) (pcs1_a1n l (some q2_a) l2 c2 Nx) (i9_1 + 1) nx in0)))))))))
theorem pcs1_s1c (h1 : loadA Pg σ 22 (aadd q2_a (Int.toNat i9_1 * 1)) = some (.slice qA lA cA)) (h2 : CallsY Pg l [.bool false, .slice qA lA cA] σ (.bool true) σD) (nx : Nx (i9_1 + 1) σD) (u1 : i9_1 < ((l2 : Nat) : Int) := by omega) (u2 : 0 ≤ i9_1 ∧ i9_1 < ((l2 : Nat) : Int) := by omega) (u3 : 0 < ((lA : Nat) : Int) := by omega) (u4 : ¬ 0 < i9_1 := by omega) (u5 : -9223372036854775808 ≤ i9_1 + 1 ∧ i9_1 + 1 ≤ 9223372036854775807 := by omega) : pcs1_B1 l (some q2_a) l2 c2 i9_1 σ Nx Qr Q0 :=
 body_of [.b true, .g, .i, .l (.slice qA lA cA), .g, .g, .g, .g, .b true, .g, .g, .g, .b false, .g, .c (.bool true) σD, .g, .g, .n (i9_1 + 1), .g, .fin (pcs1_a1n l (some q2_a) l2 c2 Nx) (i9_1 + 1)] (fun g => kc (by kernel_rfl) (ai (ltI_tt u1) (ai u2 (ai h1 (ai (ltI_tt u3) (ai (ltI_ff u4) (ai h2 (ai (wrap64 (n := i9_1 + 1) u5.1 u5.2) (fin (alts := [pcs1_a1n l (some q2_a) l2 c2 Nx, pcs1_a1xr l (some q2_a) l2 c2 Qr, pcs1_a1x0 l (some q2_a) l2 c2 Q0]) (pcs1_a1n l (some q2_a) l2 c2 Nx) (i9_1 + 1) nx in0)))))))))
theorem pcs1_s1e (h1 : loadA Pg σ 22 (aadd q2_a (Int.toNat i9_1 * 1)) = some (.slice qA lA cA)) (nx : Nx (i9_1 + 1) σ) (u1 : i9_1 < ((l2 : Nat) : Int) := by omega) (u2 : 0 ≤ i9_1 ∧ i9_1 < ((l2 : Nat) : Int) := by omega) (u3 : ¬ 0 < ((lA : Nat) : Int) := by omega) (u4 : -9223372036854775808 ≤ i9_1 + 1 ∧ i9_1 + 1 ≤ 9223372036854775807 := by omega) : pcs1_B1 l (some q2_a) l2 c2 i9_1 σ Nx Qr Q0 :=
 body_of [.b true, .g, .i, .l (.slice qA lA cA), .g, .g, .g, .g, .b false, .g, .g, .n (i9_1 + 1), .g, .fin (pcs1_a1n l (some q2_a) l2 c2 Nx) (i9_1 + 1)] (fun g => kc (by kernel_rfl) (ai (ltI_tt u1) (ai u2 (ai h1 (ai (ltI_ff u3) (ai (wrap64 (n := i9_1 + 1) u4.1 u4.2) (fin (alts := [pcs1_a1n l (some q2_a) l2 c2 Nx, pcs1_a1xr l (some q2_a) l2 c2 Qr, pcs1_a1x0 l (some q2_a) l2 c2 Q0]) (pcs1_a1n l (some q2_a) l2 c2 Nx) (i9_1 + 1) nx in0)))))))
theorem pcs1_s1f (nx : Q0 σ) (u1 : ¬ i9_1 < ((l2 : Nat) : Int) := by omega) : pcs1_B1 l q2 l2 c2 i9_1 σ Nx Qr Q0 :=
 body_of [.b false, .fin (pcs1_a1x0 l q2 l2 c2 Q0) ()] (fun g => kc (by kernel_rfl) (ai (ltI_ff u1) (fin (alts := [pcs1_a1n l q2 l2 c2 Nx, pcs1_a1xr l q2 l2 c2 Qr, pcs1_a1x0 l q2 l2 c2 Q0]) (pcs1_a1x0 l q2 l2 c2 Q0) () nx (inS (inS in0)))))
def pcs1_K1_r (l : Nat) (q2 : Option Addr) (l2 c2 : Nat) (σ : St) (Q : Value → St → Prop) : Prop := ∀ g : Nat → Value, ∃ an, Hid (kAt Pg (runA Pg) none (bodyOf Pg 37) [1, 0] (kFn Pg 37 Q) .ret ⟨Fm 26 (ov (pcs1_l1xr l q2 l2 c2) g), []⟩ σ an)
def pcs1_K1_0 (l : Nat) (q2 : Option Addr) (l2 c2 : Nat) (σ : St) (Q : Value → St → Prop) : Prop := ∀ g : Nat → Value, ∃ an, Hid (kAt Pg (runA Pg) none (bodyOf Pg 37) [1, 0] (kFn Pg 37 Q) (.exit 0) ⟨Fm 26 (ov (pcs1_l1x0 l q2 l2 c2) g), []⟩ σ an)
theorem pcs1_ra (h1 : loadA Pg σ 22 v0 = some (.slice q1 l1 c1)) (h2 : CallsA Pg 38 [.slice q1 l1 c1, .slice (some ⟨σ.q, 0, none⟩) 1 1] (σ.row [.int .u8 126] 1) (.slice q2 l2 c2) σ3) (hL : pcs1_L1 l q2 l2 c2 0 σ3 Pr P0) (kr : ∀ σ', Pr σ' → pcs1_K1_r l q2 l2 c2 σ' Q) (k0 : ∀ σ', P0 σ' → pcs1_K1_0 l q2 l2 c2 σ' Q) : RunsQ Pg 37 [.func (.yield l) ⟨[]⟩ ⟨[]⟩, .pointer (some v0)] σ Q :=
 runsQ_of [.l (.slice q1 l1 c1), .g, .c (.slice q2 l2 c2) σ3, .g, .g, .lf 26 (pcs1_l1 l q2 l2 c2 0) [pcs1_a1xr l q2 l2 c2 Pr, pcs1_a1x0 l q2 l2 c2 P0]] (kc (by kernel_rfl) (ai h1 (ai h2 (ai (ai tt (ai (arf (pcs1_l1 l q2 l2 c2 0)) hL)) (ai (fun (t : Unit) (g' : Nat → Value) (σ' : St) (q : Pr σ') => kr σ' q g') (ai (fun (t : Unit) (g' : Nat → Value) (σ' : St) (q : P0 σ') => k0 σ' q g') trivial))))))
theorem pcs1_t1x0a (nx : Q (.tuple ⟨[]⟩) σ) : pcs1_K1_0 l q2 l2 c2 σ Q :=
 fun g => ⟨[], kc (by kernel_rfl) nx⟩
end
section
variable {b yp qIB qJB q2 qJ qT qDB : Option Addr} {b_l b_c BA BB yp_l yp_c lo lIB cIB lJB cJB db l2 c2 lK cQ lT cT lDB cDB : Nat} {σ σR σJB τ σ1 σ3 σ6 σN σQ s_end σKB : St} {Q : Value → St → Prop} {f5 : FuncId} {f5_c : List Value} {nJ nK nL nM nN nO nQB n4 nVB nXB nWB : Int} {g : Nat → Value} {Qn Pn : St → Prop} {bH : Bool} {ms : List Nat}
theorem Decode_ra (nx : Q (.tuple ⟨[.slice none 0 0, iV 0, iV 3]⟩) ((((σ.row [.slice none 0 0] 1).row [iV 0] 1).own σ.q [.slice none 0 0] 1).own (σ.q + 1) [iV 0] 1)) (u1 : 5000 < ((b_l : Nat) : Int) := by omega) : RunsQ Pg 8 [.slice b b_l b_c] σ Q :=
 runsQ_of [.g, .g, .g, .g, .g, .b true, .e undef (((σ.row [.slice none 0 0] 1).row [iV 0] 1).own σ.q [.slice none 0 0] 1), .e undef ((((σ.row [.slice none 0 0] 1).row [iV 0] 1).own σ.q [.slice none 0 0] 1).own (σ.q + 1) [iV 0] 1), .g, .l (.slice none 0 0), .l (iV 0)] (kc (by kernel_rfl) (ai (ltI_tt u1) (ai ((own_new _ _ _).row.store (vs := [.slice none 0 0]) rfl size24 rfl (by first | (simp; done) | (simp; omega)) rfl : effOp Pg (evL [.pointer (some ⟨σ.q, 0, none⟩), .slice none 0 0]) ((σ.row [.slice none 0 0] 1).row [iV 0] 1) (.store 24 (.tmp 0) (.tmp 1)) = some (undef, (((σ.row [.slice none 0 0] 1).row [iV 0] 1).own σ.q [.slice none 0 0] 1))) (ai (((own_new _ _ _).own (by first | (simp; done) | (simp; omega))).store (vs := [iV 0]) rfl size3 rfl (by first | (simp; done) | (simp; omega)) rfl : effOp Pg (evL [.pointer (some ⟨(σ.q + 1), 0, none⟩), iV 0]) (((σ.row [.slice none 0 0] 1).row [iV 0] 1).own σ.q [.slice none 0 0] 1) (.store 3 (.tmp 0) (.tmp 1)) = some (undef, ((((σ.row [.slice none 0 0] 1).row [iV 0] 1).own σ.q [.slice none 0 0] 1).own (σ.q + 1) [iV 0] 1))) (ai (((own_new _ _ _).row.put.own (by first | (simp; done) | (simp; omega))).rw.ld agg24 (k := 0) rfl : loadA Pg ((((σ.row [.slice none 0 0] 1).row [iV 0] 1).own σ.q [.slice none 0 0] 1).own (σ.q + 1) [iV 0] 1) 24 ⟨σ.q, 0, none⟩ = some (.slice none 0 0)) (ai (((own_new _ _ _).own (by first | (simp; done) | (simp; omega))).put.rw.ld agg3 (k := 0) rfl : loadA Pg ((((σ.row [.slice none 0 0] 1).row [iV 0] 1).own σ.q [.slice none 0 0] 1).own (σ.q + 1) [iV 0] 1) 3 ⟨(σ.q + 1), 0, none⟩ = some (iV 0)) nx))))))
noncomputable def Decode_c1_as : Code := (Code.part [1, 1, 1, 1, 0, 1, 0, 0] (bodyOf Pg 8))
noncomputable def Decode_c1_bo : Code := (Code.part [1, 1, 1, 1, 0, 1, 0, 1] (bodyOf Pg 8))
def Decode_l1 (BA BB : Nat) (f5 : FuncId) (f5_c : List Value) : List (Nat × Value) := [(2, .pointer (some ⟨BA, 0, none⟩)), (3, .pointer (some ⟨BB, 0, none⟩)), (20, .func (.func f5) ⟨[]⟩ ⟨f5_c⟩)]
noncomputable def Decode_k1 (BA BB : Nat) (f5 : FuncId) (f5_c : List Value) (g : Nat → Value) (st : LoopState) (pend : Option Code) (db : Nat) : Blk := .loop (Fm 45 (ov (Decode_l1 BA BB f5 f5_c) g)) [21, 22] Decode_c1_as Decode_c1_bo st pend db
def Decode_R1 (BA BB : Nat) (f5 : FuncId) (f5_c : List Value) (σ : St) (Qn : St → Prop) : Prop := RangeG Pg (runA Pg) (.tmp 20) ⟨[21, 22]⟩ Decode_c1_as Decode_c1_bo 45 (Decode_l1 BA BB f5 f5_c) [(.normal, Qn)] σ
theorem Decode_y1a (hl : getB τ.heap lo = some (Decode_k1 BA BB f5 f5_c g .ready none db)) (hσ : σ = τ.re.put lo (Decode_k1 BA BB f5 f5_c g .busy none db)) (h1 : CallsA Pg 22 [.slice yp yp_l yp_c] σ (.tuple ⟨[.agg ⟨rcd nJ nK nL nM nN nO⟩, .bool true]⟩) σ) (h2 : loadA Pg ((σ.row (rcd 0 0 0 0 0 0) 6).own σ.q (rcd nJ nK nL nM nN nO) 6) 24 ⟨BA, 0, none⟩ = some (.slice qIB lIB cIB)) (h3 : appendA Pg 24 24 (.slice qIB lIB cIB) (.slice (some ⟨(σ.q + 1), 0, none⟩) 1 1) (((σ.row (rcd 0 0 0 0 0 0) 6).own σ.q (rcd nJ nK nL nM nN nO) 6).row (rcd nJ nK nL nM nN nO) 6) = some (.slice qJB lJB cJB, σR)) (h4 : effOp Pg (evL [.pointer (some ⟨BA, 0, none⟩), .slice qJB lJB cJB]) σR (.store 24 (.tmp 0) (.tmp 1)) = some (undef, σJB)) (nx : Qn σJB) : RoundG Pg lo [.bool true, .slice yp yp_l yp_c] τ (Fm 45 (ov (Decode_l1 BA BB f5 f5_c) g)) [21, 22] Decode_c1_as Decode_c1_bo db [⟨Unit, .normal, fun _ => [], fun _ => [], fun _ σ => Qn σ⟩] :=
 round_of hl rfl hσ [.g, .g, .g, .c (.tuple ⟨[.agg ⟨rcd nJ nK nL nM nN nO⟩, .bool true]⟩) σ, .g, .g, .g, .g, .e undef ((σ.row (rcd 0 0 0 0 0 0) 6).own σ.q (rcd nJ nK nL nM nN nO) 6), .g, .g, .g, .g, .g, .g, .g, .l (.slice qIB lIB cIB), .l (.agg ⟨rcd nJ nK nL nM nN nO⟩), .g, .e (.slice qJB lJB cJB) σR, .e undef σJB, .fin ⟨Unit, .normal, fun _ => [], fun _ => [], fun _ σ => Qn σ⟩ ()] (kc (by kernel_rfl) (ai (ai (rfl : Exit.normal = Exit.normal) (rfl : τ.re = τ.re)) (ai h1 (ai ((own_new _ _ _).store (vs := (rcd nJ nK nL nM nN nO)) rfl size40 rfl (by first | (simp; done) | (simp; omega)) rfl : effOp Pg (evL [.pointer (some ⟨σ.q, 0, none⟩), .agg ⟨rcd nJ nK nL nM nN nO⟩]) (σ.row (rcd 0 0 0 0 0 0) 6) (.store 40 (.tmp 0) (.tmp 1)) = some (undef, ((σ.row (rcd 0 0 0 0 0 0) 6).own σ.q (rcd nJ nK nL nM nN nO) 6))) (ai h2 (ai ((own_new _ _ _).put.rw.ldN agg40 size40 (k := 0) rfl rfl (by first | (simp; done) | (simp; omega)) : loadA Pg ((σ.row (rcd 0 0 0 0 0 0) 6).own σ.q (rcd nJ nK nL nM nN nO) 6) 40 ⟨σ.q, 0, none⟩ = some (.agg ⟨rcd nJ nK nL nM nN nO⟩)) (ai h3 (ai h4 (finS (alts := [⟨Unit, .normal, fun _ => [], fun _ => [], fun _ σ => Qn σ⟩]) ⟨Unit, .normal, fun _ => [], fun _ => [], fun _ σ => Qn σ⟩ () nx in0)))))))))
theorem Decode_y1b (hl : getB τ.heap lo = some (Decode_k1 BA BB f5 f5_c g .ready none db)) (hσ : σ = τ.re.put lo (Decode_k1 BA BB f5 f5_c g .busy none db)) (h1 : CallsA Pg 22 [.slice yp yp_l yp_c] σ (.tuple ⟨[.agg ⟨rcd nJ nK nL nM nN nO⟩, .bool false]⟩) σ) (h2 : loadA Pg ((σ.row (rcd 0 0 0 0 0 0) 6).own σ.q (rcd nJ nK nL nM nN nO) 6) 3 ⟨BB, 0, none⟩ = some (iV nQB)) (h3 : effOp Pg (evL [.pointer (some ⟨BB, 0, none⟩), iV (nQB + 1)]) ((σ.row (rcd 0 0 0 0 0 0) 6).own σ.q (rcd nJ nK nL nM nN nO) 6) (.store 3 (.tmp 0) (.tmp 1)) = some (undef, σR)) (nx : Qn σR) (u1 : -9223372036854775808 ≤ nQB + 1 ∧ nQB + 1 ≤ 9223372036854775807 := by omega) : RoundG Pg lo [.bool true, .slice yp yp_l yp_c] τ (Fm 45 (ov (Decode_l1 BA BB f5 f5_c) g)) [21, 22] Decode_c1_as Decode_c1_bo db [⟨Unit, .normal, fun _ => [], fun _ => [], fun _ σ => Qn σ⟩] :=
 round_of hl rfl hσ [.g, .g, .g, .c (.tuple ⟨[.agg ⟨rcd nJ nK nL nM nN nO⟩, .bool false]⟩) σ, .g, .g, .g, .g, .e undef ((σ.row (rcd 0 0 0 0 0 0) 6).own σ.q (rcd nJ nK nL nM nN nO) 6), .g, .g, .g, .g, .g, .g, .g, .l (iV nQB), .n (nQB + 1), .e undef σR, .fin ⟨Unit, .normal, fun _ => [], fun _ => [], fun _ σ => Qn σ⟩ ()] (kc (by kernel_rfl) (ai (ai (rfl : Exit.normal = Exit.normal) (rfl : τ.re = τ.re)) (ai h1 (ai ((own_new _ _ _).store (vs := (rcd nJ nK nL nM nN nO)) rfl size40 rfl (by first | (simp; done) | (simp; omega)) rfl : effOp Pg (evL [.pointer (some ⟨σ.q, 0, none⟩), .agg ⟨rcd nJ nK nL nM nN nO⟩]) (σ.row (rcd 0 0 0 0 0 0) 6) (.store 40 (.tmp 0) (.tmp 1)) = some (undef, ((σ.row (rcd 0 0 0 0 0 0) 6).own σ.q (rcd nJ nK nL nM nN nO) 6))) (ai h2 (ai (wrap64 (n := nQB + 1) u1.1 u1.2) (ai h3 (finS (alts := [⟨Unit, .normal, fun _ => [], fun _ => [], fun _ σ => Qn σ⟩]) ⟨Unit, .normal, fun _ => [], fun _ => [], fun _ σ => Qn σ⟩ () nx in0))))))))
theorem Decode_y1c (hl : getB τ.heap lo = some (Decode_k1 BA BB f5 f5_c g .ready none db)) (hσ : σ = τ.re.put lo (Decode_k1 BA BB f5 f5_c g .busy none db)) (h1 : CallsA Pg 22 [.slice yp yp_l yp_c] σ (.tuple ⟨[.agg ⟨rcd nJ nK nL nM nN nO⟩, .bool bH]⟩) σ) (h2 : loadA Pg ((σ.row (rcd 0 0 0 0 0 0) 6).own σ.q (rcd nJ nK nL nM nN nO) 6) 3 ⟨BB, 0, none⟩ = some (iV nQB)) (h3 : effOp Pg (evL [.pointer (some ⟨BB, 0, none⟩), iV (nQB + 1)]) ((σ.row (rcd 0 0 0 0 0 0) 6).own σ.q (rcd nJ nK nL nM nN nO) 6) (.store 3 (.tmp 0) (.tmp 1)) = some (undef, σR)) (nx : Qn σR) (u1 : -9223372036854775808 ≤ nQB + 1 ∧ nQB + 1 ≤ 9223372036854775807 := by omega) : RoundG Pg lo [.bool false, .slice yp yp_l yp_c] τ (Fm 45 (ov (Decode_l1 BA BB f5 f5_c) g)) [21, 22] Decode_c1_as Decode_c1_bo db [⟨Unit, .normal, fun _ => [], fun _ => [], fun _ σ => Qn σ⟩] :=
 round_of hl rfl hσ [.g, .g, .g, .c (.tuple ⟨[.agg ⟨rcd nJ nK nL nM nN nO⟩, .bool bH]⟩) σ, .g, .g, .g, .g, .e undef ((σ.row (rcd 0 0 0 0 0 0) 6).own σ.q (rcd nJ nK nL nM nN nO) 6), .g, .g, .g, .g, .g, .l (iV nQB), .n (nQB + 1), .e undef σR, .fin ⟨Unit, .normal, fun _ => [], fun _ => [], fun _ σ => Qn σ⟩ ()] (kc (by kernel_rfl) (ai (ai (rfl : Exit.normal = Exit.normal) (rfl : τ.re = τ.re)) (ai h1 (ai ((own_new _ _ _).store (vs := (rcd nJ nK nL nM nN nO)) rfl size40 rfl (by first | (simp; done) | (simp; omega)) rfl : effOp Pg (evL [.pointer (some ⟨σ.q, 0, none⟩), .agg ⟨rcd nJ nK nL nM nN nO⟩]) (σ.row (rcd 0 0 0 0 0 0) 6) (.store 40 (.tmp 0) (.tmp 1)) = some (undef, ((σ.row (rcd 0 0 0 0 0 0) 6).own σ.q (rcd nJ nK nL nM nN nO) 6))) (ai h2 (ai (wrap64 (n := nQB + 1) u1.1 u1.2) (ai h3 (finS (alts := [⟨Unit, .normal, fun _ => [], fun _ => [], fun _ σ => Qn σ⟩]) ⟨Unit, .normal, fun _ => [], fun _ => [], fun _ σ => Qn σ⟩ () nx in0))))))))
def Decode_K1_n (BA BB : Nat) (f5 : FuncId) (f5_c : List Value) (ms : List Nat) (σ : St) (Q : Value → St → Prop) : Prop := ∀ g : Nat → Value, ∃ an, Hid (kAt Pg (runA Pg) none (bodyOf Pg 8) [1, 1, 1, 1, 0, 1, 0] (kFn Pg 8 Q) .normal ⟨Fm 45 (ov (Decode_l1 BA BB f5 f5_c) g), ms⟩ σ an)
theorem Decode_rb (h1 : effOp Pg (evL [iV ((b_l : Nat) : Int), iV ((b_l : Nat) : Int)]) ((σ.row [.slice none 0 0] 1).row [iV 0] 1) (.makeSlice 22 (.tmp 0) (.tmp 1)) = some (.slice q2 l2 c2, σ1)) (h2 : effOp Pg (evL [.slice q2 l2 c2, .slice b b_l b_c]) σ1 (.call { callee := .builtin .copy, args := ⟨tmpsTo 2⟩, argTypes := ⟨[22, 22]⟩ }) = some ((iV n4), σ3)) (h3 : CallsA Pg 21 [.slice q2 l2 c2] σ3 (.func (.func f5) ⟨[]⟩ ⟨f5_c⟩) σ6) (hL : Decode_R1 σ.q (σ.q + 1) f5 f5_c σ6 Pn) (kn : ∀ σ', Pn σ' → Decode_K1_n σ.q (σ.q + 1) f5 f5_c [σ6.q] σ' Q) (u1 : ¬ 5000 < ((b_l : Nat) : Int) := by omega) : RunsQ Pg 8 [.slice b b_l b_c] σ Q :=
 runsQ_of [.g, .g, .g, .g, .g, .b false, .g, .g, .e (.slice q2 l2 c2) σ1, .g, .g, .g, .e (iV n4) σ3, .g, .c (.func (.func f5) ⟨[]⟩ ⟨f5_c⟩) σ6, .rf 45 (Decode_l1 σ.q (σ.q + 1) f5 f5_c) [(.normal, Pn)]] (kc (by kernel_rfl) (ai (ltI_ff u1) (ai h1 (ai h2 (ai h3 (ai (ai tt (ai (arf (Decode_l1 σ.q (σ.q + 1) f5 f5_c)) hL)) (ai (fun (g' : Nat → Value) (σ' : St) (q : Pn σ') => kn σ' q g') trivial)))))))
theorem Decode_t1xna (h1 : loadA Pg σ 24 ⟨BA, 0, none⟩ = some (.slice qJ lK cQ)) (h2 : effOp Pg (evL [.pointer (some ⟨BA, 0, none⟩), .slice none 0 0]) σ (.store 24 (.tmp 0) (.tmp 1)) = some (undef, σN)) (h3 : effOp Pg (evL [.pointer (some ⟨BB, 0, none⟩), iV 0]) σN (.store 3 (.tmp 0) (.tmp 1)) = some (undef, σQ)) (h4 : ShutR ms σQ s_end) (h5 : loadA Pg s_end 24 ⟨BA, 0, none⟩ = some (.slice qT lT cT)) (h6 : loadA Pg s_end 3 ⟨BB, 0, none⟩ = some (iV nVB)) (nx : Q (.tuple ⟨[.slice qT lT cT, iV nVB, iV 3]⟩) s_end) (u1 : 60 < ((lK : Nat) : Int) := by omega) : Decode_K1_n BA BB f5 f5_c ms σ Q :=
 fun g => ⟨[.l (.slice qJ lK cQ), .g, .b true, .e undef σN, .e undef σQ, .g, .l (.slice qT lT cT), .l (iV nVB)], kc (by kernel_rfl) (ai h1 (ai (ltI_tt u1) (ai h2 (ai h3 (wpMarks_of (K := (fun s_end => loadA Pg s_end 24 ⟨BA, 0, none⟩ = some (.slice qT lT cT) ∧ loadA Pg s_end 3 ⟨BB, 0, none⟩ = some (iV nVB) ∧ Q (.tuple ⟨[.slice qT lT cT, iV nVB, iV 3]⟩) s_end)) h4 (ai h5 (ai h6 nx)))))))⟩
theorem Decode_t1xnb (h1 : loadA Pg σ 24 ⟨BA, 0, none⟩ = some (.slice qJ lK cQ)) (h2 : loadA Pg σ 3 ⟨BB, 0, none⟩ = some (iV nXB)) (h3 : effOp Pg (evL [.pointer (some ⟨BA, 0, none⟩), .slice qJ lK cQ]) σ (.store 24 (.tmp 0) (.tmp 1)) = some (undef, σQ)) (h4 : effOp Pg (evL [.pointer (some ⟨BB, 0, none⟩), iV nXB]) σQ (.store 3 (.tmp 0) (.tmp 1)) = some (undef, σKB)) (h5 : belowL σQ.q [.pointer (some ⟨BB, 0, none⟩), iV nXB]) (h6 : (((⟨BB, 0, none⟩ : Addr).block < σQ.q ∧ goodB RD (iV nXB) = true) ∧ loadA Pg σQ 3 ⟨BB, 0, none⟩ = some (iV nXB))) (h7 : ShutR ms σKB s_end) (h8 : loadA Pg s_end 24 ⟨BA, 0, none⟩ = some (.slice qDB lDB cDB)) (h9 : loadA Pg s_end 3 ⟨BB, 0, none⟩ = some (iV nWB)) (b_qJ : ∀ a, qJ = some a → a.block < σ.q) (nx : Q (.tuple ⟨[.slice qDB lDB cDB, iV nWB, iV 0]⟩) s_end) (u1 : ¬ 60 < ((lK : Nat) : Int) := by omega) (b_BA : BA < σ.q := by omega) (b_BB : BB < σ.q := by omega) : Decode_K1_n BA BB f5 f5_c ms σ Q :=
 fun g => ⟨[.l (.slice qJ lK cQ), .g, .b false, .l (.slice qJ lK cQ), .l (iV nXB), .e undef σQ, .e undef σKB, .g, .l (.slice qDB lDB cDB), .l (iV nWB)], kc (by kernel_rfl) (ai h1 (ai (ltI_ff u1) (ai h1 (ai h2 (ai h3 (ai h4 (ai ((belowL_cons (belowB_ptr b_BA) belowL_nil) : belowL σ.q [.pointer (some ⟨BA, 0, none⟩)]) (ai ((belowL_cons (belowB_ptr b_BB) belowL_nil) : belowL σ.q [.pointer (some ⟨BB, 0, none⟩)]) (ai ((belowL_cons (belowB_ptr b_BA) (belowL_cons (belowB_sl b_qJ) belowL_nil)) : belowL σ.q [.pointer (some ⟨BA, 0, none⟩), .slice qJ lK cQ]) (ai h5 (ai (⟨⟨b_BB, rfl⟩, h2⟩ : (((⟨BB, 0, none⟩ : Addr).block < σ.q ∧ goodB RD (iV nXB) = true) ∧ loadA Pg σ 3 ⟨BB, 0, none⟩ = some (iV nXB))) (ai h6 (wpMarks_of (K := (fun s_end => loadA Pg s_end 24 ⟨BA, 0, none⟩ = some (.slice qDB lDB cDB) ∧ loadA Pg s_end 3 ⟨BB, 0, none⟩ = some (iV nWB) ∧ Q (.tuple ⟨[.slice qDB lDB cDB, iV nWB, iV 0]⟩) s_end)) h7 (ai h8 (ai h9 nx)))))))))))))))⟩
end
def dstep (st : List Rec × Int) (i : Nat) (pc : List Int) : List Rec × Int :=
 if pc = [] then st else match (if 0 < i then recP pc else none) with
  | some r => (st.1 ++ [r], st.2)
  | none => (st.1, st.2 + 1)
def dTo (pcs : List (List Int)) : Nat → List Rec × Int
 | 0 => ([], 0)
 | i + 1 => match pcs[i]? with
  | some pc => dstep (dTo pcs i) i pc
  | none => dTo pcs i
theorem dTo_snoc {pcs : List (List Int)} {i : Nat} {pc : List Int} (h : pcs[i]? = some pc) : dTo pcs (i + 1) = dstep (dTo pcs i) i pc := by
 show (match pcs[i]? with | some pc => dstep (dTo pcs i) i pc | none => dTo pcs i) = _
 rw [h]
theorem dTo_bd (pcs : List (List Int)) : ∀ i, 0 ≤ (dTo pcs i).2 ∧ (dTo pcs i).2 ≤ (i : Int) ∧ (dTo pcs i).1.length ≤ i
 | 0 => by simp [dTo]
 | i + 1 => by
  have ih := dTo_bd pcs i
  cases h : pcs[i]? with
  | none => rw [show dTo pcs (i + 1) = dTo pcs i by show (match pcs[i]? with | some pc => dstep (dTo pcs i) i pc | none => dTo pcs i) = _; rw [h]]; omega
  | some pc =>
   rw [dTo_snoc h]
   unfold dstep
   split
   ·omega
   ·cases (if 0 < i then recP pc else none) with
    | none => simp only; omega
    | some r => simp only [List.length_append, List.length_cons, List.length_nil]; omega
theorem splitB_pc : ∀ {bs pc : List Int}, Bts bs → pc ∈ splitB bs → Bts pc ∧ pc.length ≤ bs.length
 | [], pc, _, h => by simp [splitB] at h; subst h; exact ⟨(fun x hx => by cases hx), Nat.le_refl _⟩
 | c :: r, pc, hb, h => by
  rw [splitB] at h
  have key : ∀ p, p ∈ splitB r → Bts p ∧ p.length ≤ r.length := fun p hp => splitB_pc hb.tl hp
  split at h
  ·rcases List.mem_cons.1 h with e | e
   ·subst e; exact ⟨(fun x hx => by cases hx), Nat.zero_le _⟩
   ·have := key pc e; exact ⟨this.1, by simp; omega⟩
  ·have hne := splitB_ne r
   cases hs : splitB r with
   | nil => exact absurd hs hne
   | cons p ps =>
    rw [hs] at h
    rcases List.mem_cons.1 h with e | e
    ·subst e
     have := key p (by rw [hs]; exact List.mem_cons_self)
     refine ⟨fun x hx => ?_, by simp; omega⟩
     rcases List.mem_cons.1 hx with e | e
     ·rw [e]; exact hb c List.mem_cons_self
     ·exact this.1 x e
    ·have := key pc (by rw [hs]; exact List.mem_cons_of_mem _ e)
     exact ⟨this.1, by simp; omega⟩
section
variable {σ τ : St} {bs : List Int} {p : Option Addr} {l c : Nat}
theorem mut_c {σ s : St} {f : FuncId} {args : List Value} {v : Value} (h : ∃ N0, ∀ N, N0 ≤ N → runA Pg N (.func f) args σ.re = some (v, s)) (h1 : σ.q ≤ s.q) (h2 : s.low < σ.q) : CallsA Pg f args σ v ⟨s.heap, s.q, min σ.low s.low⟩ := by
 obtain ⟨N0, hN⟩ := h
 refine ⟨N0, fun N hl => ?_⟩
 unfold callA
 rw [show (⟨σ.heap, σ.q, σ.q⟩ : St) = σ.re from rfl, hN N hl]
 show backA σ v s = _
 unfold backA
 have e1 : (Nat.ble σ.q s.low && rigidB RD v) = false := by
  rw [Bool.and_eq_false_iff]; left
  rw [Bool.eq_false_iff]; intro e; have := (ble_iff _ _).1 e; omega
 have e2 : Nat.ble σ.q s.q = true := (ble_iff _ _).2 h1
 rw [e1, cond_false, e2, cond_true, fN_eq, cond_ble]
theorem pieces_c : ∃ b σ', CallsA Pg 21 [.slice p l c] σ (.func (.func 37) ⟨[]⟩ ⟨[.pointer (some ⟨b, 0, none⟩)]⟩) σ' ∧ New σ σ' ∧ Own σ' b [.slice p l c] 1 ∧ σ.q ≤ b := by
 obtain ⟨v, σ', g1, g2, b, rfl, g3, g4⟩ := RunsQ.new (Q := fun v s => ∃ b, v = .func (.func 37) ⟨[]⟩ ⟨[.pointer (some ⟨b, 0, none⟩)]⟩ ∧ Own s b [.slice p l c] 1 ∧ σ.q ≤ b) (pieces_ra ⟨New.row _ _ _, σ.q, rfl, own_new _ _ _, Nat.le_refl _⟩) (by
  rintro v s s' ⟨b, rfl, h, h'⟩ hle; exact ⟨b, rfl, h.le hle, h'⟩) (by
  rintro v s hr ⟨b, rfl, _⟩
  exact Bool.noConfusion (show false = true from hr))
 exact ⟨b, σ', g1, g2, g3, g4⟩
theorem dec_range {n a1 : Nat} {Pn : St → Prop} (hb : Bts bs) (hl : l ≤ 1000000) (oa : Own τ a1 [.slice p l c] 1) (hB : BS τ p l c bs) (o1 : Own τ n [.slice none 0 0] 1) (o2 : Own τ (n + 1) [iV 0] 1)
    (hpn : ∀ b, AtP p b → n + 1 < b) (hlow : n ≤ τ.low)
    (hQ : ∀ z q d n1, (∀ b, b < n → getB z.heap b = getB τ.heap b) → Own z n [.slice q (dTo (splitB bs) (splitB bs).length).1.length d] 1 → Own z (n + 1) [iV (dTo (splitB bs) (splitB bs).length).2] 1 → τ.q + 2 ≤ n1 → Gr Pg z n1 40 6 q (dTo (splitB bs) (splitB bs).length).1.length d ((dTo (splitB bs) (splitB bs).length).1.map recV) → getB z.heap τ.q = some .defd → τ.q < z.q → n ≤ z.low → Pn z) :
    Decode_R1 n (n + 1) 37 [.pointer (some ⟨a1, 0, none⟩)] τ Pn := by
  refine rangeG_of (fs := [.pointer (some ⟨a1, 0, none⟩)]) (f := 37) (fun g0 => by kernel_rfl) (fun g0 => ?_)
  obtain ⟨pcs, hpcs⟩ : ∃ pcs, pcs = splitB bs := ⟨_, rfl⟩
  rw [← hpcs] at hQ
  have hpl : pcs.length ≤ l + 1 := by rw [hpcs, splitB_len]; have := hB.leng; have : bs.count 126 ≤ bs.length := List.count_le_length; omega
  obtain ⟨L, hL⟩ : ∃ L : LoopState → Blk, L = fun st => Decode_k1 n (n + 1) 37 [.pointer (some ⟨a1, 0, none⟩)] g0 st none τ.q := ⟨_, rfl⟩
  have hn2 := o2.lt
  have ha := oa.lt
  obtain ⟨τa, hτa⟩ : ∃ τa, τa = (τ.add .defd).add (L .ready) := ⟨_, rfl⟩
  have hN : New τ τa := by rw [hτa]; exact (New.add _ _).trans (New.add _ _)
  have nxa : τa.q = τ.q + 2 := by rw [hτa]; rfl
  have Ld : getB τa.heap τ.q = some .defd := by rw [hτa, St.add_get, if_neg (by simp), St.add_get, if_pos rfl]
  have Ll : getB τa.heap (τ.q + 1) = some (L .ready) := by rw [hτa, St.add_get, if_pos (by simp)]
  obtain ⟨t1, ht1⟩ : ∃ t1, t1 = τa.re.row [.int .u8 126] 1 := ⟨_, rfl⟩
  have N1 : New τa.re t1 := by rw [ht1]; exact New.row _ _ _
  have os : Own t1 τa.q [byV 126] 1 := by rw [ht1]; exact own_new _ _ _
  have Na : Le τ τa.re := hN.le.trans (le0 τa)
  obtain ⟨B, vs, c', σ3, k2, n3, oB, vl, hP, hBn⟩ := split_c (d := 1) os.rw ((hB.le Na).le N1.le) hb (by omega)
  rw [← hpcs] at k2 vl hP
  have N3 : New τa.re σ3 := N1.trans n3
  have n31 : τa.q + 1 ≤ B := by
    have e : t1.q = τa.q + 1 := by rw [ht1]; rfl
    omega
  have oBl := oB.lt
  have hlow1 : n ≤ τa.low := hN.low n hlow (by omega)
  let K : Nat → St → Prop := fun j z => ∃ q d, Own z B vs 1 ∧ PcsV z p vs pcs ∧ Own z n [.slice q (dTo pcs j).1.length d] 1 ∧ Own z (n + 1) [iV (dTo pcs j).2] 1 ∧ Gr Pg z σ3.q 40 6 q (dTo pcs j).1.length d ((dTo pcs j).1.map recV) ∧ getB z.heap τ.q = some .defd ∧ getB z.heap (τ.q + 1) = some (L .ready) ∧ σ3.q ≤ z.q ∧ n ≤ z.low ∧ (∀ b, b < n → getB z.heap b = getB τ.heap b) ∧ (dTo pcs j = ([], 0) ∨ z.low ≤ n + 1)
  have LE3 : Le τ σ3 := Na.trans N3.le
  have K0 : K 0 σ3 := ⟨none, 0, oB, hP, o1.le LE3, o2.le LE3, Gr.nil, by rw [N3.le.get _ (by show τ.q < τa.q; omega)]; exact Ld, by rw [N3.le.get _ (by show τ.q + 1 < τa.q; omega)]; exact Ll, Nat.le_refl _, N3.low n (by show n ≤ τa.q; omega) (by show n ≤ τa.q; omega), fun b hb => LE3.get b (by omega), .inl rfl⟩
  have round : ∀ (j : Nat) (z : St) (pc : List Int) (q1 : Option Addr) (l1 c1 : Nat), K j z → pcs[j]? = some pc → pc ≠ [] → BS z q1 l1 c1 pc → (∀ b, AtP q1 b → AtP p b) → ∃ zz, CallsY Pg (τ.q + 1) [.bool (decide (0 < j)), .slice q1 l1 c1] z (.bool true) zz ∧ K (j + 1) zz := by
    rintro j z pc q1 l1 c1 ⟨q, d, kB, kP, k1, k2, kG, kd, kl, kn, kw, ko, kz⟩ hj hne hb1 hat
    have hjl : j < pcs.length := (List.getElem?_eq_some_iff.1 hj).1
    obtain ⟨hbt, hpl2⟩ := splitB_pc hb (hpcs ▸ List.mem_of_getElem? hj)
    have hbl := hB.leng
    have hl1 := hb1.leng
    have bd := dTo_bd pcs j
    obtain ⟨z1, hz1⟩ : ∃ z1, z1 = z.re.put (τ.q + 1) (L .busy) := ⟨_, rfl⟩
    have w1 : Only (· = τ.q + 1) z z1 := by rw [hz1]; exact (Only.re z).trans' (Only.put (S := (· = τ.q + 1)) (.inr rfl)) fun _ _ e => .inl e
    have nx1 : z1.q = z.q := by rw [hz1]; rfl
    have L1 : getB z1.heap (τ.q + 1) = some (L .busy) := by rw [hz1, St.put_get, if_pos rfl]
    have S1 : ∀ b, AtP p b → ¬ (b = τ.q + 1) := fun b hb e => by have := hB.lt b hb; omega
    have p1 : Own z1 n _ 1 := w1.own' k1 (fun e => by have e : n = τ.q + 1 := e; omega)
    have p2 : Own z1 (n + 1) _ 1 := w1.own' k2 (fun e => by have e : n + 1 = τ.q + 1 := e; omega)
    have pB : Own z1 B vs 1 := w1.own' kB (fun e => by have e : B = τ.q + 1 := e; omega)
    have pP : PcsV z1 p vs pcs := fun i x hi => by obtain ⟨v, h1, h2⟩ := kP i x hi; exact ⟨v, h1, h2.only w1 S1⟩
    have pG := kG.only w1 (fun b hb e => by have := (kG.bd hb).1; have e : b = τ.q + 1 := e; omega)
    have pd : getB z1.heap τ.q = some .defd := by rw [w1.get _ (by omega) (by omega)]; exact kd
    have hr := rcrd_c (hb1.only w1 fun b hb => S1 b (hat b hb)) hbt (by omega)
    have fin : ∀ z4 : St, RoundG Pg (τ.q + 1) [.bool (decide (0 < j)), .slice q1 l1 c1] z (Fm 45 (ov (Decode_l1 n (n + 1) 37 [.pointer (some ⟨a1, 0, none⟩)]) g0)) [21, 22] Decode_c1_as Decode_c1_bo τ.q [⟨Unit, .normal, fun _ => [], fun _ => [], fun _ x => x = z4⟩] →
        ∀ (q' : Option Addr) (d' : Nat) (S : Nat → Prop), Only S z1 z4 → (∀ y, S y → y = n ∨ y = n + 1 ∨ σ3.q ≤ y) → z4.low ≤ n + 1 → Own z4 n [.slice q' (dTo pcs (j + 1)).1.length d'] 1 → Own z4 (n + 1) [iV (dTo pcs (j + 1)).2] 1 → Gr Pg z4 σ3.q 40 6 q' (dTo pcs (j + 1)).1.length d' ((dTo pcs (j + 1)).1.map recV) →
        ∃ zz, CallsY Pg (τ.q + 1) [.bool (decide (0 < j)), .slice q1 l1 c1] z (.bool true) zz ∧ K (j + 1) zz := by
      intro z4 hrd q' d' S k hS hlw u1 u2 uG
      have n4 := k.q
      have L4 : getB z4.heap (τ.q + 1) = some (L .busy) := by rw [k.get _ (by omega) (fun h => by have := hS _ h; omega)]; exact L1
      have D4 : getB z4.heap τ.q = some .defd := by rw [k.get _ (by omega) (fun h => by have := hS _ h; omega)]; exact pd
      obtain ⟨e, z', ⟨al, hal, rfl, tt, hq⟩, hc⟩ := hrd
      simp only [In, or_false] at hal
      subst hal
      have hq : z' = z4 := hq
      subst hq
      have hcy := hc (.inl rfl) (by omega) (by rw [L4, hL]; rfl) (by omega)
      have nB : ¬ S B := fun h => by have := hS _ h; omega
      have hlow4 : n ≤ z'.low := k.low n (by rw [hz1]; simp only [St.put_low, re_lw]; omega) (by omega) (fun y _ hy => by have := hS y hy; omega)
      have g : ∀ b, b ≠ τ.q + 1 → getB (⟨(z'.put (τ.q + 1) (endBlk (Fm 45 (ov (Decode_l1 n (n + 1) 37 [.pointer (some ⟨a1, 0, none⟩)]) g0)) [21, 22] Decode_c1_as Decode_c1_bo τ.q .normal)).heap, z'.q, min z.low (min z'.low (τ.q + 1))⟩ : St).heap b = getB z'.heap b := fun b hb => by
        show getB (z'.put _ _).heap b = _
        rw [St.put_get, if_neg hb]
      have w2 : Only (· = τ.q + 1) z' (z'.put (τ.q + 1) (endBlk (Fm 45 (ov (Decode_l1 n (n + 1) 37 [.pointer (some ⟨a1, 0, none⟩)]) g0)) [21, 22] Decode_c1_as Decode_c1_bo τ.q .normal)) := Only.put (.inr rfl)
      have w3 : Le (z'.put (τ.q + 1) (endBlk (Fm 45 (ov (Decode_l1 n (n + 1) 37 [.pointer (some ⟨a1, 0, none⟩)]) g0)) [21, 22] Decode_c1_as Decode_c1_bo τ.q .normal)) ⟨(z'.put (τ.q + 1) (endBlk (Fm 45 (ov (Decode_l1 n (n + 1) 37 [.pointer (some ⟨a1, 0, none⟩)]) g0)) [21, 22] Decode_c1_as Decode_c1_bo τ.q .normal)).heap, z'.q, min z.low (min z'.low (τ.q + 1))⟩ := ⟨Nat.le_refl _, fun _ _ => rfl⟩
      refine ⟨_, hcy, q', d', ?_, fun i x hi => ?_, ?_, ?_, ?_, ?_, ?_, ?_, ?_, fun b hb => ?_, .inr ?_⟩
      · exact (w2.own' (k.own' pB nB) (fun e => by have e : B = τ.q + 1 := e; omega)).le w3
      · obtain ⟨v, h1, h2⟩ := pP i x hi
        exact ⟨v, h1, ((h2.only k fun b hb h => by have := hS _ h; have := hpn b hb; have := hB.lt b hb; omega).only w2 S1).le w3⟩
      · exact (w2.own' u1 (fun e => by have e : n = τ.q + 1 := e; omega)).le w3
      · exact (w2.own' u2 (fun e => by have e : n + 1 = τ.q + 1 := e; omega)).le w3
      · exact (uG.only w2 (fun b hb e => by have := (uG.bd hb).1; have e : b = τ.q + 1 := e; omega)).le w3
      · rw [g _ (by omega)]; exact D4
      · show getB (z'.put _ _).heap _ = _
        rw [St.put_get, if_pos rfl, hL]; rfl
      · show σ3.q ≤ z'.q; omega
      · show n ≤ min _ _; omega
      · rw [g _ (by omega), k.get b (by omega) (fun h => by have := hS _ h; omega), w1.get b (by omega) (by omega)]
        exact ko b hb
      · show min _ _ ≤ _; omega
    have hstep := dTo_snoc hj
    by_cases hgood : 0 < j ∧ (recP pc).isSome = true
    · obtain ⟨r, hrec⟩ := Option.isSome_iff_exists.1 hgood.2
      have e1 : dTo pcs (j + 1) = ((dTo pcs j).1 ++ [r], (dTo pcs j).2) := by rw [hstep, dstep, if_neg hne, if_pos hgood.1, hrec]
      rw [show recA pc = .tuple ⟨[recV r, .bool true]⟩ by simp [recA, hrec]] at hr
      obtain ⟨z2, hz2⟩ : ∃ z2, z2 = (z1.row (recL nilR) 6).own z1.q (recL r) 6 := ⟨_, rfl⟩
      have n2 : New z1 z2 := by rw [hz2]; exact (New.row _ _ _).own (Nat.le_refl _)
      have ld := (p1.le n2.le).rw.ld (P := Pg) agg24 (k := 0) rfl
      obtain ⟨q', d', z3, ga, gG, gO, gA⟩ := grow1 (τ := z2) (recV r) (cs := recL r) appT_rec pG n2.le (elOk_rec r) (by omega) (by omega)
      have hq2 : ∀ b, AtP q b → σ3.q ≤ b := fun b hb => (pG.bd hb).1
      have u1 : Own z3 n [.slice q (dTo pcs j).1.length d] 1 := gO.own' ((p1.le n2.le).le (Le.row _ _ _)) (fun h => by have := hq2 _ h; omega)
      have u2 : Own z3 (n + 1) [iV (dTo pcs j).2] 1 := gO.own' ((p2.le n2.le).le (Le.row _ _ _)) (fun h => by have := hq2 _ h; omega)
      have st := u1.store (P := Pg) (k := 0) (t := 24) (v := .slice q' ((dTo pcs j).1.length + 1) d') (vs := [.slice q' ((dTo pcs j).1.length + 1) d']) rfl size24 rfl (by simp) rfl
      have O3 : Only (AtP q) z1 z3 := (n2.trans (New.row _ _ _)).only.trans' gO fun _ _ e => .inl e
      have O4 : Only (fun y => AtP q y ∨ y = n) z1 (z3.own n [.slice q' ((dTo pcs j).1.length + 1) d'] 1) := (O3.mono (T := fun y => AtP q y ∨ y = n) fun _ _ e => .inl e).trans' (Only.own (S := (· = n)) (.inr rfl)) fun _ _ e => .inl (.inr e)
      have hrd : RoundG Pg (τ.q + 1) [.bool true, .slice q1 l1 c1] z (Fm 45 (ov (Decode_l1 n (n + 1) 37 [.pointer (some ⟨a1, 0, none⟩)]) g0)) [21, 22] Decode_c1_as Decode_c1_bo τ.q [⟨Unit, .normal, fun _ => [], fun _ => [], fun _ x => x = z3.own n [.slice q' ((dTo pcs j).1.length + 1) d'] 1⟩] := by
        subst hz2
        exact Decode_y1a (by rw [kl, hL]) (by rw [hz1, hL]) hr ld ga st rfl
      refine fin _ (by rw [decide_eq_true hgood.1]; exact hrd) q' d' _ O4 (fun y hy => by rcases hy with hy | hy; exact .inr (.inr (hq2 y hy)); exact .inl hy) (by show min _ n ≤ _; omega) ?_ ?_ ?_
      · rw [e1]; simp only [List.length_append, List.length_cons, List.length_nil]; exact u1.put
      · rw [e1]; exact u2.own (by omega)
      · rw [e1]; simp only [List.length_append, List.length_cons, List.length_nil, List.map_append, List.map_cons, List.map_nil]
        have hq3 : ∀ b, AtP q' b → σ3.q ≤ b := fun b hb => (gG.bd hb).1
        exact gG.only (S := (· = n)) (Only.own (.inr rfl)) (fun b hb e => by have := hq3 b hb; have e : b = n := e; omega)
    · have e1 : dTo pcs (j + 1) = ((dTo pcs j).1, (dTo pcs j).2 + 1) := by
        rw [hstep, dstep, if_neg hne]
        by_cases h0 : 0 < j
        · have : recP pc = none := by
            cases hh : recP pc with
            | none => rfl
            | some r => exact absurd ⟨h0, by rw [hh]; rfl⟩ hgood
          rw [if_pos h0, this]
        · rw [if_neg h0]
      obtain ⟨r0, hr0⟩ : ∃ r0, r0 = (recP pc).getD nilR := ⟨_, rfl⟩
      rw [show recA pc = .tuple ⟨[recV r0, .bool (recP pc).isSome]⟩ by rw [hr0]] at hr
      obtain ⟨z2, hz2⟩ : ∃ z2, z2 = (z1.row (recL nilR) 6).own z1.q (recL r0) 6 := ⟨_, rfl⟩
      have n2 : New z1 z2 := by rw [hz2]; exact (New.row _ _ _).own (Nat.le_refl _)
      have u1 := p1.le n2.le
      have u2 := p2.le n2.le
      have ld := u2.rw.ld (P := Pg) agg3 (k := 0) rfl
      have st := u2.store (P := Pg) (k := 0) (t := 3) (v := iV ((dTo pcs j).2 + 1)) (vs := [iV ((dTo pcs j).2 + 1)]) rfl size3 rfl (by simp) rfl
      have O4 : Only (· = n + 1) z1 (z2.own (n + 1) [iV ((dTo pcs j).2 + 1)] 1) := n2.only.trans' (Only.own (S := (· = n + 1)) (.inr rfl)) fun _ _ e => .inl e
      have hrd : RoundG Pg (τ.q + 1) [.bool (decide (0 < j)), .slice q1 l1 c1] z (Fm 45 (ov (Decode_l1 n (n + 1) 37 [.pointer (some ⟨a1, 0, none⟩)]) g0)) [21, 22] Decode_c1_as Decode_c1_bo τ.q [⟨Unit, .normal, fun _ => [], fun _ => [], fun _ x => x = z2.own (n + 1) [iV ((dTo pcs j).2 + 1)] 1⟩] := by
        subst hz2
        by_cases h0 : 0 < j
        · have hf : (recP pc).isSome = false := by
            cases hh : (recP pc).isSome with
            | false => rfl
            | true => exact absurd ⟨h0, hh⟩ hgood
          rw [hf] at hr
          rw [decide_eq_true h0]
          exact Decode_y1b (by rw [kl, hL]) (by rw [hz1, hL]) hr ld st rfl (by omega)
        · rw [decide_eq_false h0]
          exact Decode_y1c (by rw [kl, hL]) (by rw [hz1, hL]) hr ld st rfl (by omega)
      refine fin _ hrd q d _ O4 (fun y hy => .inr (.inl hy)) (by show min _ (n + 1) ≤ _; omega) ?_ ?_ ?_
      · rw [e1]; exact u1.own (by omega)
      · rw [e1]; exact u2.put
      · rw [e1]; exact (pG.le n2.le).only (S := (· = n + 1)) (Only.own (.inr rfl)) (fun b hb e => by have := (pG.bd hb).1; have e : b = n + 1 := e; omega)
  have hrun : RunsQ Pg 37 [.func (.yield (τ.q + 1)) ⟨[]⟩ ⟨[]⟩, .pointer (some ⟨a1, 0, none⟩)] τa.re fun v s => v = .tuple ⟨[]⟩ ∧ K pcs.length s := by
    have ld := (oa.le Na).rw.ld (P := Pg) agg22 (k := 0) rfl
    subst ht1
    refine pcs1_ra ld k2 (Pr := fun _ => False) (P0 := fun z => K pcs.length z) ?_ (fun _ h => h.elim) (fun z h => pcs1_t1x0a ⟨rfl, h⟩)
    refine pcs1_loop1 (Inv := fun k i z => ∃ j : Nat, i = (j : Int) ∧ j + k = pcs.length ∧ K j z) ?_ pcs.length 0 σ3 ⟨0, rfl, by omega, K0⟩
    rintro k i z ⟨j, rfl, hk, hK⟩
    by_cases hj : j < pcs.length
    rotate_left
    · have : j = pcs.length := by omega
      subst this
      exact pcs1_s1f hK (by omega)
    obtain ⟨pc, hpc⟩ : ∃ pc, pcs[j]? = some pc := ⟨pcs[j], by simp [hj]⟩
    obtain ⟨q, d, kB, kP, krest⟩ := id hK
    obtain ⟨v, hv, q1, l1, c1, rfl, hb1, hat⟩ := kP j pc hpc
    have hl1 := hb1.leng
    have ld : loadA Pg z 22 (aadd ⟨B, 0, none⟩ (Int.toNat (j : Int) * 1)) = some (.slice q1 l1 c1) := kB.rw.load1 agg22 (by simpa using hv)
    by_cases he : pc = []
    · subst he
      have hs : dTo pcs (j + 1) = dTo pcs j := by rw [dTo_snoc hpc, dstep, if_pos rfl]
      have hK' : K (j + 1) z := by
        obtain ⟨k1, k2, kG, kr⟩ := krest
        exact ⟨q, d, kB, kP, by rw [hs]; exact k1, by rw [hs]; exact k2, by rw [hs]; exact kG, by rw [hs]; exact kr⟩
      simp at hl1
      exact pcs1_s1e ld ⟨k - 1, by omega, j + 1, by omega, by omega, hK'⟩ (by omega) (by omega) (by omega) (by omega)
    · obtain ⟨zz, hy, hK'⟩ := round j z pc q1 l1 c1 hK hpc he hb1 hat
      have hpos : 0 < l1 := by have := List.length_pos_iff.2 he; omega
      by_cases h0 : 0 < j
      · rw [decide_eq_true h0] at hy
        exact pcs1_s1a ld hy ⟨k - 1, by omega, j + 1, by omega, by omega, hK'⟩ (by omega) (by omega) (by omega) (by omega) (by omega)
      · rw [decide_eq_false h0] at hy
        exact pcs1_s1c ld hy ⟨k - 1, by omega, j + 1, by omega, by omega, hK'⟩ (by omega) (by omega) (by omega) (by omega) (by omega)
  obtain ⟨v, s, h1, rfl, q, d, kB, kP, k1, k2, kG, kd, kl, kn, kw, ko, kz⟩ := hrun
  have n3nx : τa.q ≤ σ3.q := N3.nx
  have eτ : (τ.add .defd).add (.loop (Fm 45 (ov (Decode_l1 n (n + 1) 37 [.pointer (some ⟨a1, 0, none⟩)]) g0)) (⟨[21, 22]⟩ : Array Tmp).toList Decode_c1_as Decode_c1_bo .ready none τ.q) = τa := by rw [hτa, hL]; rfl
  rw [eτ]
  have w2 : ∀ z : St, Only (· = τ.q + 1) z (z.put (τ.q + 1) (.loop (Fm 45 (ov (Decode_l1 n (n + 1) 37 [.pointer (some ⟨a1, 0, none⟩)]) g0)) (⟨[21, 22]⟩ : Array Tmp).toList Decode_c1_as Decode_c1_bo .exhausted none τ.q)) := fun z => Only.put (.inr rfl)
  by_cases hlw : s.low ≤ n + 1
  · have hle : Le s ⟨s.heap, s.q, min τa.low s.low⟩ := ⟨Nat.le_refl _, fun _ _ => rfl⟩
    refine ⟨_, ⟨s.heap, s.q, min τa.low s.low⟩, .ready, none, mut_c h1 (by omega) (by omega), by rw [kl, hL]; rfl, .inl ⟨rfl, rfl⟩, .inl ⟨rfl, ?_⟩⟩
    have w := w2 ⟨s.heap, s.q, min τa.low s.low⟩
    refine hQ _ q d σ3.q (fun b hb => (w.get b (by show b < s.q; omega) (by omega)).trans (ko b hb)) (w.own' (k1.le hle) (fun e => by have e : n = τ.q + 1 := e; omega)) (w.own' (k2.le hle) (fun e => by have e : n + 1 = τ.q + 1 := e; omega)) (by omega) ((kG.le hle).only w (fun b hb e => by have := (kG.bd hb).1; have e : b = τ.q + 1 := e; omega)) ((w.get τ.q (by show τ.q < s.q; omega) (by omega)).trans kd) (by show τ.q < s.q; omega) (by show n ≤ min (min _ _) _; omega)
  · have kz := kz.resolve_right hlw
    by_cases hl2 : τa.q ≤ s.low
    · refine ⟨_, τa, .ready, none, pure_c h1 hl2 rfl, by rw [Ll, hL]; rfl, .inl ⟨rfl, rfl⟩, .inl ⟨rfl, ?_⟩⟩
      have w := w2 τa
      refine hQ _ none 0 σ3.q (fun b hb => (w.get b (by omega) (by omega)).trans (hN.le.get b (by omega))) ?_ ?_ (by omega) ?_ ((w.get τ.q (by omega) (by omega)).trans Ld) (by show τ.q < τa.q; omega) (by show n ≤ min _ _; omega)
      · rw [kz]; exact w.own' (o1.le hN.le) (fun e => by have e : n = τ.q + 1 := e; omega)
      · rw [kz]; exact w.own' (o2.le hN.le) (fun e => by have e : n + 1 = τ.q + 1 := e; omega)
      · rw [kz]; exact Gr.nil
    · have hle : Le s ⟨s.heap, s.q, min τa.low s.low⟩ := ⟨Nat.le_refl _, fun _ _ => rfl⟩
      refine ⟨_, ⟨s.heap, s.q, min τa.low s.low⟩, .ready, none, mut_c h1 (by omega) (by omega), by rw [kl, hL]; rfl, .inl ⟨rfl, rfl⟩, .inl ⟨rfl, ?_⟩⟩
      have w := w2 ⟨s.heap, s.q, min τa.low s.low⟩
      refine hQ _ q d σ3.q (fun b hb => (w.get b (by show b < s.q; omega) (by omega)).trans (ko b hb)) (w.own' (k1.le hle) (fun e => by have e : n = τ.q + 1 := e; omega)) (w.own' (k2.le hle) (fun e => by have e : n + 1 = τ.q + 1 := e; omega)) (by omega) ((kG.le hle).only w (fun b hb e => by have := (kG.bd hb).1; have e : b = τ.q + 1 := e; omega)) ((w.get τ.q (by show τ.q < s.q; omega) (by omega)).trans kd) (by show τ.q < s.q; omega) (by show n ≤ min (min _ _) _; omega)
end
def decL (bs : List Int) : List Rec × Int := dTo (splitB bs) (splitB bs).length
section
variable {σ τ : St} {bs : List Int} {p : Option Addr} {l c : Nat}
theorem copy_bytes {q : Nat} {cs : List Value} (o : Own σ q cs 1) (hc : cs.length = l) (h : BytesP σ p l bs) : ∃ σ', effOp Pg (evL [.slice (some ⟨q, 0, none⟩) l l, .slice p l c]) σ (.call { callee := .builtin .copy, args := ⟨tmpsTo 2⟩, argTypes := ⟨[22, 22]⟩ }) = some (iV (l : Int), σ') ∧ Own σ' q (bs.map byV) 1 ∧ Only (· = q) σ σ' := by
 have hl := BytesP.len h
 have he : elemOfSlice Pg 22 = some (5, 1) := by kernel_rfl
 have e0 : ∀ l : List Value, evL l (.tmp 0) = l.getD 0 undef := fun _ => rfl
 have e1 : ∀ l : List Value, evL l (.tmp 1) = l.getD 1 undef := fun _ => rfl
 have hmin : Nat.min l l = l := Nat.min_self l
 have hsrc : srcCells σ 1 (.slice p l 0) = some (l, bs.map byV) := by
  cases p with
  | none =>
   have h0 : l = 0 := h.1.2
   subst h0
   have : bs = [] := List.eq_nil_of_length_eq_zero hl
   subst this
   rfl
  | some a =>
   have hr : Row σ a (flat (bs.map byV)) := h.1.2
   rw [flatB] at hr
   have hrd := hr.rd
   rw [List.length_map, hl] at hrd
   simp only [srcCells, Nat.mul_one, hrd, Option.map_some]
 by_cases h0 : l = 0
 ·subst h0
  have hb : bs = [] := List.eq_nil_of_length_eq_zero hl
  have hcs : cs = [] := List.eq_nil_of_length_eq_zero hc
  subst hb hcs
  refine ⟨σ, ?_, o, Only.refl _ _⟩
  unfold effOp
  simp only [show tmpsTo 2 = [.tmp 0, .tmp 1] from rfl, List.map_cons, List.map_nil, e0, e1, List.getD_cons_zero, List.getD_cons_succ, he, hmin, hsrc]
  rfl
 ·have hw : writeRow σ ⟨q, 0, none⟩ (bs.map byV) = some (σ.own q (bs.map byV) 1) := by
   have h2 : (Nat.beq 0 0 && Nat.ble (0 + (bs.map byV).length) cs.length && !false && (bs.map byV).all cellB) = true := by
    rw [cellsB, (ble_iff _ _).2 (by simp; omega)]; rfl
   unfold writeRow
   simp only [o.get, stampOf, Option.getD_none, h2, cond_true, fVs_eq, St.write_eq]
   unfold St.own
   have hd : cs.drop (0 + (bs.map byV).length) = [] := List.drop_eq_nil_of_le (by simp; omega)
   rw [hd]
   simp only [List.take_zero, List.nil_append, List.append_nil]
   rw [show (bs.map byV).length = cs.length by simp; omega]
  have hb : Nat.beq l 0 = false := by rw [Bool.eq_false_iff]; intro e; exact h0 (Nat.eq_of_beq_eq_true e)
  refine ⟨σ.own q (bs.map byV) 1, ?_, o.put, Only.own (.inr rfl)⟩
  unfold effOp
  simp only [show tmpsTo 2 = [.tmp 0, .tmp 1] from rfl, List.map_cons, List.map_nil, e0, e1, List.getD_cons_zero, List.getD_cons_succ, he, hmin, hsrc, hb, cond_false, hw]
  rfl
theorem own_bs {q : Nat} (o : Own σ q (bs.map byV) 1) (hl : bs.length = l) (hb : l ≤ 1073741824) : BS σ (some ⟨q, 0, none⟩) l l bs :=
 bs_of o.rw hl (by simp [eszOk, o.get, stampOf, extOf]) (by rw [capLow_ex (ex_small hb)]; exact Nat.le_refl _)
theorem Decode_c (h : BytesP σ p l bs) (hb : Bts bs) (hl : l ≤ 1000000) :
  ((5000 < l ∨ 60 < (decL bs).1.length) ∧ CallsA Pg 8 [.slice p l c] σ (.tuple ⟨[.slice none 0 0, iV 0, iV 3]⟩) σ) ∨
  (l ≤ 5000 ∧ (decL bs).1.length ≤ 60 ∧ ∃ q d σ', CallsA Pg 8 [.slice p l c] σ (.tuple ⟨[.slice q (decL bs).1.length d, iV (decL bs).2, iV 0]⟩) σ' ∧ New σ σ' ∧ RecsP σ' 40 q (decL bs).1.length (decL bs).1 ∧ ∀ b, AtP q b → σ.q ≤ b) := by
 have hbl := BytesP.len h
 have N0 : New σ.re ((σ.re.row [.slice none 0 0] 1).row [iV 0] 1) := (New.row _ _ _).row'
 have o1 : Own ((σ.re.row [.slice none 0 0] 1).row [iV 0] 1) σ.q [.slice none 0 0] 1 := (own_new _ _ _).row
 have o2 : Own ((σ.re.row [.slice none 0 0] 1).row [iV 0] 1) (σ.q + 1) [iV 0] 1 := own_new _ _ _
 by_cases h5 : 5000 < l
 ·refine .inl ⟨.inl h5, RunsQ.pure (Decode_ra ⟨rfl, ?_⟩ (by omega))⟩
  show σ.q ≤ min (min σ.q σ.q) (σ.q + 1)
  omega
 have mk := make_sl (P := Pg) (σ := (σ.re.row [.slice none 0 0] 1).row [iV 0] 1) (st := 22) (e := 5) (z := .int .u8 0) (n := 1) (by kernel_rfl) (by kernel_rfl) (len := l) (by omega)
 obtain ⟨s1, hs1⟩ : ∃ s1, s1 = ((σ.re.row [.slice none 0 0] 1).row [iV 0] 1).row (zerosA [.int .u8 0] l) 1 := ⟨_, rfl⟩
 have N1 : New σ.re s1 := by rw [hs1]; exact N0.row'
 have n1 : New ((σ.re.row [.slice none 0 0] 1).row [iV 0] 1) s1 := by rw [hs1]; exact New.row _ _ _
 have o3 : Own s1 (σ.q + 2) (zerosA [.int .u8 0] l) 1 := by rw [hs1]; exact own_new _ _ _
 obtain ⟨s3, kc, oc, wc⟩ := copy_bytes (c := c) o3 (by rw [zerosA_len]; simp) ((SlV.le h (le0 σ)).le N1.le)
 have N3 : New σ.re s3 := N1.of_only wc fun b hb => by have hb : b = σ.q + 2 := hb; show σ.q ≤ b; omega
 have w1 : Own s3 σ.q [.slice none 0 0] 1 := wc.own' (o1.le n1.le) (fun e => by have e : σ.q = σ.q + 2 := e; omega)
 have w2 : Own s3 (σ.q + 1) [iV 0] 1 := wc.own' (o2.le n1.le) (fun e => by have e : σ.q + 1 = σ.q + 2 := e; omega)
 obtain ⟨b, s6, k6, n6, ob, hb6⟩ := pieces_c (σ := s3) (p := some ⟨σ.q + 2, 0, none⟩) (l := l) (c := l)
 have N6 := N3.trans n6
 have bd := dTo_bd (splitB bs) (splitB bs).length
 have hR := dec_range (n := σ.q) (a1 := b) (τ := s6) (p := some ⟨σ.q + 2, 0, none⟩) (l := l) (c := l) (bs := bs)
  (Pn := fun z => ∃ q d n1, (∀ b, b < σ.q → getB z.heap b = getB σ.heap b) ∧ Own z σ.q [.slice q (decL bs).1.length d] 1 ∧ Own z (σ.q + 1) [iV (decL bs).2] 1 ∧ s6.q + 2 ≤ n1 ∧ Gr Pg z n1 40 6 q (decL bs).1.length d ((decL bs).1.map recV) ∧ getB z.heap s6.q = some .defd ∧ s6.q < z.q ∧ σ.q ≤ z.low)
  hb (by omega) ob ((own_bs oc hbl (by omega)).le n6.le) (w1.le n6.le) (w2.le n6.le) (by rintro k ⟨_, e, rfl⟩; cases e; show σ.q + 1 < σ.q + 2; omega) N6.lw
  (fun z q d n1 g0 g1 g2 g3 g4 g5 g6 g7 => ⟨q, d, n1, fun b hb => (g0 b hb).trans (N6.le.get b hb), g1, g2, g3, g4, g5, g6, g7⟩)
 have hs6 : σ.q + 2 ≤ s6.q := by have h1 := (oc.le n6.le).lt; omega
 have key : RunsQ Pg 8 [.slice p l c] σ.re fun v s => New σ.re s ∧ ((60 < (decL bs).1.length ∧ v = .tuple ⟨[.slice none 0 0, iV 0, iV 3]⟩) ∨ ((decL bs).1.length ≤ 60 ∧ ∃ q d, v = .tuple ⟨[.slice q (decL bs).1.length d, iV (decL bs).2, iV 0]⟩ ∧ RecsP s 40 q (decL bs).1.length (decL bs).1 ∧ ∀ b, AtP q b → σ.q ≤ b)) := by
  subst hs1
  refine Decode_rb mk kc k6 hR ?_ (by omega)
  rintro z ⟨q, d, n1, g0, g1, g2, g3, g4, g5, g6, g7⟩
  have l1 := g1.rw.ld (P := Pg) agg24 (k := 0) rfl
  have l2 := g2.rw.ld (P := Pg) agg3 (k := 0) rfl
  have tail : ∀ (v1 : Value) (m : Int), ∃ s, ShutR [s6.q] ((z.own σ.q [v1] 1).own (σ.q + 1) [iV m] 1) s ∧ Own s σ.q [v1] 1 ∧ Own s (σ.q + 1) [iV m] 1 ∧ New σ.re s ∧ ∀ q d n1, s6.q + 2 ≤ n1 → Gr Pg z n1 40 6 q (decL bs).1.length d ((decL bs).1.map recV) → RecsP s 40 q (decL bs).1.length (decL bs).1 := by
   intro v1 m
   have kk : Only (fun y => y = σ.q ∨ y = σ.q + 1) z ((z.own σ.q [v1] 1).own (σ.q + 1) [iV m] 1) := ((Only.own (S := (· = σ.q)) (.inr rfl)).mono (T := fun y => y = σ.q ∨ y = σ.q + 1) fun b _ e => .inl e).trans' (Only.own (S := (· = σ.q + 1)) (.inr rfl)) (fun b _ e => .inl (.inr e))
   have q1 := (g1.put (ds := [v1])).own (ds := [iV m]) (m := 1) (c := σ.q + 1) (by omega)
   have q2 := (g2.own (ds := [v1]) (m := 1) (c := σ.q) (by omega)).put (ds := [iV m])
   obtain ⟨z8, hz8⟩ : ∃ z8, z8 = (z.own σ.q [v1] 1).own (σ.q + 1) [iV m] 1 := ⟨_, rfl⟩
   have g1 : Own z8 σ.q [v1] 1 := by
    rw [hz8]
    refine ⟨?_, q1.lt⟩
    have := q1.get
    simpa using this
   have g2 : Own z8 (σ.q + 1) [iV m] 1 := by rw [hz8]; exact q2
   rw [← hz8] at kk ⊢
   have hd : getB z8.heap s6.q = some .defd := (kk.get _ g6 (by omega)).trans g5
   obtain ⟨s, m1, m2, m3, m4⟩ := shut_all (ms := [s6.q]) (σ := z8) (by intro d hd'; simp at hd'; rw [hd']; exact hd) (by simp)
   have n8 : z8.q = z.q := by rw [hz8]; rfl
   have lo8 : σ.q ≤ z8.low := by rw [hz8]; show σ.q ≤ min (min _ _) _; omega
   refine ⟨s, m1, ⟨(m3 _ (by simp; omega)).trans g1.get, by rw [m2]; exact g1.lt⟩, ⟨(m3 _ (by simp; omega)).trans g2.get, by rw [m2]; exact g2.lt⟩, ⟨⟨by show σ.q ≤ s.q; omega, fun b hb => ?_⟩, fun k e1 e2 => ?_⟩, fun q d n1 hn1 hG => ?_⟩
   ·have hb : b < σ.q := hb
    exact (m3 b (by simp; omega)).trans ((kk.get b (by omega) (by omega)).trans (g0 b hb))
   ·have e2 : k ≤ σ.q := e2
    have := m4 σ.q lo8 (by intro d hd'; simp at hd'; omega)
    omega
   ·have hh : SlV Pg z8 40 6 q (decL bs).1.length ((decL bs).1.map recV) := (hG.only kk (fun b hb e => by have := (hG.bd hb).1; omega)).slv
    refine ⟨⟨hh.1.1, ?_⟩, hh.2⟩
    cases q with
    | none => exact hh.1.2
    | some a =>
     have hrow : Row z8 a (flat ((decL bs).1.map recV)) := hh.1.2
     have hab := (hG.bd ⟨a, rfl, rfl⟩).1
     refine ⟨?_, by rw [m2]; exact hrow.lt⟩
     have hrd := hrow.rd
     unfold readRow at hrd ⊢
     rw [m3 _ (by simp; omega)]; exact hrd
  by_cases h60 : 60 < (decL bs).1.length
  ·have st1 := g1.store (P := Pg) (k := 0) (t := 24) (v := .slice none 0 0) (vs := [.slice none 0 0]) (ds := [.slice none 0 0]) rfl size24 rfl (by simp) rfl
   have p2 := g2.own (ds := [.slice none 0 0]) (m := 1) (c := σ.q) (by omega)
   have st2 := p2.store (P := Pg) (k := 0) (t := 3) (v := iV 0) (vs := [iV 0]) (ds := [iV 0]) rfl size3 rfl (by simp) rfl
   obtain ⟨s, m1, u1, u2, hN, _⟩ := tail (.slice none 0 0) 0
   exact Decode_t1xna l1 st1 st2 m1 (u1.rw.ld agg24 (k := 0) rfl) (u2.rw.ld agg3 (k := 0) rfl) ⟨hN, .inl ⟨h60, rfl⟩⟩ (by omega)
  ·have st1 := g1.store (P := Pg) (k := 0) (t := 24) (v := .slice q (decL bs).1.length d) (vs := [.slice q (decL bs).1.length d]) (ds := [.slice q (decL bs).1.length d]) rfl size24 rfl (by simp) rfl
   have p2 := g2.own (ds := [.slice q (decL bs).1.length d]) (m := 1) (c := σ.q) (by omega)
   have st2 := p2.store (P := Pg) (k := 0) (t := 3) (v := iV (decL bs).2) (vs := [iV (decL bs).2]) (ds := [iV (decL bs).2]) rfl size3 rfl (by simp) rfl
   obtain ⟨s, m1, u1, u2, hN, hG⟩ := tail (.slice q (decL bs).1.length d) (decL bs).2
   have hlt : ∀ a, q = some a → a.block < z.q := fun a e => (g4.bd ⟨a, e, rfl⟩).2
   have hge : ∀ b, AtP q b → σ.q ≤ b := fun b hb => by have := (g4.bd hb).1; omega
   exact Decode_t1xnb l1 l2 st1 st2 (belowL_cons (belowB_ptr p2.lt) (belowL_cons (belowB_rig rfl) belowL_nil)) ⟨⟨p2.lt, rfl⟩, p2.rw.ld agg3 (k := 0) rfl⟩ m1 (u1.rw.ld agg24 (k := 0) rfl) (u2.rw.ld agg3 (k := 0) rfl) hlt ⟨hN, .inr ⟨by omega, q, d, rfl, hG q d n1 g3 g4, hge⟩⟩ (by omega) g1.lt g2.lt
 by_cases h60 : 60 < (decL bs).1.length
 ·refine .inl ⟨.inr h60, RunsQ.pure (key.mono ?_)⟩
  rintro v s ⟨hN, ⟨_, e⟩ | ⟨e, _⟩⟩
  ·exact ⟨e, hN.lw⟩
  ·omega
 ·refine .inr ⟨by omega, by omega, ?_⟩
  obtain ⟨v, σ', e1, e2, q, d, rfl, e3, e4⟩ := RunsQ.new (Q := fun v s => ∃ q d, v = .tuple ⟨[.slice q (decL bs).1.length d, iV (decL bs).2, iV 0]⟩ ∧ RecsP s 40 q (decL bs).1.length (decL bs).1 ∧ ∀ b, AtP q b → σ.q ≤ b) (key.mono (by
   rintro v s ⟨hN, ⟨e, _⟩ | ⟨_, e⟩⟩
   ·omega
   ·exact ⟨hN, e⟩)) (by
   rintro v s s' ⟨q, d, rfl, g, g'⟩ hle; exact ⟨q, d, rfl, SlV.le g hle, g'⟩) (by
   rintro v s hr ⟨q, d, rfl, g, g'⟩
   refine ⟨q, d, rfl, ?_, g'⟩
   cases q with
   | none => exact slv_none g
   | some a => exact Bool.noConfusion (show false = true from hr))
  exact ⟨q, d, σ', e1, e2, e3, e4⟩
end
section
variable {σ : St}
theorem RowsP.single {ts te b : Nat} {p : Option Addr} {l c : Nat} {xs : List Rec} (ha : aggT Tryd.prog ts = some false) (o : Own σ b [.slice p l c] 1) (h : RecsP σ te p l xs) : RowsP σ ts te (some ⟨b, 0, none⟩) 1 [xs] := by
 have hl := h.len
 refine ⟨[.slice p l c], ⟨⟨rfl, o.rw⟩, rfl, ?_⟩, rfl, ?_⟩
 ·intro v hv
  simp at hv
  subst hv
  exact .inl ⟨ha, rfl, rfl⟩
 ·intro i r hi
  rcases i with _ | i
  ·cases hi; exact ⟨p, c, by rw [hl]; rfl, by rw [hl]; exact h⟩
  ·simp at hi
theorem faultZ_one {xs : List Rec} : faultZ [xs] = if 60 < xs.length then 3 else if xs.all rightB then 0 else 1 := by
 unfold faultZ
 by_cases h : xs.length ≤ 60
 ·cases h2 : xs.all rightB <;> simp [h, h2, show ¬ 60 < xs.length by omega]
 ·simp [h, show 60 < xs.length by omega]
theorem fileTo_len {l : List Rec} (h : l.all rightB = true) : ∀ s, ((l.take s).flatMap frameB).length ≤ 55 * s := by
 intro s
 induction s with
 | zero => simp
 | succ s ih =>
  by_cases hs : s < l.length
  ·have hx : l[s]? = some l[s] := by simp [hs]
   have := frame_len (List.all_eq_true.1 h _ (List.mem_of_getElem? hx))
   rw [take_snoc hx, List.flatMap_append, List.length_append]
   simp only [List.flatMap_cons, List.flatMap_nil, List.append_nil]
   omega
  ·rw [List.take_of_length_le (by omega)] at ih ⊢
   omega
theorem Encode_c {p : Option Addr} {l c : Nat} {xs : List Rec} (h : RecsP σ 40 p l xs) (hl : l ≤ 1073741824) (hb : ∀ x ∈ xs, Byte x) :
  (faultZ [xs] ≠ 0 ∧ CallsA Tryd.prog 13 [.slice p l c] σ (.tuple ⟨[.slice none 0 0, iV (faultZ [xs])]⟩) σ) ∨
  (faultZ [xs] = 0 ∧ ∃ q d σ', CallsA Tryd.prog 13 [.slice p l c] σ (.tuple ⟨[.slice q (fileB xs).length d, iV 0]⟩) σ' ∧ New σ σ' ∧ BytesP σ' q (fileB xs).length (fileB xs) ∧ CutS σ' q (fileB xs).length d) := by
 have hlen := h.len
 have N1 : New σ.re (σ.re.row [.slice p l c] 1) := New.row _ _ _
 have o1 : Own (σ.re.row [.slice p l c] 1) σ.q [.slice p l c] 1 := own_new _ _ _
 have h1 : RecsP (σ.re.row [.slice p l c] 1) 40 p l xs := SlV.le (SlV.le h (le0 σ)) N1.le
 have k1 := checked_c (c := 1) (RowsP.single agg24 o1 h1) (by omega) (by intro r hr; simp at hr; subst hr; exact ⟨by omega, hb⟩)
 by_cases hz : faultZ [xs] = 0
 rotate_left
 ·exact .inl ⟨hz, (Encode_ra k1 ⟨rfl, N1.lw⟩ hz).pure⟩
 right
 have hz' := hz
 rw [faultZ_one] at hz
 have h60 : xs.length ≤ 60 := by
  by_cases e : 60 < xs.length
  ·rw [if_pos e] at hz; cases hz
  ·omega
 have hall : xs.all rightB = true := by
  rw [if_neg (by omega)] at hz
  cases e : xs.all rightB with
  | true => rfl
  | false => rw [e] at hz; cases hz
 refine ⟨hz', ?_⟩
 suffices hmain : RunsQ Tryd.prog 13 [.slice p l c] σ.re fun v s => New σ.re s ∧ ∃ q d, v = .tuple ⟨[.slice q (fileB xs).length d, iV 0]⟩ ∧ BytesP s q (fileB xs).length (fileB xs) ∧ (∀ b, AtP q b → σ.q ≤ b) ∧ CutS s q (fileB xs).length d by
  obtain ⟨q, d, σ', g1, g2, g3, _, g5⟩ := RunsQ.newCut (W := fun v => .tuple ⟨[v, iV 0]⟩) (fun p c h => by cases p with | none => rfl | some a => exact Bool.noConfusion (show false = true from h)) hmain
  exact ⟨q, d, σ', g1, g2, g3, g5⟩
 refine Encode_rb k1 (P0 := fun p l c τ => l = (fileB xs).length ∧ New σ.re τ ∧ BytesP τ p l (fileB xs) ∧ (∀ b, AtP p b → σ.q ≤ b) ∧ CutS τ p l c) (Encode_loop1 (Inv := fun k q m d i τ => ∃ s : Nat, i = s ∧ s + k = l ∧ m = ((xs.take s).flatMap frameB).length ∧ New σ.re τ ∧ BytesP τ q m ((xs.take s).flatMap frameB) ∧ (∀ b, AtP q b → σ.q ≤ b) ∧ CutS τ q m d) ?_ l none 0 0 0 _ ⟨0, rfl, by omega, rfl, N1, ⟨⟨rfl, rfl⟩, rfl, by simp⟩, fun b hb => (AtP.none hb).elim, rfl⟩) (by
  rintro q m d τ ⟨rfl, hN, hp, hq, hc⟩
  exact Encode_t1x0a ⟨hN, q, d, rfl, hp, hq, hc⟩) (by omega)
 rintro k q m d i τ ⟨s, rfl, hk, rfl, hN, hp, hq, hc⟩
 by_cases hs : s < l
 rotate_left
 ·rw [List.take_of_length_le (by omega)] at hp hc ⊢
  exact Encode_s1b ⟨rfl, hN, hp, hq, hc⟩ (by omega)
 obtain ⟨a, rfl, x, hx, ld⟩ := slv_at ((SlV.le h (le0 σ)).le hN.le) hs
 have hxr := List.all_eq_true.1 hall x (List.mem_of_getElem? hx)
 have hf := frame_len hxr
 have hto := fileTo_len hall s
 have N2 : New τ ((τ.row (rcd 0 0 0 0 0 0) 6).own τ.q (recL x) 6) := (New.row _ _ _).own (Nat.le_refl _)
 obtain ⟨p2, c2, τ2, k2, n2, b2, _⟩ := frame_c (σ := (τ.row (rcd 0 0 0 0 0 0) 6).own τ.q (recL x) 6) hxr
 obtain ⟨p3, c3, τ3, k3, n3, b3, f3, g3⟩ := join2 (c := d) (d := c2) ((SlV.le hp N2.le).le n2.le) b2 (by omega)
 have e : (xs.take (s + 1)).flatMap frameB = (xs.take s).flatMap frameB ++ frameB x := by rw [take_snoc hx, List.flatMap_append]; simp
 exact Encode_s1a ld k2 k3 ⟨k - 1, by omega, s + 1, by omega, by omega, by rw [e], (((hN.trans N2).trans n2).row').trans n3, by rw [e]; exact b3, fun b hb => by have h1 := f3 b hb; have h2 := (hN.trans (N2.trans n2)).nx; exact Nat.le_trans h2 h1, g3⟩ (by omega)
end
def escC (x : Rec) : List Int := (contentB x).flatMap escB
theorem escB_no (c : Int) : (126 : Int) ∉ escB c := by
 unfold escB
 split
 ·simp
 ·split
  ·simp
  ·rename_i h _; simp; omega
theorem escC_no (x : Rec) : (126 : Int) ∉ escC x := fun h => by
 obtain ⟨c, _, h⟩ := List.mem_flatMap.1 h
 exact escB_no c h
theorem escC_ne (x : Rec) : escC x ≠ [] := by
 unfold escC contentB countedB
 rw [List.cons_append, List.flatMap_cons]
 unfold escB
 split
 ·simp
 ·split <;> simp
theorem splitB_app : ∀ {a b p : List Int} {ps : List (List Int)}, (126 : Int) ∉ a → splitB b = p :: ps → splitB (a ++ b) = (a ++ p) :: ps
 | [], b, p, ps, _, h => h
 | c :: a, b, p, ps, hn, h => by
  have hc : c ≠ 126 := fun e => hn (by rw [e]; simp)
  have ih := splitB_app (a := a) (fun e => hn (List.mem_cons_of_mem _ e)) h
  rw [List.cons_append, splitB, if_neg hc, ih]
  rfl
theorem splitB_file : ∀ xs : List Rec, splitB (fileB xs) = [] :: xs.map escC
 | [] => rfl
 | x :: xs => by
  have ih := splitB_file xs
  have e : fileB (x :: xs) = 126 :: (escC x ++ fileB xs) := by
   unfold fileB; rw [List.flatMap_cons]; rfl
  rw [e, splitB, if_pos rfl, splitB_app (escC_no x) ih, List.append_nil]
  rfl
theorem dTo_recs {pcs : List (List Int)} {xs : List Rec} (h0 : pcs = [] :: xs.map escC) (hr : xs.all rightB = true) : ∀ k, k ≤ xs.length → dTo pcs (k + 1) = (xs.take k, 0)
 | 0, _ => by
  rw [dTo_snoc (pc := []) (by rw [h0]; rfl)]
  unfold dstep
  rw [if_pos rfl]; rfl
 | k + 1, hk => by
  have ih := dTo_recs h0 hr k (by omega)
  obtain ⟨x, hx⟩ : ∃ x, xs[k]? = some x := ⟨xs[k]'(by omega), List.getElem?_eq_getElem _⟩
  have hxr := List.all_eq_true.1 hr x (List.mem_of_getElem? hx)
  rw [dTo_snoc (pc := escC x) (by rw [h0]; simp [hx]), ih]
  unfold dstep
  rw [if_neg (escC_ne x), if_pos (Nat.succ_pos _), show recP (escC x) = some x from recP_yes hxr]
  show (xs.take k ++ [x], (0 : Int)) = _
  rw [take_snoc hx]
theorem decL_file {xs : List Rec} (hr : xs.all rightB = true) : decL (fileB xs) = (xs, 0) := by
 unfold decL
 have e := splitB_file xs
 have h := dTo_recs e hr xs.length (Nat.le_refl _)
 rw [show (splitB (fileB xs)).length = xs.length + 1 by rw [e]; simp, h, List.take_length]
theorem file_le : ∀ {xs : List Rec}, xs.all rightB = true → (fileB xs).length ≤ 55 * xs.length
 | [], _ => by simp [fileB]
 | x :: xs, h => by
  simp only [List.all_cons, Bool.and_eq_true] at h
  have ih := file_le h.2
  have hf := frame_len h.1
  have e : fileB (x :: xs) = frameB x ++ fileB xs := by unfold fileB; rw [List.flatMap_cons]
  rw [e, List.length_append, List.length_cons]
  omega
theorem file_bts (xs : List Rec) : Bts (fileB xs) := fun y hy => by
 obtain ⟨x, _, h⟩ := List.mem_flatMap.1 hy
 unfold frameB at h
 rcases List.mem_cons.1 h with e | e
 ·omega
 ·obtain ⟨c, hc, h⟩ := List.mem_flatMap.1 e
  have := content_bts (x := x) c hc
  unfold escB at h
  split at h
  ·simp at h; omega
  ·split at h
   ·simp at h; omega
   ·simp at h; omega
theorem faultZ_ok {xs : List Rec} (h : faultZ [xs] = 0) : xs.length ≤ 60 ∧ xs.all rightB = true := by
 rw [faultZ_one] at h
 by_cases e : 60 < xs.length
 ·rw [if_pos e] at h; cases h
 ·rw [if_neg e] at h
  cases e2 : xs.all rightB with
  | true => exact ⟨by omega, rfl⟩
  | false => rw [e2] at h; cases h
theorem faultZ_of {xs : List Rec} (h : xs.length ≤ 60) (h2 : xs.all rightB = true) : faultZ [xs] = 0 := by
 rw [faultZ_one, if_neg (by omega), h2]; rfl
theorem right_byte {xs : List Rec} (h : xs.all rightB = true) : ∀ x ∈ xs, Byte x := fun x hx => by
 have := rightB_k (List.all_eq_true.1 h x hx)
 exact ⟨this.1, by omega⟩
section
variable {σ τ : St} {bs : List Int} {p : Option Addr} {l c : Nat}
theorem BytesP.ldB {a : Addr} {I : Nat} {x : Int} {i : Int} (h : BytesP σ (some a) l bs) (hx : bs[I]? = some x) (hi : i = I) : loadA Tryd.prog σ 5 (aadd a (Int.toNat i * 1)) = some (.int .u8 x) := by
 subst hi
 rw [Int.toNat_natCast, Nat.mul_one]
 have hr : Row σ a (flat (bs.map byV)) := h.1.2
 rw [flatB] at hr
 exact hr.load1 agg5 (by simp [hx])
end
theorem idxF_none : ∀ {xs : List Int}, (126 : Int) ∉ xs → idxF xs = -1
 | [], _ => rfl
 | c :: r, hn => by
  have hc : c ≠ 126 := fun e => hn (by rw [e]; simp)
  have ih := idxF_none (xs := r) (fun e => hn (List.mem_cons_of_mem _ e))
  unfold idxF
  rw [if_neg hc, if_pos ih]
section
variable {σ τ : St} {bs pc : List Int} {p q : Option Addr} {l m c d : Nat}
structure RI (bs : List Int) (l F I j : Nat) : Prop where
 hl : bs.length = l
 hF : F ≤ I ∧ I ≤ l
 hj : (splitB bs).drop j = splitB (bs.drop F)
 hz : 0 < F ↔ 0 < j
 hn : (126 : Int) ∉ (bs.drop F).take (I - F)
end
theorem splitB_app2 : ∀ {a b : List Int} {ps : List (List Int)}, splitB b = [] :: ps → splitB (a ++ b) = splitB a ++ ps
 | [], b, ps, h => by rw [List.nil_append, h]; rfl
 | c :: a, b, ps, h => by
  have ih := splitB_app2 (a := a) h
  rw [List.cons_append]
  by_cases hc : c = 126
  ·rw [splitB, if_pos hc, ih, splitB, if_pos hc]; rfl
  ·rw [splitB, if_neg hc, ih, splitB, if_neg hc]
   cases e : splitB a with
   | nil => exact absurd e (splitB_ne a)
   | cons p q => rfl
theorem splitB_pre : ∀ (xs : List Rec) (t : List Int), splitB (fileB xs ++ 126 :: t) = [] :: (xs.map escC ++ splitB t)
 | [], t => by
  show splitB (126 :: t) = _
  rw [splitB, if_pos rfl]; rfl
 | x :: xs, t => by
  have ih := splitB_pre xs t
  have e : fileB (x :: xs) ++ 126 :: t = 126 :: (escC x ++ (fileB xs ++ 126 :: t)) := by
   unfold fileB; rw [List.flatMap_cons, List.append_assoc]; rfl
  rw [e, splitB, if_pos rfl, splitB_app (escC_no x) ih, List.append_nil]
  rfl
theorem splitB_mid (pre post : List Rec) (m : List Int) : splitB (fileB pre ++ 126 :: (m ++ fileB post)) = [] :: (pre.map escC ++ (splitB m ++ post.map escC)) := by
 rw [splitB_pre, splitB_app2 (splitB_file post)]
theorem recP_nil : recP [] = none := rfl
theorem dTo_read (pcs : List (List Int)) : ∀ k, (dTo pcs k).1 = ((pcs.take k).drop 1).filterMap recP
 | 0 => by simp [dTo]
 | k + 1 => by
  have ih := dTo_read pcs k
  cases h : pcs[k]? with
  | none =>
   rw [show dTo pcs (k + 1) = dTo pcs k by show (match pcs[k]? with | some pc => dstep (dTo pcs k) k pc | none => dTo pcs k) = _; rw [h]]
   have hk : pcs.length ≤ k := by
    rcases Nat.lt_or_ge k pcs.length with e | e
    ·rw [List.getElem?_eq_getElem e] at h; cases h
    ·exact e
   rw [ih, List.take_of_length_le hk, List.take_of_length_le (by omega)]
  | some pc =>
   have hk : k < pcs.length := by
    rcases Nat.lt_or_ge k pcs.length with e | e
    ·exact e
    ·rw [List.getElem?_eq_none e] at h; cases h
   rw [dTo_snoc h, take_snoc h]
   cases k with
   | zero =>
    unfold dstep
    rw [if_neg (Nat.lt_irrefl 0)]
    split <;> simp [dTo]
   | succ k =>
    rw [List.drop_append_of_le_length (by rw [List.length_take]; omega), List.filterMap_append, ← ih]
    unfold dstep
    rw [if_pos (Nat.succ_pos k)]
    by_cases h0 : pc = []
    ·subst h0
     rw [if_pos rfl]
     simp [recP_nil]
    ·rw [if_neg h0]
     cases e : recP pc with
     | none => simp [e]
     | some r => simp [e]
theorem decL_read (bs : List Int) : (decL bs).1 = ((splitB bs).drop 1).filterMap recP := by
 unfold decL
 rw [dTo_read, List.take_of_length_le (Nat.le_refl _)]
theorem map_escC : ∀ {xs : List Rec}, xs.all rightB = true → (xs.map escC).filterMap recP = xs
 | [], _ => rfl
 | x :: xs, h => by
  simp only [List.all_cons, Bool.and_eq_true] at h
  have e : recP (escC x) = some x := recP_yes h.1
  rw [List.map_cons, List.filterMap_cons, e, map_escC h.2]
theorem read_mid {pre post : List Rec} (m : List Int) (h1 : pre.all rightB = true) (h2 : post.all rightB = true) : (decL (fileB pre ++ 126 :: (m ++ fileB post))).1 = pre ++ ((splitB m).filterMap recP ++ post) := by
 rw [decL_read, splitB_mid]
 simp only [List.drop_succ_cons, List.drop_zero, List.filterMap_append, map_escC h1, map_escC h2]
theorem read_first {post : List Rec} (m : List Int) (h2 : post.all rightB = true) : ∃ z, (decL (m ++ fileB post)).1 = z ++ post := by
 rw [decL_read, splitB_app2 (splitB_file post)]
 refine ⟨((splitB m).drop 1).filterMap recP, ?_⟩
 have : 1 ≤ (splitB m).length := List.length_pos_iff.2 (splitB_ne m)
 rw [List.drop_append_of_le_length this, List.filterMap_append, map_escC h2]
theorem file_split {xs : List Rec} {n : Nat} {x : Rec} (hx : xs[n]? = some x) : fileB xs = fileB (xs.take n) ++ (126 :: (escC x ++ fileB (xs.drop (n + 1)))) := by
 have hn : n < xs.length := by
  rcases Nat.lt_or_ge n xs.length with e | e
  ·exact e
  ·rw [List.getElem?_eq_none e] at hx; cases hx
 have e : xs = xs.take n ++ x :: xs.drop (n + 1) := by
  have h2 : xs[n] = x := by rw [List.getElem?_eq_getElem hn] at hx; exact Option.some.inj hx
  rw [← h2, ← List.drop_eq_getElem_cons hn, List.take_append_drop]
 have e2 : fileB xs = fileB (xs.take n ++ x :: xs.drop (n + 1)) := congrArg fileB e
 rw [e2]
 unfold fileB
 rw [List.flatMap_append, List.flatMap_cons]
 rfl
theorem spoilt_law {xs : List Rec} (hr : xs.all rightB = true) {n : Nat} {x : Rec} (hx : xs[n]? = some x) {k : Nat} (hk : k < (frameB x).length) (z : Int) :
  (xs.take n ++ xs.drop (n + 1)).Sublist (decL ((fileB xs).set ((fileB (xs.take n)).length + k) z)).1 ∨
  (xs.take (n - 1) ++ xs.drop (n + 1)).Sublist (decL ((fileB xs).set ((fileB (xs.take n)).length + k) z)).1 := by
 have hall : ∀ (ys : List Rec), (∀ y ∈ ys, y ∈ xs) → ys.all rightB = true := fun ys h => List.all_eq_true.2 fun y hy => List.all_eq_true.1 hr y (h y hy)
 have h1 := hall (xs.take n) fun y hy => List.mem_of_mem_take hy
 have h2 := hall (xs.drop (n + 1)) fun y hy => List.mem_of_mem_drop hy
 rw [file_split hx, List.set_append_right _ _ (by omega), show (fileB (xs.take n)).length + k - (fileB (xs.take n)).length = k by omega]
 cases k with
 | succ k =>
  left
  have hk' : k < (escC x).length := by
   have : (frameB x).length = (escC x).length + 1 := by unfold frameB escC; simp
   omega
  rw [List.set_cons_succ, List.set_append_left _ _ hk', read_mid _ h1 h2]
  exact List.Sublist.append (List.Sublist.refl _) (List.sublist_append_right _ _)
 | zero =>
  right
  rw [List.set_cons_zero]
  cases n with
  | zero =>
   have : fileB (xs.take 0) ++ z :: (escC x ++ fileB (xs.drop (0 + 1))) = (z :: escC x) ++ fileB (xs.drop (0 + 1)) := by simp [fileB]
   rw [this]
   obtain ⟨w, hw⟩ := read_first (z :: escC x) h2
   rw [hw]
   simp
  | succ n =>
   obtain ⟨y, hy⟩ : ∃ y, xs[n]? = some y := by
    have hn : n + 1 < xs.length := by
     rcases Nat.lt_or_ge (n + 1) xs.length with e | e
     ·exact e
     ·rw [List.getElem?_eq_none e] at hx; cases hx
    exact ⟨xs[n], List.getElem?_eq_getElem _⟩
   have h3 := hall (xs.take n) fun y hy => List.mem_of_mem_take hy
   have e : fileB (xs.take (n + 1)) ++ z :: (escC x ++ fileB (xs.drop (n + 1 + 1))) = fileB (xs.take n) ++ 126 :: ((escC y ++ z :: escC x) ++ fileB (xs.drop (n + 1 + 1))) := by
    rw [take_snoc hy]
    unfold fileB
    rw [List.flatMap_append]
    simp [frameB, escC]
   rw [e, read_mid _ h3 h2]
   exact List.Sublist.append (List.Sublist.refl _) (List.sublist_append_right _ _)
theorem count_file (xs : List Rec) : (fileB xs).count 126 = xs.length := by
 have h := splitB_len (fileB xs)
 rw [splitB_file] at h
 simp at h
 omega
theorem count_set : ∀ (l : List Int) (i : Nat) (z : Int), (l.set i z).count 126 ≤ l.count 126 + 1
 | [], _, _ => by simp
 | c :: l, 0, z => by
  rw [List.set_cons_zero, List.count_cons, List.count_cons]
  split <;> split <;> omega
 | c :: l, i + 1, z => by
  rw [List.set_cons_succ, List.count_cons, List.count_cons]
  have := count_set l i z
  omega
theorem read_few (bs : List Int) : (decL bs).1.length ≤ bs.count 126 := by
 rw [decL_read]
 have h1 := List.length_filterMap_le recP ((splitB bs).drop 1)
 have h2 := splitB_len bs
 rw [List.length_drop] at h1
 omega
theorem bts_set {l : List Int} (h : Bts l) {z : Int} (hz : 0 ≤ z ∧ z ≤ 255) (i : Nat) : Bts (l.set i z) := fun x hx => by
 rcases List.mem_or_eq_of_mem_set hx with e | e
 ·exact h x e
 ·rw [e]; exact hz
theorem escB_ne (c : Int) : escB c ≠ [] := by
 unfold escB
 split
 ·simp
 ·split <;> simp
theorem esc_prefix : ∀ {cs ds : List Int}, cs.flatMap escB <+: ds.flatMap escB → cs <+: ds
 | [], ds, _ => List.nil_prefix
 | c :: cs, [], h => by
  have := List.prefix_nil.1 h
  rw [List.flatMap_cons] at this
  exact absurd (List.append_eq_nil_iff.1 this).1 (escB_ne c)
 | c :: cs, d :: ds, h => by
  rw [List.flatMap_cons, List.flatMap_cons] at h
  have key : c = d ∧ cs.flatMap escB <+: ds.flatMap escB := by
   by_cases c6 : c = 126
   ·subst c6
    by_cases d6 : d = 126
    ·subst d6
     rw [show escB 126 = [125, 94] from rfl] at h
     exact ⟨rfl, (List.cons_prefix_cons.1 (List.cons_prefix_cons.1 h).2).2⟩
    ·by_cases d5 : d = 125
     ·subst d5
      rw [show escB 126 = [125, 94] from rfl, show escB 125 = [125, 93] from rfl] at h
      have := (List.cons_prefix_cons.1 (List.cons_prefix_cons.1 h).2).1
      omega
     ·rw [show escB 126 = [125, 94] from rfl, show escB d = [d] by unfold escB; rw [if_neg d6, if_neg d5]] at h
      have := (List.cons_prefix_cons.1 h).1
      omega
   ·by_cases c5 : c = 125
    ·subst c5
     by_cases d6 : d = 126
     ·subst d6
      rw [show escB 126 = [125, 94] from rfl, show escB 125 = [125, 93] from rfl] at h
      have := (List.cons_prefix_cons.1 (List.cons_prefix_cons.1 h).2).1
      omega
     ·by_cases d5 : d = 125
      ·subst d5
       rw [show escB 125 = [125, 93] from rfl] at h
       exact ⟨rfl, (List.cons_prefix_cons.1 (List.cons_prefix_cons.1 h).2).2⟩
      ·rw [show escB 125 = [125, 93] from rfl, show escB d = [d] by unfold escB; rw [if_neg d6, if_neg d5]] at h
       have := (List.cons_prefix_cons.1 h).1
       omega
    ·rw [show escB c = [c] by unfold escB; rw [if_neg c6, if_neg c5]] at h
     by_cases d6 : d = 126
     ·subst d6
      rw [show escB 126 = [125, 94] from rfl] at h
      have := (List.cons_prefix_cons.1 h).1
      omega
     ·by_cases d5 : d = 125
      ·subst d5
       rw [show escB 125 = [125, 93] from rfl] at h
       have := (List.cons_prefix_cons.1 h).1
       omega
      ·rw [show escB d = [d] by unfold escB; rw [if_neg d6, if_neg d5]] at h
       exact List.cons_prefix_cons.1 h
  rw [key.1]
  exact List.cons_prefix_cons.2 ⟨rfl, esc_prefix key.2⟩
theorem cut_none {x : Rec} (hx : rightB x = true) {j : Nat} (hj : j < (escC x).length) : recP ((escC x).take j) = none := by
 cases e : recP ((escC x).take j) with
 | none => rfl
 | some r =>
  exfalso
  have hn : (126 : Int) ∉ (escC x).take j := fun h => escC_no x (List.mem_of_mem_take h)
  obtain ⟨h1, h2⟩ := recP_inv hn e
  have hp : (contentB r).flatMap escB <+: (contentB x).flatMap escB := by rw [← h2]; exact List.take_prefix _ _
  have hc := esc_prefix hp
  have b1 := body_len h1
  have b2 := body_len hx
  have hh : contentB r = contentB x := by
   obtain ⟨t, ht⟩ := hc
   have hl : ((bodyB r).length : Int) % 256 = ((bodyB x).length : Int) % 256 := by
    have := congrArg List.head? ht
    simpa [contentB, countedB] using this
   have hl2 : (contentB r).length = (contentB x).length := by simp [contentB, countedB]; omega
   have := congrArg List.length ht
   rw [List.length_append] at this
   have ht0 : t = [] := List.eq_nil_of_length_eq_zero (by omega)
   rw [ht0, List.append_nil] at ht
   exact ht
  rw [hh] at h2
  have := congrArg List.length h2
  rw [List.length_take] at this
  have e2 : ((contentB x).flatMap escB).length = (escC x).length := rfl
  omega
theorem dTo_pre {pcs rest : List (List Int)} {xs : List Rec} (h0 : pcs = [] :: (xs.map escC ++ rest)) (hr : xs.all rightB = true) : ∀ k, k ≤ xs.length → dTo pcs (k + 1) = (xs.take k, 0)
 | 0, _ => by
  rw [dTo_snoc (pc := []) (by rw [h0]; rfl)]
  unfold dstep
  rw [if_pos rfl]; rfl
 | k + 1, hk => by
  have ih := dTo_pre h0 hr k (by omega)
  obtain ⟨x, hx⟩ : ∃ x, xs[k]? = some x := ⟨xs[k]'(by omega), List.getElem?_eq_getElem _⟩
  have hxr := List.all_eq_true.1 hr x (List.mem_of_getElem? hx)
  rw [dTo_snoc (pc := escC x) (by rw [h0, List.getElem?_cons_succ, List.getElem?_append_left (by simp; omega)]; simp [hx]), ih]
  unfold dstep
  rw [if_neg (escC_ne x), if_pos (Nat.succ_pos _), show recP (escC x) = some x from recP_yes hxr]
  show (xs.take k ++ [x], (0 : Int)) = _
  rw [take_snoc hx]
theorem cut_law {xs : List Rec} (hr : xs.all rightB = true) {n : Nat} {x : Rec} (hx : xs[n]? = some x) {k : Nat} (hk : k < (frameB x).length) :
  decL ((fileB xs).take ((fileB (xs.take n)).length + k)) = (xs.take n, if k ≤ 1 then 0 else 1) := by
 have h1 : (xs.take n).all rightB = true := List.all_eq_true.2 fun y hy => List.all_eq_true.1 hr y (List.mem_of_mem_take hy)
 have hxr := List.all_eq_true.1 hr x (List.mem_of_getElem? hx)
 have hfl : (frameB x).length = (escC x).length + 1 := by unfold frameB escC; simp
 rw [file_split hx, List.take_length_add_append]
 cases k with
 | zero => rw [List.take_zero, List.append_nil, decL_file h1, if_pos (by omega)]
 | succ k =>
  rw [List.take_succ_cons, List.take_append_of_le_length (by omega)]
  have hno : (126 : Int) ∉ (escC x).take k := fun h => escC_no x (List.mem_of_mem_take h)
  have hs : splitB (fileB (xs.take n) ++ 126 :: (escC x).take k) = [] :: ((xs.take n).map escC ++ [(escC x).take k]) := by
   rw [splitB_pre, (idxF_no (idxF_none hno)).1]
  unfold decL
  have hd := dTo_pre hs h1 (xs.take n).length (Nat.le_refl _)
  rw [List.take_length] at hd
  have hlen : (splitB (fileB (xs.take n) ++ 126 :: (escC x).take k)).length = (xs.take n).length + 1 + 1 := by rw [hs]; simp
  rw [hlen, dTo_snoc (pc := (escC x).take k) (by rw [hs, List.getElem?_cons_succ, List.getElem?_append_right (by simp)]; simp), hd]
  unfold dstep
  by_cases h0 : k = 0
  ·subst h0
   rw [List.take_zero, if_pos rfl, if_pos (by omega)]
  ·rw [if_neg (by intro e; have := congrArg List.length e; rw [List.length_take, List.length_nil] at this; omega), if_pos (Nat.succ_pos _), cut_none hxr (by omega), if_neg (by omega)]
   rfl
section
variable {σ τ : St} {bs : List Int} {xs : List Rec} {p pb : Option Addr} {l c lb cb : Nat}
theorem cellsR : ∀ xs : List Rec, (flat (xs.map recV)).all cellB = true
 | [] => rfl
 | x :: xs => by
  have e : flat ((x :: xs).map recV) = recL x ++ flat (xs.map recV) := rfl
  rw [e, List.all_append, cellsR xs]; rfl
end
end Go.Proofs.YtffgfojabcbegaaDoor
