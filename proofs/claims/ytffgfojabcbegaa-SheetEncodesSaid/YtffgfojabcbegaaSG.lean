
import Derived.Test.YtffgfojabcbegaaSE
namespace Go.Proofs.Ytffgfojabcbegaa
open Go Go.Lay
set_option linter.unusedVariables false
set_option linter.unusedSimpArgs false
set_option maxRecDepth 20000
theorem wrap8 (n : Int) : wrapK .u8 n = n % 256 := by
 have e1 : (2 : Int) ^ 8 = 256 := by decide
 rw [wrapK_eq]
 simp only [IntKind.wrap, IntKind.bits, IntKind.signed, e1, Bool.false_and, Bool.false_eq_true, if_false]
def numB (n : Nat) : List Int := if n ≤ 127 then [(n : Int)] else ((n % 128 + 128 : Nat) : Int) :: numB (n / 128)
termination_by n
decreasing_by omega
theorem numB_small {n : Nat} (h : n ≤ 127) : numB n = [(n : Int)] := by rw [numB, if_pos h]
theorem numB_big {n : Nat} (h : 127 < n) : numB n = ((n % 128 + 128 : Nat) : Int) :: numB (n / 128) := by rw [numB, if_neg (by omega)]
theorem numB_len : ∀ (k n : Nat), n < 128 ^ k → 0 < k → (numB n).length ≤ k
 | 0, n, _, hk => by omega
 | k + 1, n, h, _ => by
  by_cases hn : n ≤ 127
  ·rw [numB_small hn]; simp
  ·rw [numB_big (by omega)]
   by_cases hk : k = 0
   ·subst hk; omega
   have := numB_len k (n / 128) (by rw [Nat.div_lt_iff_lt_mul (by omega)]; rw [Nat.pow_succ] at h; exact h) (by omega)
   simp; omega
theorem numB_byte : ∀ (n : Nat) (x : Int), x ∈ numB n → 0 ≤ x ∧ x ≤ 255 := by
 intro n
 induction n using Nat.strongRecOn with
 | _ n ih =>
  intro x hx
  by_cases hn : n ≤ 127
  ·rw [numB_small hn] at hx; simp at hx; omega
  ·rw [numB_big (by omega)] at hx
   rcases List.mem_cons.1 hx with e | e
   ·omega
   ·exact ih (n / 128) (by omega) x e
def numI (n : Int) : List Int := numB n.toNat
def fieldsL (x : Rec) : List Int := [x.m, x.s, x.t, x.k, x.a, x.b]
def bodyB (x : Rec) : List Int := (fieldsL x).flatMap numI
def chk (b : List Int) : Int × Int := b.foldl (fun p c => ((p.1 + c) % 256, (p.2 + (p.1 + c) % 256) % 256)) (0, 0)
def countedB (x : Rec) : List Int := ((bodyB x).length : Int) % 256 :: bodyB x
def contentB (x : Rec) : List Int := countedB x ++ [(chk (countedB x)).1, (chk (countedB x)).2]
def escB (c : Int) : List Int := if c = 126 then [125, 94] else if c = 125 then [125, 93] else [c]
def frameB (x : Rec) : List Int := 126 :: (contentB x).flatMap escB
def fileB (l : List Rec) : List Int := l.flatMap frameB
theorem numI_len {n : Int} (h : n ≤ 10000000) : (numI n).length ≤ 4 := by
 have e : (128 : Nat) ^ 4 = 268435456 := by decide
 exact numB_len 4 _ (by omega) (by omega)
theorem body_len {x : Rec} (h : rightB x = true) : (bodyB x).length ≤ 24 := by
 have := rightB_iff h
 have h1 := numI_len (n := x.m) (by omega)
 have h2 := numI_len (n := x.s) (by omega)
 have h3 := numI_len (n := x.t) (by omega)
 have h4 := numI_len (n := x.k) (by omega)
 have h5 := numI_len (n := x.a) (by omega)
 have h6 := numI_len (n := x.b) (by omega)
 simp [bodyB, fieldsL, List.flatMap_cons]
 omega
theorem content_len {x : Rec} (h : rightB x = true) : (contentB x).length ≤ 27 := by
 have := body_len h
 simp [contentB, countedB]; omega
theorem esc_len (c : Int) : (escB c).length ≤ 2 := by unfold escB; split; simp; split <;> simp
theorem escs_len : ∀ l : List Int, (l.flatMap escB).length ≤ 2 * l.length
 | [] => by simp
 | c :: l => by have := esc_len c; have := escs_len l; rw [List.flatMap_cons, List.length_append, List.length_cons]; omega
theorem frame_len {x : Rec} (h : rightB x = true) : (frameB x).length ≤ 55 := by
 have := content_len h
 have := escs_len (contentB x)
 rw [frameB, List.length_cons]; omega
section
variable {σ : St}
theorem RowsB.two {b : Nat} {p q : Option Addr} {c d : Nat} {r1 r2 : List Int} (o : Own σ b [.slice p r1.length c, .slice q r2.length d] 1) (h1 : BytesP σ p r1.length r1) (h2 : BytesP σ q r2.length r2) : RowsB σ (some ⟨b, 0, none⟩) 2 [r1, r2] := by
 refine ⟨[.slice p r1.length c, .slice q r2.length d], ⟨⟨rfl, o.rw⟩, rfl, ?_⟩, rfl, ?_⟩
 ·intro v hv
  simp at hv
  rcases hv with rfl | rfl <;> exact .inl ⟨agg24, rfl, rfl⟩
 ·intro i r hi
  rcases i with _ | _ | i
  ·cases hi; exact ⟨p, c, rfl, h1⟩
  ·cases hi; exact ⟨q, d, rfl, h2⟩
  ·simp at hi
theorem join_c {p : Option Addr} {l c : Nat} {rs : List (List Int)} (h : RowsB σ p l rs) (hl : l ≤ 1073741824) (hN : rs.flatten.length ≤ 1073741824) :
  ∃ p' c' σ', CallsA Try.prog 37 [.slice p l c] σ (.slice p' rs.flatten.length c') σ' ∧ New σ σ' ∧ BytesP σ' p' rs.flatten.length rs.flatten ∧ ∀ b, AtP p' b → σ.next ≤ b := by
 obtain ⟨p', c', σ', h1, h2, h3, h4⟩ := concB_c (σ := σ.re) (c := c) (h.le (le0 σ)) hl hN
 exact RunsQ.newSl (join_ra h1 ⟨h2, p', c', rfl, h3, h4⟩)
theorem join2 {p q : Option Addr} {c d : Nat} {r1 r2 : List Int} (h1 : BytesP σ p r1.length r1) (h2 : BytesP σ q r2.length r2) (hN : r1.length + r2.length ≤ 1073741824) :
  ∃ p' c' σ', CallsA Try.prog 37 [.slice (some ⟨σ.next, 0, none⟩) 2 2] (σ.row [.slice p r1.length c, .slice q r2.length d] 1) (.slice p' (r1 ++ r2).length c') σ' ∧ New (σ.row [.slice p r1.length c, .slice q r2.length d] 1) σ' ∧ BytesP σ' p' (r1 ++ r2).length (r1 ++ r2) ∧ ∀ b, AtP p' b → σ.next ≤ b := by
 have hr : RowsB (σ.row [.slice p r1.length c, .slice q r2.length d] 1) (some ⟨σ.next, 0, none⟩) 2 [r1, r2] := RowsB.two (own_new _ _ _) (SlV.le h1 (Le.row _ _ _)) (SlV.le h2 (Le.row _ _ _))
 obtain ⟨p', c', σ', h1, h2, h3, h4⟩ := join_c (c := 2) hr (by omega) (by simp; omega)
 have e : [r1, r2].flatten = r1 ++ r2 := by simp
 rw [e] at h1 h3
 exact ⟨p', c', σ', h1, h2, h3, fun b hb => by have := h4 b hb; simp at this; omega⟩
theorem byte_push {τ : St} {p : Option Addr} {c n0 : Nat} {bs : List Int} (z : Int) (hg : Gr Try.prog τ n0 5 1 p bs.length c (bs.map byV)) (hn : n0 ≤ τ.next) (hr : bs.length + 1 ≤ 1073741824) :
  ∃ p' c' τ', appendA Try.prog 24 24 (.slice p bs.length c) (.slice (some ⟨τ.next, 0, none⟩) 1 1) (τ.row [byV z] 1) = some (.slice p' (bs.length + 1) c', τ') ∧ Gr Try.prog τ' n0 5 1 p' (bs.length + 1) c' ((bs ++ [z]).map byV) ∧ Only (AtP p) (τ.row [byV z] 1) τ' := by
 obtain ⟨p', c', τ', g1, g2, g3, g4⟩ := grow1 (byV z) appT_bytes hg (Le.refl τ) (elOk_byte z) hr hn (e := rfl) (hc := rfl)
 exact ⟨p', c', τ', g1, by rw [List.map_append]; exact g2, g3⟩
theorem number_c {n : Nat} (hn : n ≤ 1000000000) : ∃ p c σ', CallsA Try.prog 77 [iV (n : Int)] σ (.slice p (numB n).length c) σ' ∧ New σ σ' ∧ BytesP σ' p (numB n).length (numB n) ∧ ∀ b, AtP p b → σ.next ≤ b := by
 have e128 : (128 : Nat) ^ 5 = 34359738368 := by decide
 have hlen : (numB n).length ≤ 5 := numB_len 5 n (by omega) (by omega)
 refine RunsQ.newSl (number_ra (P0 := fun i p l c τ => ∃ (m : Nat) (pre : List Int), i = (m : Int) ∧ m ≤ 127 ∧ l = pre.length ∧ pre ++ numB m = numB n ∧ New σ.re τ ∧ Gr Try.prog τ σ.next 5 1 p l c (pre.map byV))
  (number_loop1 (Inv := fun k i p l c τ => ∃ pre : List Int, i = (k : Int) ∧ k ≤ 1000000000 ∧ l = pre.length ∧ pre ++ numB k = numB n ∧ New σ.re τ ∧ Gr Try.prog τ σ.next 5 1 p l c (pre.map byV)) ?_ n _ none 0 0 σ.re ⟨[], rfl, hn, rfl, rfl, New.refl _, Gr.nil⟩) ?_)
 ·rintro k i p l c τ ⟨pre, rfl, hk, rfl, hp, hN, hg⟩
  have hpl : pre.length ≤ 5 := by
   have := congrArg List.length hp
   simp at this; omega
  by_cases h : k ≤ 127
  ·exact number_s1b ⟨k, pre, rfl, h, rfl, hp, hN, hg⟩ (by omega)
  have e1 : wrapK .u8 (Int.tmod (k : Int) 128) = ((k % 128 : Nat) : Int) := by
   rw [wrap8, Int.tmod_eq_emod_of_nonneg (by omega)]; omega
  have e2 : wrapK .u8 (Int.add ((k % 128 : Nat) : Int) 128) = ((k % 128 + 128 : Nat) : Int) := by
   rw [wrap8, show Int.add ((k % 128 : Nat) : Int) 128 = ((k % 128 : Nat) : Int) + 128 from rfl]; omega
  have e4 : Int.tdiv (k : Int) 128 = ((k / 128 : Nat) : Int) := by
   rw [Int.tdiv_eq_ediv_of_nonneg (by omega)]; omega
  have e3 : IntKind.wrap .i64 (Int.tdiv (k : Int) 128) = Int.tdiv (k : Int) 128 := by
   rw [← wrapK_eq, e4, wrap64 (by omega) (by omega)]
  obtain ⟨p', c', τ', g1, g2, g3⟩ := byte_push ((k % 128 + 128 : Nat) : Int) hg hN.nx (by omega)
  have N2 : New σ.re τ' := (hN.row').of_only g3 (fun b hb => (hg.bd hb).1)
  refine number_s1a e1 e2 g1 e3 ⟨k / 128, by omega, pre ++ [((k % 128 + 128 : Nat) : Int)], e4, by omega, by simp, ?_, N2, g2⟩ (by omega)
  rw [← hp, numB_big (n := k) (by omega)]; simp
 ·rintro i p l c τ ⟨m, pre, rfl, hm, rfl, hp, hN, hg⟩
  have hpl : pre.length ≤ 5 := by
   have := congrArg List.length hp
   simp at this; omega
  have e1 : wrapK .u8 (m : Int) = (m : Int) := by rw [wrap8]; omega
  obtain ⟨p', c', τ', g1, g2, g3⟩ := byte_push (m : Int) hg hN.nx (by omega)
  have N2 : New σ.re τ' := (hN.row').of_only g3 (fun b hb => (hg.bd hb).1)
  have e : numB n = pre ++ [(m : Int)] := by rw [← hp, numB_small hm]
  exact number_t1x0a e1 g1 ⟨N2, p', c', by rw [e]; simp, by rw [e]; simpa using g2.slv, fun b hb => (g2.bd hb).1⟩
end
end Go.Proofs.Ytffgfojabcbegaa
