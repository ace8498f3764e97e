
import Derived.Test.YtffgfojabcbegaaSI
namespace Go.Proofs.Ytffgfojabcbegaa
open Go Go.Lay
set_option linter.unusedVariables false
set_option linter.unusedSimpArgs false
set_option maxRecDepth 20000
section
variable {σ : St}
theorem rBytes_c {n : Nat} (hn : n ≤ 1000000000) : ∃ p c σ', CallsA Try.prog 88 [iV (n : Int)] σ (.slice p (numB n).length c) σ' ∧ New σ σ' ∧ BytesP σ' p (numB n).length (numB n) ∧ ∀ b, AtP p b → σ.next ≤ b := by
 have e128 : (128 : Nat) ^ 5 = 34359738368 := by decide
 have hlen : (numB n).length ≤ 5 := numB_len 5 n (by omega) (by omega)
 refine RunsQ.newSl (rBytes_ra (P0 := fun i p l c τ => ∃ (m : Nat) (pre : List Int), i = (m : Int) ∧ m ≤ 127 ∧ l = pre.length ∧ pre ++ numB m = numB n ∧ New σ.re τ ∧ Gr Try.prog τ σ.next 5 1 p l c (pre.map byV))
  (rBytes_loop1 (Inv := fun k i p l c τ => ∃ pre : List Int, i = (k : Int) ∧ k ≤ 1000000000 ∧ l = pre.length ∧ pre ++ numB k = numB n ∧ New σ.re τ ∧ Gr Try.prog τ σ.next 5 1 p l c (pre.map byV)) ?_ n _ none 0 0 σ.re ⟨[], rfl, hn, rfl, rfl, New.refl _, Gr.nil⟩) ?_)
 ·rintro k i p l c τ ⟨pre, rfl, hk, rfl, hp, hN, hg⟩
  have hpl : pre.length ≤ 5 := by
   have := congrArg List.length hp
   simp at this; omega
  by_cases h : k ≤ 127
  ·exact rBytes_s1b ⟨k, pre, rfl, h, rfl, hp, hN, hg⟩ (by omega)
  have et : Int.tmod (k : Int) 128 = ((k % 128 : Nat) : Int) := by rw [Int.tmod_eq_emod_of_nonneg (by omega)]; omega
  have e1 : wrapK .u8 (128 + Int.tmod (k : Int) 128) = ((k % 128 + 128 : Nat) : Int) := by
   rw [wrap8, et]; omega
  have e4 : Int.tdiv (k : Int) 128 = ((k / 128 : Nat) : Int) := by
   rw [Int.tdiv_eq_ediv_of_nonneg (by omega)]; omega
  have e3 : IntKind.wrap .i64 (Int.tdiv (k : Int) 128) = Int.tdiv (k : Int) 128 := by
   rw [← wrapK_eq, e4, wrap64 (by omega) (by omega)]
  obtain ⟨p', c', τ', g1, g2, g3⟩ := byte_push ((k % 128 + 128 : Nat) : Int) hg hN.nx (by omega)
  have N2 : New σ.re τ' := (hN.row').of_only g3 (fun b hb => (hg.bd hb).1)
  refine rBytes_s1a e1 g1 e3 ⟨k / 128, by omega, pre ++ [((k % 128 + 128 : Nat) : Int)], e4, by omega, by simp, ?_, N2, g2⟩ (by omega) (by rw [et]; omega)
  rw [← hp, numB_big (n := k) (by omega)]; simp
 ·rintro i p l c τ ⟨m, pre, rfl, hm, rfl, hp, hN, hg⟩
  have hpl : pre.length ≤ 5 := by
   have := congrArg List.length hp
   simp at this; omega
  have e1 : wrapK .u8 (m : Int) = (m : Int) := by rw [wrap8]; omega
  obtain ⟨p', c', τ', g1, g2, g3⟩ := byte_push (m : Int) hg hN.nx (by omega)
  have N2 : New σ.re τ' := (hN.row').of_only g3 (fun b hb => (hg.bd hb).1)
  have e : numB n = pre ++ [(m : Int)] := by rw [← hp, numB_small hm]
  exact rBytes_t1x0a e1 g1 ⟨N2, p', c', by rw [e]; simp, by rw [e]; simpa using g2.slv, fun b hb => (g2.bd hb).1⟩
theorem AxB.nil {τ : St} {n0 : Nat} : AxB τ n0 none ([] : List Int).length 0 [] := Ax.nil
theorem rBody_c {x : Rec} (h : rightB x = true) : ∃ p c σ', CallsA Try.prog 79 [recV x] σ (.slice p (bodyB x).length c) σ' ∧ New σ σ' ∧ BytesP σ' p (bodyB x).length (bodyB x) ∧ ∀ b, AtP p b → σ.next ≤ b := by
 have hb := rightB_iff h
 have h24 := body_len h
 have N1 : New σ.re ((σ.re.row (recL x) 6).row (ints6 x.m x.s x.t x.k x.a x.b) 1) := (New.row _ _ _).row'
 have o1 : Own ((σ.re.row (recL x) 6).row (ints6 x.m x.s x.t x.k x.a x.b) 1) (σ.next + 1) ((fieldsL x).map intV) 1 := own_new _ _ _
 refine RunsQ.newSl (rBody_ra (P0 := fun p l c τ => l = (bodyB x).length ∧ New σ.re τ ∧ AxB τ σ.next p l c (bodyB x))
  (rBody_loop1 (Inv := fun k p l c i τ => ∃ s : Nat, i = s ∧ s + k = 6 ∧ l = (((fieldsL x).take s).flatMap numI).length ∧ New σ.re τ ∧ Own τ (σ.next + 1) ((fieldsL x).map intV) 1 ∧ (∀ b, AtP p b → σ.next + 2 ≤ b) ∧ AxB τ σ.next p l c (((fieldsL x).take s).flatMap numI)) ?_ 6 none 0 0 0 _ ⟨0, rfl, rfl, rfl, N1, o1, fun b hb => (AtP.none hb).elim, AxB.nil⟩)
  (by rintro p l c τ ⟨rfl, hN, ha⟩; exact rBody_t1x0a ⟨hN, p, c, rfl, ha.bytes, fun b hb => (ha.bd b hb).1⟩) (by omega))
 rintro k p l c i τ ⟨s, rfl, hk, rfl, hN, ho, hpb, ha⟩
 by_cases hs : s < 6
 rotate_left
 ·have : s = 6 := by omega
  subst this
  exact rBody_s1b ⟨rfl, hN, ha⟩ (by omega)
 have hs' : s < (fieldsL x).length := hs
 obtain ⟨n, hn⟩ : ∃ n, (fieldsL x)[s]? = some n := ⟨(fieldsL x)[s], by simp [hs']⟩
 have hnb := field_bd h (List.mem_of_getElem? hn)
 have hln := bodyTo_len h s
 have hnl := numI_len (n := n) (by omega)
 have ld := ho.ldI (P := Try.prog) (t := 3) (i := s) (v := intV n) agg3 (by rw [List.getElem?_map, hn]; rfl)
 obtain ⟨q, d, τ1, k1, n1, b1, _⟩ := rBytes_c (σ := τ) (n := n.toNat) (by omega)
 rw [show ((n.toNat : Nat) : Int) = n by omega] at k1
 have hnx : σ.next + 2 ≤ τ.next := by have := ho.lt; omega
 obtain ⟨p', c', τ2, g1, g2, g3, g4⟩ := AxB.push (d := d) (ha.le n1.le) (show BytesP τ1 q (numI n).length (numI n) from b1) (by omega) (by have := n1.le.next; omega)
 have e : ((fieldsL x).take (s + 1)).flatMap numI = ((fieldsL x).take s).flatMap numI ++ numI n := by rw [take_snoc hn, List.flatMap_append]; simp
 refine rBody_s1a ld k1 g1 ⟨k - 1, by omega, s + 1, by omega, by omega, by rw [e], (hN.trans n1).of_only g3 (fun b hb => (ha.bd b hb).1), g3.own' (ho.le n1.le) (fun hb => by have := hpb _ hb; omega), fun b hb => ?_, by rw [e]; exact g2⟩ (by omega)
 rcases g4 b hb with g | g
 ·exact hpb b g
 ·have := n1.le.next; omega
theorem rContent_c {x : Rec} (h : rightB x = true) : ∃ p c σ', CallsA Try.prog 60 [recV x] σ (.slice p (contentB x).length c) σ' ∧ New σ σ' ∧ BytesP σ' p (contentB x).length (contentB x) ∧ ∀ b, AtP p b → σ.next ≤ b := by
 have h24 := body_len h
 have hcl : (countedB x).length ≤ 25 := by simp [countedB]; omega
 have N1 : New σ.re (σ.re.row (recL x) 6) := New.row _ _ _
 obtain ⟨p1, c1, σ2, k1, n1, b1, f1⟩ := rBody_c (σ := σ.re.row (recL x) 6) h
 have n2 : New σ2 (σ2.row [byV (((bodyB x).length : Int) % 256)] 1) := New.row _ _ _
 have o2 : Own (σ2.row [byV (((bodyB x).length : Int) % 256)] 1) σ2.next [byV (((bodyB x).length : Int) % 256)] 1 := own_new _ _ _
 have nx2 : σ.next + 1 ≤ σ2.next := n1.nx
 have a2 : AxB (σ2.row [byV (((bodyB x).length : Int) % 256)] 1) σ.next (some ⟨σ2.next, 0, none⟩) [((bodyB x).length : Int) % 256].length 1 [((bodyB x).length : Int) % 256] := Ax.lit o2 rfl (ex_small (by simp)) (by omega)
 obtain ⟨p5, c5, σ4, g1, g2, g3, g4⟩ := AxB.push (d := c1) a2 (SlV.le b1 n2.le) (by simp; omega) (by show σ.next ≤ σ2.next + 1; omega)
 have e1 : [((bodyB x).length : Int) % 256] ++ bodyB x = countedB x := rfl
 rw [e1] at g1 g2
 have N4 : New σ.re σ4 := (((N1.trans n1)).row').of_only g3 (fun b hb => by obtain ⟨a, e, rfl⟩ := hb; cases e; show σ.next ≤ σ2.next; omega)
 refine RunsQ.newSl (rContent_ra k1 (wrap8 _) g1 (P0 := fun u v τ => τ = σ4 ∧ (u, v) = chk (countedB x)) (rContent_loop1 (Inv := fun k u v i τ => ∃ s : Nat, i = s ∧ s + k = (countedB x).length ∧ τ = σ4 ∧ (u, v) = chk ((countedB x).take s)) ?_ (countedB x).length 0 0 0 σ4 ⟨0, rfl, by omega, rfl, rfl⟩) ?_)
 ·rintro k u v i τ ⟨s, rfl, hk, rfl, huv⟩
  by_cases hs : s < (countedB x).length
  rotate_left
  ·exact rContent_s1b ⟨rfl, by rwa [List.take_of_length_le (by omega)] at huv⟩ (by omega)
  obtain ⟨a, rfl, z, hz, ld⟩ := slv_at g2.bytes hs
  have hzb : 0 ≤ z ∧ z ≤ 255 := by
   have hm := List.mem_of_getElem? hz
   rcases List.mem_cons.1 hm with e | e
   ·omega
   ·obtain ⟨n, _, hn⟩ := List.mem_flatMap.1 e
    exact numB_byte _ _ hn
  have hc := chk_byte ((countedB x).take s) (0, 0) (by simp) (by simp)
  have huv' : (u, v) = ((countedB x).take s).foldl (fun p c => ((p.1 + c) % 256, (p.2 + (p.1 + c) % 256) % 256)) (0, 0) := huv
  rw [← huv'] at hc
  have hc : 0 ≤ u ∧ u ≤ 255 ∧ 0 ≤ v ∧ v ≤ 255 := hc
  have et : Int.tmod (u + z) 256 = (u + z) % 256 := Int.tmod_eq_emod_of_nonneg (by omega)
  have et2 : Int.tmod (v + (u + z) % 256) 256 = (v + (u + z) % 256) % 256 := Int.tmod_eq_emod_of_nonneg (by omega)
  have e : chk ((countedB x).take (s + 1)) = (Int.tmod (u + z) 256, Int.tmod (v + Int.tmod (u + z) 256) 256) := by
   unfold chk
   rw [foldl_snoc hz, ← huv', et, et2]
  exact rContent_s1a ld ⟨k - 1, by omega, s + 1, by omega, by omega, rfl, e.symm⟩ (by omega) (by omega) (by omega) (by omega) (by rw [et]; omega) (by omega)
 ·rintro u v τ ⟨rfl, huv⟩
  have hc := chk_byte (countedB x) (0, 0) (by simp) (by simp)
  have huv' : (u, v) = (countedB x).foldl (fun p c => ((p.1 + c) % 256, (p.2 + (p.1 + c) % 256) % 256)) (0, 0) := huv
  rw [← huv'] at hc
  have hc : 0 ≤ u ∧ u ≤ 255 ∧ 0 ≤ v ∧ v ≤ 255 := hc
  have w1 : wrapK .u8 u = u := by rw [wrap8]; omega
  have w2 : wrapK .u8 v = v := by rw [wrap8]; omega
  have n5 : New τ (τ.row ([u, v].map byV) 1) := New.row _ _ _
  obtain ⟨p6, c6, σ6, j1, j2, j3, j4⟩ := AxB.push (d := 2) (g2.le n5.le) (row_bytes τ [u, v]) (by simp; omega) (by have : σ.next ≤ τ.next := N4.nx; show σ.next ≤ τ.next + 1; omega)
  have e : countedB x ++ [u, v] = contentB x := by unfold contentB; rw [← huv]
  rw [e] at j1 j2
  exact rContent_t1x0a w1 w2 j1 ⟨(N4.row').of_only j3 (fun b hb => (g2.bd b hb).1), p6, c6, rfl, j2.bytes, fun b hb => (j2.bd b hb).1⟩
end
end Go.Proofs.Ytffgfojabcbegaa
