
import Derived.Test.YtffgfojabcbegaaSE
import Derived.Test.YtffgfojabcbegaaXC
namespace Go.Proofs.Ytffgfojabcbegaa
open Go Go.Lay
open Try renaming prog → Pg
set_option linter.unusedVariables false
set_option linter.unusedSimpArgs false
set_option maxRecDepth 20000
section
variable {σ : St}

theorem growR_c {N : Nat} (hN : N ≤ 1073741824) : ∃ p c σ', zG Pg 80 [.slice none 0 0, iV (N : Int)] σ (.slice p 0 c) σ' ∧ New σ σ' ∧ Buf σ' σ.next 6 N p 0 c [] := by
 have k0 : wG Pg (evL [.slice none 0 0]) σ.re (.call { callee := .builtin .cap, args := ⟨zFQ 1⟩, argTypes := ⟨[28]⟩ }) = some (iV 0) := by kernel_rfl
 suffices hmain : zO Pg 80 [.slice none 0 0, iV (N : Int)] σ.re fun v s => New σ.re s ∧ ∃ p c, v = .slice p 0 c ∧ Buf s σ.next 6 N p 0 c [] by
  obtain ⟨v, σ', h1, h2, p, c, rfl, h3⟩ := zO.new hmain (by rintro v s s' ⟨p, c, rfl, h⟩ hl; exact ⟨p, c, rfl, h.le hl⟩) (by
   rintro v s hr ⟨p, c, rfl, h⟩
   refine ⟨p, c, rfl, ?_⟩
   rcases h with ⟨rfl, e1, _, e2, _⟩ | ⟨b, bc, rfl, _⟩
   ·exact .inl ⟨rfl, e1, rfl, e2, rfl⟩
   ·exact Bool.noConfusion (show false = true from hr))
  exact ⟨p, c, σ', h1, h2, h3⟩
 rcases Nat.eq_zero_or_pos N with h0 | h0
 ·subst h0
  exact growR_rb k0 ⟨New.refl _, none, 0, rfl, Buf.nil⟩
 have hz : ∃ ei z, Pg.info? 79 = some ei ∧ ei.zero = some z ∧ ei.bytes ≤ 4096 ∧ zQ RD z = true ∧ Nat.beq z.cells.toList.length 6 = true ∧ z.cells.toList = rcd 0 0 0 0 0 0 := ⟨_, _, rfl, rfl, by decide, rfl, rfl, rfl⟩
 obtain ⟨ei, z, hei, hz, hby, hrz, hzl, hzz⟩ := hz
 have hzc : (xF z.cells.toList N).length = N * 6 := by rw [hzz]; exact zSY _ N
 have hcb : (xF z.cells.toList N).all cellB = true := by rw [hzz]; exact zQN rfl N
 have g := grow_new (P := Pg) (σ := σ.re) (st := 28) (xt := 3) (e := 79) (n := 6) (N := N) (k := .i64) (q := .i64) (z := z) (by kernel_rfl) (by kernel_rfl) hei hz hby hrz hzl (by omega) hN h0 hzc hcb
 have o : Own (σ.re.row (xF z.cells.toList N) 6) σ.next (xF z.cells.toList N) 6 := zE _ _ _
 have s3 : zHA Pg σ.re 28 (.slice none 0 0) none (some (iV 0)) none = some (.slice none 0 0) := by kernel_rfl
 obtain ⟨c6, s6, e6⟩ := yJY (P := Pg) (t := 28) (e := 79) (N := N) (c := N + zCL) (q := .i64) (by kernel_rfl) (by kernel_rfl) o h0 (zEM N) (zHE N)
 exact growR_ra k0 k0 s3 (by simpa using g) (by simpa using s6) ⟨New.row _ _ _, some ⟨σ.next, 0, none⟩, c6, rfl, .inr ⟨σ.next, _, rfl, e6, o, hzc, Nat.zero_le _, by simp, Nat.le_refl _, h0⟩⟩
theorem concR_c {p : Option Addr} {l c : Nat} {rs : List (List Rec)} (h : zAT σ 28 79 p l rs) (hl : l ≤ 1073741824) (hN : rs.flatten.length ≤ 1073741824) :
  ∃ p' c' σ', zG Pg 61 [.slice p l c] σ (.slice p' rs.flatten.length c') σ' ∧ New σ σ' ∧ xB σ' 79 p' rs.flatten.length rs.flatten ∧ ∀ b, AtP p' b → σ.next ≤ b := by
 have hlen := h.len
 have h0 := h.le (le0 σ)
 have hsum : ∀ s, ((rs.take s).flatten).length ≤ rs.flatten.length := fun s => by
  have e : rs.flatten.length = ((rs.take s).flatten).length + ((rs.drop s).flatten).length := by rw [← List.length_append, ← List.flatten_append, List.take_append_drop]
  omega
 refine zO.newSl (concR_ra (P0 := fun n τ => τ = σ.re ∧ n = (rs.flatten.length : Int)) (yIJ (Inv := fun k n i τ => ∃ s : Nat, i = s ∧ s + k = l ∧ τ = σ.re ∧ n = (((rs.take s).flatten).length : Int)) ?_ l 0 0 σ.re ⟨0, rfl, by omega, rfl, by simp⟩) ?_)
 ·rintro k n i τ ⟨s, rfl, hk, rfl, rfl⟩
  by_cases hs : s < l
  rotate_left
  ·exact yVO ⟨rfl, by rw [List.take_of_length_le (by omega)]⟩ (by omega)
  obtain ⟨a, rfl, r, q, d, hr, ld, hq⟩ := h0.row hs
  have e1 : ((rs.take (s + 1)).flatten).length = ((rs.take s).flatten).length + r.length := by rw [wD hr]; simp
  have := hsum (s + 1)
  exact yVP (ld _ (Le.refl _)) ⟨k - 1, by omega, s + 1, by omega, by omega, rfl, by rw [e1]; omega⟩ (by omega) (by omega) (by omega) (by omega) (by omega)
 ·rintro n τ ⟨rfl, rfl⟩
  obtain ⟨p1, c1, σ1, k1, n1, b1⟩ := growR_c (σ := σ.re) (N := rs.flatten.length) hN
  refine yIH k1 (P2 := fun p' l' c' τ => l' = rs.flatten.length ∧ New σ.re τ ∧ Buf τ σ.next 6 rs.flatten.length p' l' c' (zAS (rs.flatten.map yP))) (yII (Inv := fun k p' l' c' i τ => ∃ s : Nat, i = s ∧ s + k = l ∧ l' = ((rs.take s).flatten).length ∧ New σ.re τ ∧ Buf τ σ.next 6 rs.flatten.length p' l' c' (zAS (((rs.take s).flatten).map yP))) ?_ l p1 0 c1 0 σ1 ⟨0, rfl, by omega, rfl, n1, by simpa [zAS] using b1⟩) ?_
  ·rintro k p' l' c' i τ ⟨s, rfl, hk, rfl, hNw, hb⟩
   by_cases hs : s < l
   rotate_left
   ·rw [List.take_of_length_le (by omega)] at hb ⊢
    exact yVM ⟨rfl, hNw, hb⟩ (by omega)
   obtain ⟨a, rfl, r, q, d, hr, ld, hq⟩ := (h0.le hNw.le).row hs
   have e1 : ((rs.take (s + 1)).flatten).length = ((rs.take s).flatten).length + r.length := by rw [wD hr]; simp
   have := hsum (s + 1)
   obtain ⟨τ2, g1, g2, g3, g4, g5⟩ := hb.push (P := Pg) (st := 28) (xt := 28) (e := 79) (m := r.length) (d := d) (q := q) (xs := zAS (r.map yP)) (zMW (by kernel_rfl)) hq.1 (by omega) hN (yHY (fun _ => rfl) r)
   have N2 : New σ.re τ2 := hNw.of_only g3 (fun b hbb => (hb.bd b hbb).1)
   refine yVN (ld _ (Le.refl _)) g1 ⟨k - 1, by omega, s + 1, by omega, by omega, by rw [e1], N2, ?_⟩ (by omega)
   rw [wD hr, List.flatten_append, List.map_append, zGU]
   simpa using g2
  ·rintro p' l' c' τ ⟨rfl, hNw, hb⟩
   exact yIG ⟨hNw, p', c', rfl, hb.slv (List.length_map _) (by intro v hv; obtain ⟨x, _, rfl⟩ := List.mem_map.1 hv; exact zLK x), fun b hbb => (hb.bd b hbb).1⟩
end
end Go.Proofs.Ytffgfojabcbegaa
