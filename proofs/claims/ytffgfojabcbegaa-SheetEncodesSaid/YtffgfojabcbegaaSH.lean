
import Derived.Test.YtffgfojabcbegaaSG
namespace Go.Proofs.Ytffgfojabcbegaa
open Go Go.Lay
open Try renaming prog → Pg
set_option linter.unusedVariables false
set_option linter.unusedSimpArgs false
set_option maxRecDepth 20000
section
variable {σ : St}
theorem foldl_snoc {α β : Type} {f : β → α → β} {z : β} {xs : List α} {i : Nat} {x : α} (h : xs[i]? = some x) : (xs.take (i + 1)).foldl f z = f ((xs.take i).foldl f z) x := by rw [take_snoc h, List.foldl_append]; rfl
theorem chk_byte : ∀ (bs : List Int) (p : Int × Int), 0 ≤ p.1 ∧ p.1 ≤ 255 → 0 ≤ p.2 ∧ p.2 ≤ 255 → 0 ≤ (bs.foldl (fun p c => ((p.1 + c) % 256, (p.2 + (p.1 + c) % 256) % 256)) p).1 ∧ (bs.foldl (fun p c => ((p.1 + c) % 256, (p.2 + (p.1 + c) % 256) % 256)) p).1 ≤ 255 ∧ 0 ≤ (bs.foldl (fun p c => ((p.1 + c) % 256, (p.2 + (p.1 + c) % 256) % 256)) p).2 ∧ (bs.foldl (fun p c => ((p.1 + c) % 256, (p.2 + (p.1 + c) % 256) % 256)) p).2 ≤ 255
 | [], p, h1, h2 => ⟨h1.1, h1.2, h2.1, h2.2⟩
 | c :: bs, p, h1, h2 => chk_byte bs ((p.1 + c) % 256, (p.2 + (p.1 + c) % 256) % 256) (by show 0 ≤ (p.1 + c) % 256 ∧ (p.1 + c) % 256 ≤ 255; omega) (by show 0 ≤ (p.2 + (p.1 + c) % 256) % 256 ∧ (p.2 + (p.1 + c) % 256) % 256 ≤ 255; omega)
theorem check_c {p : Option Addr} {l c : Nat} {bs : List Int} (h : BytesP σ p l bs) (hl : l ≤ 1073741824) : ∃ b σ', CallsA Pg 78 [.slice p l c] σ (.slice (some ⟨b, 0, none⟩) 2 2) σ' ∧ New σ σ' ∧ Own σ' b [byV (chk bs).1, byV (chk bs).2] 1 ∧ σ.next ≤ b := by
 have hlen := h.len
 obtain ⟨v, σ', h1, h2, b, rfl, h3, h4⟩ := RunsQ.new (P := Pg) (f := 78) (args := [.slice p l c]) (σ := σ) (Q := fun v s => ∃ b, v = .slice (some ⟨b, 0, none⟩) 2 2 ∧ Own s b [byV (chk bs).1, byV (chk bs).2] 1 ∧ σ.next ≤ b)
  (check_ra (P0 := fun x y τ => τ = σ.re ∧ (x, y) = chk bs) (check_loop1 (Inv := fun k x y i τ => ∃ s : Nat, i = s ∧ s + k = l ∧ τ = σ.re ∧ (x, y) = chk (bs.take s)) (by
   rintro k x y i τ ⟨s, rfl, hk, rfl, hxy⟩
   by_cases hs : s < l
   rotate_left
   ·exact check_s1b ⟨rfl, by rwa [List.take_of_length_le (by omega)] at hxy⟩ (by omega)
   obtain ⟨a, rfl, z, hz, ld⟩ := slv_at (SlV.le h (le0 σ)) hs
   have e : chk (bs.take (s + 1)) = ((x + z) % 256, (y + (x + z) % 256) % 256) := by
    unfold chk
    rw [foldl_snoc hz]
    unfold chk at hxy
    rw [← hxy]
   exact check_s1a ld (zB := (x + z) % 256) (zD := (y + (x + z) % 256) % 256) (wrap8 _) (wrap8 _) ⟨k - 1, by omega, s + 1, by omega, by omega, rfl, e.symm⟩ (by omega)) l 0 0 0 σ.re ⟨0, rfl, by omega, rfl, rfl⟩)
   (by
    rintro x y τ ⟨rfl, hxy⟩
    rw [← hxy]
    exact check_t1x0a ⟨New.row _ _ _, _, rfl, own_new _ _ _, Nat.le_refl _⟩))
  (by rintro v s s' ⟨b, rfl, h, h'⟩ hl; exact ⟨b, rfl, h.le hl, h'⟩) (by rintro v s hr ⟨b, rfl, _⟩; exact Bool.noConfusion (show false = true from hr))
 exact ⟨b, σ', h1, h2, h3, h4⟩
theorem fields_c {x : Rec} (hk : 0 ≤ x.k ∧ x.k ≤ 255) : CallsA Pg 76 [recV x] σ (.agg ⟨ints6 x.m x.s x.t x.k x.a x.b⟩) σ := (fields_ra ⟨rfl, ((New.row _ _ _).row'.own (Nat.le_succ _)).lw⟩ (by omega)).pure
theorem field_at (x : Rec) {s : Nat} (hs : s < 6) : ∃ n, (fieldsL x)[s]? = some n ∧ indexA Pg 125 (.agg ⟨ints6 x.m x.s x.t x.k x.a x.b⟩) (iV (s : Int)) = some (iV n) := by
 have key : ∀ (m q t k a b : Int), (indexA Pg 125 (.agg ⟨ints6 m q t k a b⟩) (iV 0) = some (iV m)) ∧ (indexA Pg 125 (.agg ⟨ints6 m q t k a b⟩) (iV 1) = some (iV q)) ∧ (indexA Pg 125 (.agg ⟨ints6 m q t k a b⟩) (iV 2) = some (iV t)) ∧ (indexA Pg 125 (.agg ⟨ints6 m q t k a b⟩) (iV 3) = some (iV k)) ∧ (indexA Pg 125 (.agg ⟨ints6 m q t k a b⟩) (iV 4) = some (iV a)) ∧ (indexA Pg 125 (.agg ⟨ints6 m q t k a b⟩) (iV 5) = some (iV b)) := fun m q t k a b => ⟨by kernel_rfl, by kernel_rfl, by kernel_rfl, by kernel_rfl, by kernel_rfl, by kernel_rfl⟩
 obtain ⟨k0, k1, k2, k3, k4, k5⟩ := key x.m x.s x.t x.k x.a x.b
 rcases s with _ | _ | _ | _ | _ | _ | s
 ·exact ⟨_, rfl, k0⟩
 ·exact ⟨_, rfl, k1⟩
 ·exact ⟨_, rfl, k2⟩
 ·exact ⟨_, rfl, k3⟩
 ·exact ⟨_, rfl, k4⟩
 ·exact ⟨_, rfl, k5⟩
 ·omega
theorem field_bd {x : Rec} (h : rightB x = true) {n : Int} (hn : n ∈ fieldsL x) : 0 ≤ n ∧ n ≤ 10000000 := by
 have := rightB_iff h
 simp [fieldsL] at hn
 omega
theorem bodyTo_len {x : Rec} (h : rightB x = true) (s : Nat) : (((fieldsL x).take s).flatMap numI).length ≤ 24 := by
 have h1 := body_len h
 have e : bodyB x = ((fieldsL x).take s).flatMap numI ++ ((fieldsL x).drop s).flatMap numI := by rw [← List.flatMap_append, List.take_append_drop]; rfl
 rw [e, List.length_append] at h1
 omega
theorem content_c {x : Rec} (h : rightB x = true) : ∃ p c σ', CallsA Pg 59 [recV x] σ (.slice p (contentB x).length c) σ' ∧ New σ σ' ∧ BytesP σ' p (contentB x).length (contentB x) ∧ ∀ b, AtP p b → σ.next ≤ b := by
 have hb := rightB_iff h
 have h24 := body_len h
 refine RunsQ.newSl (content_ra (fields_c (by omega)) (P0 := fun p l c τ => l = (bodyB x).length ∧ New σ.re τ ∧ BytesP τ p (bodyB x).length (bodyB x))
  (content_loop1 (Inv := fun k p l c i τ => ∃ s : Nat, i = s ∧ s + k = 6 ∧ l = (((fieldsL x).take s).flatMap numI).length ∧ New σ.re τ ∧ BytesP τ p l (((fieldsL x).take s).flatMap numI)) ?_ 6 none 0 0 0 _ ⟨0, rfl, rfl, rfl, New.row _ _ _, ⟨⟨rfl, rfl⟩, rfl, by simp⟩⟩) ?_)
 ·rintro k p l c i τ ⟨s, rfl, hk, rfl, hN, hp⟩
  by_cases hs : s < 6
  rotate_left
  ·have : s = 6 := by omega
   subst this
   exact content_s1b ⟨rfl, hN, hp⟩ (by omega)
  obtain ⟨n, hn, hi⟩ := field_at x hs
  have hnb := field_bd h (List.mem_of_getElem? hn)
  have hln := bodyTo_len h s
  obtain ⟨q, d, τ1, k1, n1, b1, _⟩ := number_c (σ := τ) (n := n.toNat) (by omega)
  rw [show ((n.toNat : Nat) : Int) = n by omega] at k1
  have hnl := numI_len (n := n) (by omega)
  obtain ⟨p', c', τ2, k2, n2, b2, _⟩ := join2 (c := c) (d := d) (SlV.le hp n1.le) (show BytesP τ1 q (numI n).length (numI n) from b1) (by omega)
  have e : ((fieldsL x).take (s + 1)).flatMap numI = ((fieldsL x).take s).flatMap numI ++ numI n := by rw [take_snoc hn, List.flatMap_append]; simp
  exact content_s1a hi k1 k2 ⟨k - 1, by omega, s + 1, by omega, by omega, by rw [e], ((hN.trans n1).row').trans n2, by rw [e]; exact b2⟩ (by omega)
 ·rintro p l c τ ⟨rfl, hN, hp⟩
  have n1 : New τ (τ.row [byV (((bodyB x).length : Int) % 256)] 1) := New.row _ _ _
  have hlit : BytesP (τ.row [byV (((bodyB x).length : Int) % 256)] 1) (some ⟨τ.next, 0, none⟩) [((bodyB x).length : Int) % 256].length [((bodyB x).length : Int) % 256] := ⟨⟨rfl, row_new _ _ _⟩, rfl, by intro v hv; simp at hv; subst hv; exact elOk_byte _⟩
  obtain ⟨p1, c1, τ1, k1, m1, b1, _⟩ := join2 (c := 1) (d := c) hlit (SlV.le hp n1.le) (by simp; omega)
  have e1 : [((bodyB x).length : Int) % 256] ++ bodyB x = countedB x := rfl
  rw [e1] at k1 b1
  have hcl : (countedB x).length ≤ 25 := by simp [countedB]; omega
  obtain ⟨b2, τ2, k2, m2, o2, _⟩ := check_c (c := c1) b1 (by omega)
  have hlit2 : BytesP τ2 (some ⟨b2, 0, none⟩) [(chk (countedB x)).1, (chk (countedB x)).2].length [(chk (countedB x)).1, (chk (countedB x)).2] := ⟨⟨rfl, o2.rw⟩, rfl, by intro v hv; simp at hv; rcases hv with rfl | rfl <;> exact elOk_byte _⟩
  obtain ⟨p3, c3, τ3, k3, m3, b3, f3⟩ := join2 (c := c1) (d := 2) (SlV.le b1 m2.le) hlit2 (by simp; omega)
  have NN : New σ.re τ2 := (((hN.trans n1).row').trans m1).trans m2
  refine content_t1x0a (wrap8 _) k1 k2 k3 ⟨(NN.row').trans m3, p3, c3, rfl, b3, fun b hb => ?_⟩
  have := f3 b hb
  have e2 : σ.next ≤ τ2.next := NN.nx
  omega
theorem flatB (bs : List Int) : flat (bs.map byV) = bs.map byV := flat_ints bs .u8
theorem cellsB (bs : List Int) : (bs.map byV).all cellB = true := by simp [List.all_eq_true]; intro a _; rfl
abbrev AxB (τ : St) (n0 : Nat) (p : Option Addr) (l c : Nat) (bs : List Int) : Prop := Ax τ n0 1 p l c (bs.map byV)
theorem AxB.bytes {τ : St} {n0 : Nat} {p : Option Addr} {c : Nat} {bs : List Int} (h : AxB τ n0 p bs.length c bs) : BytesP τ p bs.length bs := by
 have h' : Ax τ n0 1 p bs.length c (flat (bs.map byV)) := by rw [flatB]; exact h
 exact h'.slv (by simp) (by intro v hv; obtain ⟨x, _, rfl⟩ := List.mem_map.1 hv; exact elOk_byte x)
theorem AxB.push {τ : St} {n0 : Nat} {p q : Option Addr} {c d : Nat} {bs xs : List Int} (h : AxB τ n0 p bs.length c bs) (hx : BytesP τ q xs.length xs) (hr : bs.length + xs.length ≤ 1073741824) (hn : n0 ≤ τ.next) :
  ∃ p' c' τ', appendA Pg 24 24 (.slice p bs.length c) (.slice q xs.length d) τ = some (.slice p' (bs ++ xs).length c', τ') ∧ AxB τ' n0 p' (bs ++ xs).length c' (bs ++ xs) ∧ Only (AtP p) τ τ' ∧ (∀ b, AtP p' b → AtP p b ∨ τ.next ≤ b) := by
 have hs := hx.1
 rw [flatB] at hs
 obtain ⟨p', c', τ', g1, g2, g3, g4⟩ := Ax.append (k := d) appT_bytes h hs hr (cellsB xs) hn
 rw [← List.map_append] at g2
 rw [← List.length_append] at g1 g2
 exact ⟨p', c', τ', g1, g2, g3, g4⟩
theorem row_bytes (τ : St) (xs : List Int) : BytesP (τ.row (xs.map byV) 1) (some ⟨τ.next, 0, none⟩) xs.length xs := ⟨⟨by rw [flatB]; simp, by rw [flatB]; exact row_new _ _ _⟩, by simp, by intro v hv; obtain ⟨x, _, rfl⟩ := List.mem_map.1 hv; exact elOk_byte x⟩
theorem frameTo_len {x : Rec} (h : rightB x = true) (s : Nat) : (126 :: ((contentB x).take s).flatMap escB).length ≤ 55 := by
 have h1 := frame_len h
 have e : frameB x = (126 :: ((contentB x).take s).flatMap escB) ++ ((contentB x).drop s).flatMap escB := by rw [List.cons_append, ← List.flatMap_append, List.take_append_drop]; rfl
 rw [e, List.length_append] at h1
 omega
theorem ex_small {k : Nat} (h : k ≤ 1073741824) : capExact k = true := (capExact_iff k).2 (by unfold INEX; omega)
theorem frame_c {x : Rec} (h : rightB x = true) : ∃ p c σ', CallsA Pg 38 [recV x] σ (.slice p (frameB x).length c) σ' ∧ New σ σ' ∧ BytesP σ' p (frameB x).length (frameB x) ∧ ∀ b, AtP p b → σ.next ≤ b := by
 have hcl := content_len h
 obtain ⟨p1, c1, σ2, k1, n1, b1, f1⟩ := content_c (σ := (σ.re.row (recL x) 6).row [byV 126] 1) h
 have N1 : New σ.re ((σ.re.row (recL x) 6).row [byV 126] 1) := (New.row _ _ _).row'
 have o1 : Own ((σ.re.row (recL x) 6).row [byV 126] 1) (σ.next + 1) [byV 126] 1 := own_new _ _ _
 have a1 : AxB σ2 σ.next (some ⟨σ.next + 1, 0, none⟩) 1 1 [126] := Ax.lit (o1.le n1.le) rfl (ex_small (by omega)) (Nat.le_succ _)
 refine RunsQ.newSl (frame_ra k1 (P0 := fun p l c τ => l = (frameB x).length ∧ New σ.re τ ∧ AxB τ σ.next p l c (frameB x))
  (frame_loop1 (Inv := fun k p l c i τ => ∃ s : Nat, i = s ∧ s + k = (contentB x).length ∧ l = (126 :: ((contentB x).take s).flatMap escB).length ∧ New σ.re τ ∧ BytesP τ p1 (contentB x).length (contentB x) ∧ (∀ b, AtP p1 b → ¬ AtP p b) ∧ AxB τ σ.next p l c (126 :: ((contentB x).take s).flatMap escB)) ?_ (contentB x).length _ _ _ 0 σ2 ⟨0, rfl, by omega, rfl, N1.trans n1, b1, fun b hb hb2 => ?_, a1⟩) ?_)
 rotate_left
 ·obtain ⟨a, e, rfl⟩ := hb2
  cases e
  have h3 : σ.next + 2 ≤ σ.next + 1 := f1 _ hb
  omega
 ·rintro p l c τ ⟨rfl, hN, ha⟩
  exact frame_t1x0a ⟨hN, p, c, rfl, ha.bytes, fun b hb => (ha.bd b hb).1⟩
 rintro k p l c i τ ⟨s, rfl, hk, rfl, hN, hb1, hne, ha⟩
 by_cases hs : s < (contentB x).length
 rotate_left
 ·rw [List.take_of_length_le (by omega)] at ha ⊢
  exact frame_s1d ⟨rfl, hN, ha⟩ (by omega)
 obtain ⟨a, rfl, z, hz, ld⟩ := slv_at hb1 hs
 have hl55 := frameTo_len h s
 have e1 : ∀ w, escB z = w → 126 :: ((contentB x).take (s + 1)).flatMap escB = (126 :: ((contentB x).take s).flatMap escB) ++ w := by
  rintro w rfl
  rw [take_snoc hz, List.flatMap_append]; simp
 have key : ∀ w : List Int, escB z = w → w.length ≤ 2 → ∃ p' c' τ', appendA Pg 24 24 (.slice p (126 :: ((contentB x).take s).flatMap escB).length c) (.slice (some ⟨τ.next, 0, none⟩) w.length w.length) (τ.row (w.map byV) 1) = some (.slice p' (126 :: ((contentB x).take (s + 1)).flatMap escB).length c', τ') ∧
   ∃ k', k' < k ∧ ∃ s' : Nat, ((s : Int) + 1) = s' ∧ s' + k' = (contentB x).length ∧ (126 :: ((contentB x).take (s + 1)).flatMap escB).length = (126 :: ((contentB x).take s').flatMap escB).length ∧ New σ.re τ' ∧ BytesP τ' (some a) (contentB x).length (contentB x) ∧ (∀ b, AtP (some a) b → ¬ AtP p' b) ∧ AxB τ' σ.next p' (126 :: ((contentB x).take (s + 1)).flatMap escB).length c' (126 :: ((contentB x).take s').flatMap escB) := by
  intro w hw hwl
  have nr : New τ (τ.row (w.map byV) 1) := New.row _ _ _
  obtain ⟨p', c', τ', g1, g2, g3, g4⟩ := AxB.push (d := w.length) (ha.le nr.le) (row_bytes τ w) (by omega) (by have : σ.next ≤ τ.next := hN.nx; have := nr.le.next; omega)
  rw [e1 w hw]
  refine ⟨p', c', τ', g1, k - 1, by omega, s + 1, by omega, by omega, by rw [e1 w hw], (hN.row').of_only g3 (fun b hb => (ha.bd b hb).1), ?_, ?_, by rw [e1 w hw]; exact g2⟩
  ·exact g3.slv' (SlV.le hb1 nr.le) (fun a' e hb => by cases e; exact hne _ ⟨a, rfl, rfl⟩ hb)
  ·intro b hb hb'
   rcases g4 b hb' with g | g
   ·exact hne b hb g
   ·have h1 := slv_lt hb1 a rfl
    obtain ⟨a', e, rfl⟩ := hb
    cases e
    have : (τ.row (w.map byV) 1).next = τ.next + 1 := rfl
    omega
 by_cases z1 : z = 126
 ·subst z1
  obtain ⟨p', c', τ', g1, g2⟩ := key [125, 94] rfl (by simp)
  exact frame_s1a ld (by kernel_rfl) g1 g2 (by omega)
 by_cases z2 : z = 125
 ·subst z2
  obtain ⟨p', c', τ', g1, g2⟩ := key [125, 93] rfl (by simp)
  exact frame_s1b ld (by kernel_rfl) g1 g2 (by omega)
 ·obtain ⟨p', c', τ', g1, g2⟩ := key [z] (by simp [escB, z1, z2]) (by simp)
  exact frame_s1c ld g1 g2 (by omega)
end
end Go.Proofs.Ytffgfojabcbegaa
