
import Derived.Test.YtffgfojabcbegaaWK
namespace Go.Proofs.Ytffgfojabcbegaa
open Go Go.Lay
open Try renaming prog → Pg
set_option linter.unusedVariables false
set_option linter.unusedSimpArgs false
set_option maxRecDepth 20000
theorem lk_bd {l : List Rec} {o : List Lk} (hr : ∀ x ∈ l, yG x = true) (hl : l.length ≤ 60) (hs : Srt l) (ho : vP l = some o) : ∀ e ∈ o, 0 ≤ e.sales ∧ e.sales ≤ 1000000 ∧ 0 ≤ e.coins ∧ e.coins ≤ 10000000000 := by
 have key : ∀ (P : List Rec) (c : Int → Cnt), okG c P = true → (∀ x ∈ P, 0 ≤ x.a ∧ x.a ≤ 1000000) → (∀ m, 0 ≤ (c m).a ∧ 0 ≤ (c m).sales) → ∀ e ∈ zFL c P, 0 ≤ e.sales ∧ e.sales ≤ 1000000 ∧ 0 ≤ e.coins ∧ e.coins ≤ 10000000000 := by
  intro P
  induction P with
  | nil => intro c _ _ _ e he; simp [zFL] at he
  | cons r R ih =>
   intro c hok ha hc e he
   rw [zHA, Bool.and_eq_true] at hok
   rw [zBG] at he
   have hra := ha r List.mem_cons_self
   rcases List.mem_append.1 he with he | he
   ·split at he
    ·rename_i h2
     rw [if_pos h2.1] at hok
     simp at he
     have h1 := hok.1
     unfold zKJ at h1
     simp only [Bool.and_eq_true, decide_eq_true_eq] at h1
     have hcr := hc r.m
     rw [he]
     have e1 : (zCI (c r.m) r).sales = r.a - (c r.m).a - (c r.m).sales := rfl
     omega
    ·cases he
   ·refine ih _ hok.2 (fun x hx => ha x (List.mem_cons_of_mem _ hx)) (fun m => ?_) e he
    have hcm := hc m
    unfold zCR
    split
    ·split
     ·simp; omega
     ·split
      ·simp; omega
      ·simp; omega
    ·exact hcm
 rw [yAV] at ho
 split at ho
 ·rename_i hok
  cases ho
  exact key l _ hok (fun x hx => by have := zED (hr x hx); omega) (fun m => by simp [c0])
 ·cases ho
section
variable {σ : St}
theorem yJI {p : Option Addr} {l c : Nat} {M : List Rec} {o : List Lk} (h : yU σ 59 p l M) (hl : l ≤ 60) (hr : ∀ x ∈ M, yG x = true) (hs : Srt M) (hc : zAZ M) (ho : vP M = some o) : ∃ p1 c1 σ1 q d σ2, zF Pg 14 [.slice p l c] σ (.slice p1 l c1) σ1 ∧ zF Pg 18 [.slice p1 l c1] σ1 (.tuple ⟨[.slice q o.length d, iV 0]⟩) σ2 ∧ New σ σ2 ∧ SlV Pg σ2 70 5 q o.length (o.map lkV) := by
 have hlen := h.len
 obtain ⟨p1, c1, σ1, k1, n1, r1, _⟩ := yCG (c := c) h (by omega)
 rcases Lacks_c (c := c1) r1 (by omega) (yRG hr) with ⟨hz, _⟩ | ⟨_, _, _, o', q, d, σ2, ho', k2, n2, s2⟩
 ·have : zEO M = 0 := by
   unfold zEO
   rw [if_pos (fault_of (by omega) hr), if_pos (zGI.2 hc), yJC hs hc, ho]; rfl
  exact absurd this hz
 ·rw [yJC hs hc, ho] at ho'; cases ho'
  exact ⟨p1, c1, σ1, q, d, σ2, k1, k2, n1.trans n2, s2⟩
theorem yRS {τ0 τ : St} {a8 a9 : Addr} {l8 c8 l9 c9 B1 B2 B3 : Nat} {g n : Rec} {lf : List Rec} {cl : List Nat} {kk : Nat} {X : List Lk} {qx qy : Option Addr} {cx cy : Nat} {fr : Int} {Y : List Lk}
  (hN : New τ0 τ) (hr : yU τ 59 (some a8) l8 lf) (hcl : SlV Pg τ 3 1 (some a9) l9 (cl.map fun n : Nat => vV (n : Int))) (hkk : kk ≤ cl.length) (hlt : ∀ i ∈ cl, i < lf.length) (hl9 : l9 ≤ 1000)
  (og : Own τ B1 (yN g) 6) (on : Own τ B2 (yN n) 6) (ob : Own τ B3 (zN n.m 0 n.s 0 0) 5) (hB3 : τ0.next ≤ B3) (d1 : B1 ≠ B3) (d2 : B2 ≠ B3) (d8 : a8.block ≠ B3) (d9 : a9.block ≠ B3)
  (sx : SlV Pg τ 70 5 qx X.length (X.map lkV)) (sy : SlV Pg τ 70 5 qy Y.length (Y.map lkV)) (dx : ∀ b, AtP qx b → b ≠ B3) (dy : ∀ b, AtP qy b → b ≠ B3) (hX : X.length ≤ 60) (hb : ∀ e ∈ X, 0 ≤ e.sales ∧ e.sales ≤ 1000000 ∧ 0 ≤ e.coins ∧ e.coins ≤ 10000000000) 
  (hf : (cl.take kk).foldl (zMD lf g.m) 0 = fr) (hY : Y = (X.foldl (zBM g n ⟨n.m, fr, n.s, (X.foldl (zCS g n) (0, 0)).1, (X.foldl (zCS g n) (0, 0)).2⟩) ([], false)).1) :
  (∃ P2 : Int → St → Prop, zRE a8 l8 c8 a9 l9 c9 (kk : Int) B1 B2 qx X.length cx qy Y.length cy B3 0 0 τ P2 ∧ ∀ i σ', P2 i σ' → zMB a8 l8 c8 a9 l9 c9 (kk : Int) B1 B2 qx X.length cx qy Y.length cy B3 i σ' fun v _ => v = .bool true) := by
 have hcl2 : cl.length = l9 := by have := hcl.2.1; simpa using this
 have hrl := hr.len
 have g0 : zC Pg τ 3 ⟨B1, 0, none⟩ = some (vV g.m) := by simpa [zG] using og.rw.load1 (P := Pg) (t := 3) zR (k := 0) rfl
 refine ⟨fun i σ' => i = fr ∧ σ' = τ, yFG (Inv := fun k f i τ' => ∃ s : Nat, i = s ∧ s + k = kk ∧ τ' = τ ∧ f = (cl.take s).foldl (zMD lf g.m) 0) ?_ kk 0 0 τ ⟨0, rfl, by omega, rfl, rfl⟩, ?_⟩
 ·rintro k f i τ' ⟨s, rfl, hk, rfl, rfl⟩
  by_cases hs : s < kk
  rotate_left
  ·have : s = kk := by omega
   subst this
   exact yPN ⟨hf, rfl⟩ (by omega)
  obtain ⟨pos, hpos⟩ : ∃ pos, cl[s]? = some pos := ⟨cl[s]'(by omega), by simp⟩
  have hp := hlt pos (List.mem_of_getElem? hpos)
  have lp : zC Pg τ' 3 (zG a9 (Int.toNat (s : Int) * 1)) = some (vV (pos : Int)) := hcl.at rfl (by rw [List.getElem?_map, hpos]; rfl)
  obtain ⟨x, hx⟩ : ∃ x, lf[pos]? = some x := ⟨lf[pos]'hp, by simp⟩
  have l0 := zCE (P := Pg) (t' := 3) (i := pos) (k := 0) (x := vV x.m) hr (by rw [List.getElem?_map, hx]; rfl) rfl zR
  have l1 := zCE (P := Pg) (t' := 3) (i := pos) (k := 1) (x := vV x.s) hr (by rw [List.getElem?_map, hx]; rfl) rfl zR
  have e : (cl.take (s + 1)).foldl (zMD lf g.m) 0 = zMD lf g.m ((cl.take s).foldl (zMD lf g.m) 0) pos := by rw [xK hpos, List.foldl_append]; rfl
  unfold zMD at e
  rw [yQ hx] at e
  by_cases hm : x.m = g.m
  ·rw [if_pos hm] at e
   exact yPP lp l0 g0 l1 ⟨k - 1, by omega, s + 1, by omega, by omega, rfl, e.symm⟩ (by omega) ⟨by omega, by omega⟩ ⟨by omega, by omega⟩ hm
  ·rw [if_neg hm] at e
   exact yPO lp l0 g0 ⟨k - 1, by omega, s + 1, by omega, by omega, rfl, e.symm⟩ (by omega) ⟨by omega, by omega⟩ ⟨by omega, by omega⟩ hm
 rintro i σ' ⟨hi, rfl⟩
 rw [hi]
 clear hi
 have st := ob.store (P := Pg) (k := 1) (t := 3) (v := vV fr) (vs := [vV fr]) (ds := zN n.m fr n.s 0 0) rfl zRY rfl (by simp) rfl
 obtain ⟨τ3, hτ3⟩ : ∃ τ3, τ3 = σ'.own B3 (zN n.m fr n.s 0 0) 5 := ⟨_, rfl⟩
 have o3 : Own τ3 B3 (zN n.m fr n.s 0 0) 5 := by rw [hτ3]; exact ob.put
 have k3 : Only (· = B3) σ' τ3 := by rw [hτ3]; exact Only.own (.inr rfl)
 rw [← hτ3] at st
 obtain ⟨sm, hsm⟩ : ∃ sm, sm = X.foldl (zCS g n) (0, 0) := ⟨_, rfl⟩
 rw [← hsm] at hY
 refine yEZ (P4 := fun τ' => Only (· = B3) σ' τ' ∧ Own τ' B3 (zN n.m fr n.s sm.1 sm.2) 5) st (yFF (Inv := fun k i τ' => ∃ s : Nat, i = s ∧ s + k = X.length ∧ Only (· = B3) σ' τ' ∧ Own τ' B3 (zN n.m fr n.s ((X.take s).foldl (zCS g n) (0, 0)).1 ((X.take s).foldl (zCS g n) (0, 0)).2) 5) ?_ X.length 0 τ3 ⟨0, rfl, by omega, k3, o3⟩) ?_
 ·rintro k i τ' ⟨s, rfl, hk, kO, w⟩
  by_cases hs : s < X.length
  rotate_left
  ·have : s = X.length := by omega
   subst this
   rw [List.take_length, ← hsm] at w
   exact yPI ⟨kO, w⟩ (by omega)
  have sx' := kO.slv' sx (fun a e => dx _ ⟨a, e, rfl⟩)
  obtain ⟨ax, rfl, e, he, -⟩ := zAO (f := lkV) sx' hs
  have heb := hb e (List.mem_of_getElem? he)
  have fx : ∀ {k : Nat} {v : Value}, (lkL e)[k]? = some v → zC Pg τ' 3 (zG ax (Int.toNat (s : Int) * 5 + k)) = some v := fun h => zCE sx' (by rw [List.getElem?_map, he]; rfl) h zR
  have og' := kO.own' og d1
  have on' := kO.own' on d2
  have h0 : zC Pg τ' 3 ⟨B1, 0, none⟩ = some (vV g.m) := by simpa [zG] using og'.rw.load1 (P := Pg) (t := 3) zR (k := 0) rfl
  have h1 : zC Pg τ' 3 ⟨B1, 1, none⟩ = some (vV g.s) := by simpa [zG] using og'.rw.load1 (P := Pg) (t := 3) zR (k := 1) rfl
  have h2 : zC Pg τ' 3 ⟨B2, 1, none⟩ = some (vV n.s) := by simpa [zG] using on'.rw.load1 (P := Pg) (t := 3) zR (k := 1) rfl
  have es : (X.take (s + 1)).foldl (zCS g n) (0, 0) = zCS g n ((X.take s).foldl (zCS g n) (0, 0)) e := by rw [xK he, List.foldl_append]; rfl
  have bd : ∀ s, s ≤ X.length → 0 ≤ ((X.take s).foldl (zCS g n) (0, 0)).1 ∧ ((X.take s).foldl (zCS g n) (0, 0)).1 ≤ 1000000 * (s : Int) ∧ 0 ≤ ((X.take s).foldl (zCS g n) (0, 0)).2 ∧ ((X.take s).foldl (zCS g n) (0, 0)).2 ≤ 10000000000 * (s : Int) := by
   intro s
   induction s with
   | zero => intro _; simp
   | succ s ih =>
    intro hs
    have ih := ih (by omega)
    have hx : X[s]? = some (X[s]'(by omega)) := by simp
    have hbx := hb (X[s]'(by omega)) (by simp)
    rw [xK hx, List.foldl_append]
    simp only [List.foldl_cons, List.foldl_nil]
    unfold zCS at ih ⊢
    split
    ·simp only; omega
    ·omega
  have bds := bd s (by omega)
  generalize (X.take s).foldl (zCS g n) (0, 0) = u at w es bds
  have m3 : zC Pg τ' 3 ⟨B3, 3, none⟩ = some (vV u.1) := by simpa [zG] using w.rw.load1 (P := Pg) (t := 3) zR (k := 3) rfl
  have st1 := w.store (P := Pg) (k := 3) (t := 3) (v := vV (u.1 + e.sales)) (vs := [vV (u.1 + e.sales)]) (ds := zN n.m fr n.s (u.1 + e.sales) u.2) rfl zRY rfl (by simp) rfl
  have w1 := w.put (ds := zN n.m fr n.s (u.1 + e.sales) u.2)
  have m4 : zC Pg (τ'.own B3 (zN n.m fr n.s (u.1 + e.sales) u.2) 5) 3 ⟨B3, 4, none⟩ = some (vV u.2) := by simpa [zG] using w1.rw.load1 (P := Pg) (t := 3) zR (k := 4) rfl
  have kO1 : Only (· = B3) σ' (τ'.own B3 (zN n.m fr n.s (u.1 + e.sales) u.2) 5) := kO.trans' (Only.own (S := (· = B3)) (.inr rfl)) (fun b _ e => .inl e)
  have sx1 := kO1.slv' sx (fun a e => dx _ ⟨a, e, rfl⟩)
  have f4 : zC Pg (τ'.own B3 (zN n.m fr n.s (u.1 + e.sales) u.2) 5) 3 (zG ax (Int.toNat (s : Int) * 5 + 4)) = some (vV e.coins) := zCE sx1 (by rw [List.getElem?_map, he]; rfl) rfl zR
  have st2 := w1.store (P := Pg) (k := 4) (t := 3) (v := vV (u.2 + e.coins)) (vs := [vV (u.2 + e.coins)]) (ds := zN n.m fr n.s (u.1 + e.sales) (u.2 + e.coins)) rfl zRY rfl (by simp) rfl
  have w2 := w1.put (ds := zN n.m fr n.s (u.1 + e.sales) (u.2 + e.coins))
  have kO2 := kO1.trans' (Only.own (S := (· = B3)) (b := B3) (cs := zN n.m fr n.s (u.1 + e.sales) (u.2 + e.coins)) (n := 5) (.inr rfl)) (fun b _ e => .inl e)
  have nxY : zAG g n e = true → ∃ k', k' < k ∧ ∃ s_1 : Nat, (s : Int) + 1 = s_1 ∧ s_1 + k' = X.length ∧ Only (· = B3) σ' ((τ'.own B3 (zN n.m fr n.s (u.1 + e.sales) u.2) 5).own B3 (zN n.m fr n.s (u.1 + e.sales) (u.2 + e.coins)) 5) ∧ Own ((τ'.own B3 (zN n.m fr n.s (u.1 + e.sales) u.2) 5).own B3 (zN n.m fr n.s (u.1 + e.sales) (u.2 + e.coins)) 5) B3 (zN n.m fr n.s ((X.take s_1).foldl (zCS g n) (0, 0)).1 ((X.take s_1).foldl (zCS g n) (0, 0)).2) 5 := fun hh => by
   refine ⟨k - 1, by omega, s + 1, by omega, by omega, kO2, ?_⟩
   rw [es]; unfold zCS; rw [hh, if_pos rfl]; exact w2
  have nxN : zAG g n e = false → ∃ k', k' < k ∧ ∃ s_1 : Nat, (s : Int) + 1 = s_1 ∧ s_1 + k' = X.length ∧ Only (· = B3) σ' τ' ∧ Own τ' B3 (zN n.m fr n.s ((X.take s_1).foldl (zCS g n) (0, 0)).1 ((X.take s_1).foldl (zCS g n) (0, 0)).2) 5 := fun hh => by
   refine ⟨k - 1, by omega, s + 1, by omega, by omega, kO, ?_⟩
   rw [es]; unfold zCS; rw [hh, if_neg Bool.false_ne_true]; exact w
  by_cases q1 : e.m = g.m
  ·by_cases q2 : e.t = g.s
   ·have nx := nxY (by unfold zAG; simp [q1, q2])
    clear nxY nxN bd
    exact yPM (fx rfl) h0 (fx rfl) h1 m3 (fx rfl) st1 m4 f4 st2 nx (by omega) ⟨by omega, by omega⟩ q1 q2
   ·by_cases q3 : e.t = n.s
    ·have nx := nxY (by unfold zAG; simp [q1, q3])
     clear nxY nxN bd
     exact yPL (fx rfl) h0 (fx rfl) h1 h2 m3 (fx rfl) st1 m4 f4 st2 nx (by omega) ⟨by omega, by omega⟩ q1 q2 q3
    ·have nx := nxN (by unfold zAG; simp [q2, q3])
     clear nxY nxN bd
     exact yPK (fx rfl) h0 (fx rfl) h1 h2 nx (by omega) ⟨by omega, by omega⟩ q1 q2 q3
  ·have nx := nxN (by unfold zAG; simp [q1])
   clear nxY nxN bd
   exact yPJ (fx rfl) h0 nx (by omega) ⟨by omega, by omega⟩ q1
 rintro τ4 ⟨k4, o4⟩
 obtain ⟨both, hboth⟩ : ∃ both : Lk, both = ⟨n.m, fr, n.s, sm.1, sm.2⟩ := ⟨_, rfl⟩
 have o4 : Own τ4 B3 (lkL both) 5 := by rw [hboth]; exact o4
 rw [← hboth] at hY
 have og4 := k4.own' og d1
 have on4 := k4.own' on d2
 have sx4 := k4.slv' sx (fun a e => dx _ ⟨a, e, rfl⟩)
 have sy4 := k4.slv' sy (fun a e => dy _ ⟨a, e, rfl⟩)
 refine yEY (P6 := fun p22 l22 c22 τ' => l22 = Y.length ∧ New τ4 τ' ∧ SlV Pg τ' 70 5 p22 l22 (Y.map lkV)) (yFE (Inv := fun k p22 l22 c22 t i τ' => ∃ s : Nat, i = s ∧ s + k = X.length ∧ New τ4 τ' ∧ l22 = ((X.take s).foldl (zBM g n both) ([], false)).1.length ∧ t = ((X.take s).foldl (zBM g n both) ([], false)).2 ∧ l22 ≤ s ∧ Gr Pg τ' τ4.next 70 5 p22 l22 c22 (((X.take s).foldl (zBM g n both) ([], false)).1.map lkV)) ?_ X.length none 0 0 false 0 τ4 ⟨0, rfl, by omega, New.refl _, rfl, rfl, Nat.le_refl _, .nil⟩) ?_
 ·rintro k p22 l22 c22 t i τ' ⟨s, rfl, hk, hN4, hl22, rfl, hle, hg⟩
  by_cases hs : s < X.length
  rotate_left
  ·have : s = X.length := by omega
   subst this
   rw [List.take_length, ← hY] at hl22 hg
   exact yPB ⟨hl22, hN4, hg.slv⟩ (by omega)
  have sx' := SlV.le sx4 hN4.le
  obtain ⟨ax, rfl, e, he, ldx⟩ := zAO (f := lkV) sx' hs
  have fx : ∀ {k : Nat} {v : Value}, (lkL e)[k]? = some v → zC Pg τ' 3 (zG ax (Int.toNat (s : Int) * 5 + k)) = some v := fun h => zCE sx' (by rw [List.getElem?_map, he]; rfl) h zR
  have og' := og4.le hN4.le
  have on' := on4.le hN4.le
  have o' := o4.le hN4.le
  have h0 : zC Pg τ' 3 ⟨B1, 0, none⟩ = some (vV g.m) := by simpa [zG] using og'.rw.load1 (P := Pg) (t := 3) zR (k := 0) rfl
  have h1 : zC Pg τ' 3 ⟨B1, 1, none⟩ = some (vV g.s) := by simpa [zG] using og'.rw.load1 (P := Pg) (t := 3) zR (k := 1) rfl
  have h2 : zC Pg τ' 3 ⟨B2, 1, none⟩ = some (vV n.s) := by simpa [zG] using on'.rw.load1 (P := Pg) (t := 3) zR (k := 1) rfl
  have h70 : zC Pg τ' 70 ⟨B3, 0, none⟩ = some (lkV both) := by simpa [zG] using o'.rw.loadN (P := Pg) (t := 70) yLJ zGT (k := 0) (ds := lkL both) rfl rfl (by simp)
  have es : (X.take (s + 1)).foldl (zBM g n both) ([], false) = zBM g n both ((X.take s).foldl (zBM g n both) ([], false)) e := by rw [xK he, List.foldl_append]; rfl
  generalize hw : (X.take s).foldl (zBM g n both) ([], false) = w at hl22 hg es
  have put : ∀ v : Lk, ∃ q d τ5, yA Pg 35 35 (.slice p22 l22 c22) (.slice (some ⟨τ'.next, 0, none⟩) 1 1) (τ'.row (lkL v) 5) = some (.slice q (l22 + 1) d, τ5) ∧ New τ4 τ5 ∧ Gr Pg τ5 τ4.next 70 5 q (l22 + 1) d ((w.1 ++ [v]).map lkV) := fun v => by
   obtain ⟨q, d, τ5, g1, g2, g3, g4⟩ := zWY (lkV v) yCE hg (Le.refl _) (yUO _) (by omega) hN4.nx (e := rfl) (hc := rfl)
   exact ⟨q, d, τ5, g1, (hN4.row').of_only g3 (fun b hb => (hg.bd hb).1), by rw [List.map_append]; exact g2⟩
  have nx : ∀ {q d τ5} (v : Lk) (t : Bool), zBM g n both w e = (w.1 ++ [v], t) → New τ4 τ5 → Gr Pg τ5 τ4.next 70 5 q (l22 + 1) d ((w.1 ++ [v]).map lkV) → ∃ k', k' < k ∧ ∃ s_1 : Nat, (s : Int) + 1 = s_1 ∧ s_1 + k' = X.length ∧ New τ4 τ5 ∧ l22 + 1 = ((X.take s_1).foldl (zBM g n both) ([], false)).1.length ∧ t = ((X.take s_1).foldl (zBM g n both) ([], false)).2 ∧ l22 + 1 ≤ s_1 ∧ Gr Pg τ5 τ4.next 70 5 q (l22 + 1) d (((X.take s_1).foldl (zBM g n both) ([], false)).1.map lkV) := fun {q d τ5} v t hp hN5 hg5 => by
   refine ⟨k - 1, by omega, s + 1, by omega, by omega, hN5, ?_, ?_, by omega, ?_⟩ <;> rw [es, hp]
   ·simp [hl22]
   ·exact hg5
  have nx0 : zBM g n both w e = (w.1, true) → ∃ k', k' < k ∧ ∃ s_1 : Nat, (s : Int) + 1 = s_1 ∧ s_1 + k' = X.length ∧ New τ4 τ' ∧ l22 = ((X.take s_1).foldl (zBM g n both) ([], false)).1.length ∧ true = ((X.take s_1).foldl (zBM g n both) ([], false)).2 ∧ l22 ≤ s_1 ∧ Gr Pg τ' τ4.next 70 5 p22 l22 c22 (((X.take s_1).foldl (zBM g n both) ([], false)).1.map lkV) := fun hp => by
   refine ⟨k - 1, by omega, s + 1, by omega, by omega, hN4, ?_, ?_, by omega, ?_⟩ <;> rw [es, hp]
   ·exact hl22
   ·exact hg
  have pH : zAG g n e = true → zBM g n both w e = if w.2 then w else (w.1 ++ [both], true) := fun hh => by unfold zBM; rw [hh, if_pos rfl]
  have pN : zAG g n e = false → zBM g n both w e = (w.1 ++ [e], w.2) := fun hh => by unfold zBM; rw [hh, if_neg Bool.false_ne_true]
  obtain ⟨w1, w2⟩ := w
  by_cases q1 : e.m = g.m
  ·by_cases q2 : e.t = g.s
   ·have pp := pH (by unfold zAG; simp [q1, q2])
    cases w2 with
    | true =>
     have nn := nx0 (by rw [pp]; rfl)
     clear nx nx0 pH pN put
     exact yPH (fx rfl) h0 (fx rfl) h1 nn (by omega) ⟨by omega, by omega⟩ q1 q2
    | false =>
     obtain ⟨q, d, τ5, g1, g2, g3⟩ := put both
     have nn := nx both true (by rw [pp]; rfl) g2 g3
     clear nx nx0 pH pN put
     exact yPG (fx rfl) h0 (fx rfl) h1 h70 g1 nn (by omega) ⟨by omega, by omega⟩ q1 q2
   ·by_cases q3 : e.t = n.s
    ·have pp := pH (by unfold zAG; simp [q1, q3])
     cases w2 with
     | true =>
      have nn := nx0 (by rw [pp]; rfl)
      clear nx nx0 pH pN put
      exact yPF (fx rfl) h0 (fx rfl) h1 h2 nn (by omega) ⟨by omega, by omega⟩ q1 q2 q3
     | false =>
      obtain ⟨q, d, τ5, g1, g2, g3⟩ := put both
      have nn := nx both true (by rw [pp]; rfl) g2 g3
      clear nx nx0 pH pN put
      exact yPE (fx rfl) h0 (fx rfl) h1 h2 h70 g1 nn (by omega) ⟨by omega, by omega⟩ q1 q2 q3
    ·obtain ⟨q, d, τ5, g1, g2, g3⟩ := put e
     have nn := nx e w2 (pN (by unfold zAG; simp [q2, q3])) g2 g3
     clear nx nx0 pH pN put
     exact yPD (fx rfl) h0 (fx rfl) h1 h2 ldx g1 nn (by omega) ⟨by omega, by omega⟩ q1 q2 q3
  ·obtain ⟨q, d, τ5, g1, g2, g3⟩ := put e
   have nn := nx e w2 (pN (by unfold zAG; simp [q1])) g2 g3
   clear nx nx0 pH pN put
   exact yPC (fx rfl) h0 ldx g1 nn (by omega) ⟨by omega, by omega⟩ q1
 rintro p22 l22 c22 τ6 ⟨rfl, hN6, s6⟩
 have sy6 := SlV.le sy4 hN6.le
 refine yEX (Pr := fun _ _ => False) (P8 := fun τ' => τ' = τ6) (yFD (Inv := fun k i τ' => ∃ s : Nat, i = s ∧ s + k = Y.length ∧ τ' = τ6) ?_ Y.length 0 τ6 ⟨0, rfl, by omega, rfl⟩) (fun t τ h => h.elim) (fun τ e => by subst e; exact yEW rfl) rfl
 rintro k i τ' ⟨s, rfl, hk, rfl⟩
 have hYl : Y.length ≤ 1000000 := by
  have := sy.1.1
  have key : ∀ (Z : List Lk) (w : List Lk × Bool), (Z.foldl (zBM g n both) w).1.length ≤ w.1.length + Z.length := by
   intro Z
   induction Z with
   | nil => intro w; simp
   | cons z Z ih =>
    intro w
    rw [List.foldl_cons]
    have h1 := ih (zBM g n both w z)
    have h2 : (zBM g n both w z).1.length ≤ w.1.length + 1 := by
     unfold zBM
     split
     ·split
      ·omega
      ·simp
     ·simp
    rw [List.length_cons]; omega
  have := key X ([], false)
  rw [← hY] at this
  simp at this; omega
 by_cases hs : s < Y.length
 rotate_left
 ·exact yOZ rfl (by omega)
 obtain ⟨ay, rfl, e, he, ld1⟩ := zAO (f := lkV) sy6 hs
 obtain ⟨aw, rfl, e', he', ld2⟩ := zAO (f := lkV) s6 hs
 rw [he] at he'; cases he'
 have q := neq70 (x := e) (y := e) (o1 := .tmp 287) (o2 := .tmp 291)
 rw [decide_eq_true rfl] at q
 exact yPA ld1 ld2 q ⟨k - 1, by omega, s + 1, by omega, by omega, rfl⟩ (by omega) ⟨by omega, by omega⟩ ⟨by omega, by omega⟩
end
end Go.Proofs.Ytffgfojabcbegaa
