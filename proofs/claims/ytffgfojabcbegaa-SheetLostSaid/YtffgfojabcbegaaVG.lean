
import Derived.Test.YtffgfojabcbegaaVF
import Derived.Test.YtffgfojabcbegaaSI
namespace Go.Proofs.Ytffgfojabcbegaa
open Go Go.Lay
open Try renaming prog → Pg
set_option linter.unusedVariables false
set_option linter.unusedSimpArgs false
set_option maxRecDepth 20000
theorem yRB {x : Rec} : ∀ {l : List Rec}, (zXH x l).length = l.length + 1
 | [] => rfl
 | y :: ys => by
  unfold zXH
  split
  ·rfl
  ·rw [List.length_cons, yRB]; rfl
theorem yHW : ∀ {l o : List Rec}, (l.foldl step o).length ≤ o.length + l.length
 | [], o => Nat.le_refl _
 | x :: xs, o => by
  rw [List.foldl_cons]
  have h := yHW (l := xs) (o := step o x)
  have h2 : (step o x).length ≤ o.length + 1 := by
   unfold step
   split
   ·omega
   ·rw [yRB]; exact Nat.le_refl _
  rw [List.length_cons]; omega
theorem zUV {l : List Rec} : (vZ l).length ≤ l.length := by
 have := yHW (l := l) (o := [])
 unfold vZ; simpa using this
def zCI (xs : List Rec) : Int := if xV [xs] = 0 then (if zIP xs = true then (if (zAM (vZ xs)).isSome then 0 else 9) else 6) else xV [xs]
section
variable {σ : St}
theorem yEQ {p : Option Addr} {l c : Nat} : ∃ a1 σ', zG Pg 43 [.slice p l c] σ (.func (.func 65) ⟨[]⟩ ⟨[.pointer (some ⟨a1, 0, none⟩)]⟩) σ' ∧ New σ σ' ∧ Own σ' a1 [.slice p l c] 1 ∧ σ.next ≤ a1 := by
 have key : zO Pg 43 [.slice p l c] σ.re fun v s => New σ.re s ∧ ∃ a1, v = .func (.func 65) ⟨[]⟩ ⟨[.pointer (some ⟨a1, 0, none⟩)]⟩ ∧ Own s a1 [.slice p l c] 1 ∧ σ.next ≤ a1 :=
  yBA ⟨New.row _ _ _, _, rfl, zE _ _ _, Nat.le_refl _⟩
 obtain ⟨v, σ', h1, h2, a1, rfl, h3, h4⟩ := zO.new (Q := fun v s => ∃ a1, v = .func (.func 65) ⟨[]⟩ ⟨[.pointer (some ⟨a1, 0, none⟩)]⟩ ∧ Own s a1 [.slice p l c] 1 ∧ σ.next ≤ a1) key (by rintro v s s' ⟨a1, rfl, g1, g2⟩ hle; exact ⟨a1, rfl, g1.le hle, g2⟩) (by
  rintro v s hr ⟨a1, rfl, g1, g2⟩
  exact Bool.noConfusion (show false = true from hr))
 exact ⟨a1, σ', h1, h2, h3, h4⟩
theorem yRT {p : Option Addr} {l c : Nat} {xs : List Rec} (h : xB σ 79 p l xs) (hl : l ≤ 1073741824) (hb : ∀ x ∈ xs, zXO x) :
  (zCI xs ≠ 0 ∧ zG Pg 18 [.slice p l c] σ (.tuple ⟨[.slice none 0 0, iV (zCI xs)]⟩) σ) ∨
  (zCI xs = 0 ∧ zBO xs ∧ xV [xs] = 0 ∧ ∃ o q d σ', zAM (vZ xs) = some o ∧ zG Pg 18 [.slice p l c] σ (.tuple ⟨[.slice q o.length d, iV 0]⟩) σ' ∧ New σ σ' ∧ SlV Pg σ' 70 5 q o.length (o.map lkV)) := by
 have hlen := h.len
 obtain ⟨σ1, hσ1⟩ : ∃ σ1, σ1 = ((σ.re.row [.slice none 0 0] 1).row [iV 0] 1).row [.slice p l c] 1 := ⟨_, rfl⟩
 have N1 : New σ.re σ1 := by rw [hσ1]; exact (New.row _ _ _).row'.row'
 have o1 : Own σ1 σ.next [.slice none 0 0] 1 := by rw [hσ1]; exact ((zE σ.re [.slice none 0 0] 1).row).row
 have o2 : Own σ1 (σ.next + 1) [iV 0] 1 := by rw [hσ1]; exact (zE (σ.re.row [.slice none 0 0] 1) [iV 0] 1).row
 have o3 : Own σ1 (σ.next + 2) [.slice p l c] 1 := by rw [hσ1]; exact zE ((σ.re.row [.slice none 0 0] 1).row [iV 0] 1) _ _
 have hx1 : xB σ1 79 p l xs := (SlV.le h (le0 σ)).le N1.le
 have hflat : ([xs] : List (List Rec)).flatten = xs := by simp
 have km := yZO (c := 1) (zAT.single yAQ o3 hx1) (by omega) (by intro r hr; simp at hr; subst hr; exact ⟨by omega, hb⟩)
 rw [hflat] at km
 have bad : ∀ e : Int, e ≠ 0 → zG Pg 42 [.slice (some ⟨σ.next + 2, 0, none⟩) 1 1] σ1 (.tuple ⟨[.slice none 0 0, iV e]⟩) σ1 → zG Pg 18 [.slice p l c] σ (.tuple ⟨[.slice none 0 0, iV e]⟩) σ := by
  intro e he k
  have st1 := o1.store (P := Pg) (k := 0) (t := 35) (v := .slice none 0 0) (vs := [.slice none 0 0]) (ds := [.slice none 0 0]) rfl yBE rfl (by simp) rfl
  have p2 := o2.own (ds := [.slice none 0 0]) (m := 1) (c := σ.next) (by omega)
  have st2 := p2.store (P := Pg) (k := 0) (t := 25) (v := iV e) (vs := [iV e]) (ds := [iV e]) rfl yJZ rfl (by simp) rfl
  have q1 := ((o1.put (ds := [.slice none 0 0])).own (ds := [iV e]) (m := 1) (c := σ.next + 1) (by omega)).rw.load1 (P := Pg) (t := 35) yJH (k := 0) rfl
  have q2 := (p2.put (ds := [iV e])).rw.load1 (P := Pg) (t := 25) agg25 (k := 0) rfl
  have NN : New σ.re ((σ1.own σ.next [.slice none 0 0] 1).own (σ.next + 1) [iV e] 1) := (N1.own (by show σ.next ≤ σ.next; omega)).own (by show σ.next ≤ σ.next + 1; omega)
  subst hσ1
  exact zO.pure (Lacks_ra k st1 st2 (by simpa [zJ] using q1) (by simpa [zJ] using q2) ⟨rfl, NN.lw⟩ he)
 rcases km with ⟨hz, k⟩ | ⟨hz, hc, k⟩ | ⟨hz, hc, q, d, σ3, k, N3, hr⟩
 ·have e : zCI xs = xV [xs] := by unfold zCI; rw [if_neg hz]
  rw [e]
  exact .inl ⟨hz, bad _ hz k⟩
 ·have e : zCI xs = 6 := by unfold zCI; rw [if_pos hz, if_neg (fun h => hc (zDZ.1 h))]
  rw [e]
  exact .inl ⟨by decide, bad _ (by decide) k⟩
 have eZ : zCI xs = if (zAM (vZ xs)).isSome then 0 else 9 := by unfold zCI; rw [if_pos hz, if_pos (zDZ.2 hc)]
 obtain ⟨z1, z2, z3⟩ := zQG hz
 have hxl : xs.length ≤ 60 := z2 xs (by simp)
 have hLl := zUV (l := xs)
 obtain ⟨L, hL⟩ : ∃ L, L = vZ xs := ⟨_, rfl⟩
 rw [← hL] at hr k eZ hLl ⊢
 have hbd : ∀ x ∈ L, Bd x := fun x hx => bd_right (z3 xs (by simp) x (by rw [hL] at hx; exact zLD.1 hx))
 have hs : Srt L := by rw [hL]; exact zOR hc
 obtain ⟨σ4, hσ4⟩ : ∃ σ4, σ4 = σ3.row [.slice none 0 0] 1 := ⟨_, rfl⟩
 have N4 : New σ3 σ4 := by rw [hσ4]; exact New.row _ _ _
 have w3 : Own σ4 σ3.next [.slice none 0 0] 1 := by rw [hσ4]; exact zE _ _ _
 obtain ⟨a1, σ5, k5, N5, oa, ha1⟩ := yEQ (σ := σ4) (p := q) (l := L.length) (c := d)
 have n3 : σ1.next ≤ σ3.next := N3.nx
 have n1 : σ1.next = σ.next + 3 := by rw [hσ1]; rfl
 have n4 : σ4.next = σ3.next + 1 := by rw [hσ4]; rfl
 have n5 := N5.nx
 have NN := ((N1.trans N3).trans N4).trans N5
 have hq3 : ∀ b, AtP q b → b < σ3.next := fun b hb => by obtain ⟨a, e, rfl⟩ := hb; exact zTH hr a e
 have key : zO Pg 18 [.slice p l c] σ.re fun v s => New σ.re s ∧ ((zAM L = none ∧ v = .tuple ⟨[.slice none 0 0, iV 9]⟩) ∨ ∃ o q d, zAM L = some o ∧ v = .tuple ⟨[.slice q o.length d, iV 0]⟩ ∧ SlV Pg s 70 5 q o.length (o.map lkV)) := by
  have hR := yJQ (σ := σ) (σ5 := σ5) (a1 := a1) (B1 := σ.next) (B2 := σ.next + 1) (B3 := σ3.next) (d := d) (q := q) (L := L) hs (by omega) hbd ⟨NN.le.next, NN.le.get⟩ NN.lw (by have := oa.lt; omega) (by omega) (by omega) (by omega) (by omega) (by omega) (by omega) (by omega) (by omega) (by omega) (by omega) (fun b hb => by have := hq3 b hb; omega) (fun b hb => by have := hq3 b hb; omega)
   oa ((SlV.le hr N4.le).le N5.le) (((o1.le N3.le).le N4.le).le N5.le) (((o2.le N3.le).le N4.le).le N5.le) (w3.le N5.le)
   (Pn := fun z => ∃ o po co, zAM L = some o ∧ Le σ z ∧ Own z σ.next [.slice none 0 0] 1 ∧ Own z (σ.next + 1) [iV 0] 1 ∧ Own z σ3.next [.slice po o.length co] 1 ∧ Gr Pg z σ5.next 70 5 po o.length co (o.map lkV) ∧ yJ z.heap σ5.next = some .defd ∧ σ5.next < z.next ∧ σ.next ≤ z.low)
   (Pr := fun z => zAM L = none ∧ Le σ z ∧ Own z σ.next [.slice none 0 0] 1 ∧ Own z (σ.next + 1) [iV 9] 1 ∧ yJ z.heap σ5.next = some .defd ∧ σ5.next < z.next ∧ σ.next ≤ z.low)
   (fun z o po co h1 h2 h3 h4 h5 h6 h7 h8 h9 => ⟨o, po, co, h1, h2, h3, h4, h5, h6, h7, h8, h9⟩) (fun z h1 h2 h3 h4 h5 h6 h7 => ⟨h1, h2, h3, h4, h5, h6, h7⟩)
  subst hσ4 hσ1
  refine Lacks_rb k k5 hR ?_ ?_ rfl
  ·rintro z ⟨o, po, co, h1, h2, h3, h4, h5, h6, h7, h8, h9⟩
   have l1 := h5.rw.load1 (P := Pg) (t := 35) yJH (k := 0) rfl
   have st1 := h3.store (P := Pg) (k := 0) (t := 35) (v := .slice po o.length co) (vs := [.slice po o.length co]) (ds := [.slice po o.length co]) rfl yBE rfl (by simp) rfl
   have p2 := h4.own (ds := [.slice po o.length co]) (m := 1) (c := σ.next) (by omega)
   have st2 := p2.store (P := Pg) (k := 0) (t := 25) (v := iV 0) (vs := [iV 0]) (ds := [iV 0]) rfl yJZ rfl (by simp) rfl
   have kk : Only (fun y => y = σ.next ∨ y = σ.next + 1) z ((z.own σ.next [.slice po o.length co] 1).own (σ.next + 1) [iV 0] 1) := ((Only.own (S := (· = σ.next)) (.inr rfl)).mono (T := fun y => y = σ.next ∨ y = σ.next + 1) fun b _ e => .inl e).trans' (Only.own (S := (· = σ.next + 1)) (.inr rfl)) (fun b _ e => .inl (.inr e))
   have q1 := (h3.put (ds := [.slice po o.length co])).own (ds := [iV 0]) (m := 1) (c := σ.next + 1) (by omega)
   have q2 := p2.put (ds := [iV 0])
   obtain ⟨z8, hz8⟩ : ∃ z8, z8 = (z.own σ.next [.slice po o.length co] 1).own (σ.next + 1) [iV 0] 1 := ⟨_, rfl⟩
   rw [← hz8] at kk q1 q2
   have hd : yJ z8.heap σ5.next = some .defd := (kk.get _ h8 (by omega)).trans h7
   obtain ⟨s, m1, m2, m3, m4⟩ := zTM (ms := [σ5.next]) (σ := z8) (by intro d hd'; simp at hd'; rw [hd']; exact hd) (by simp)
   have n8 : z8.next = z.next := by rw [hz8]; rfl
   have u1 : Own s σ.next [.slice po o.length co] 1 := ⟨(m3 _ (by simp; omega)).trans q1.get, by rw [m2]; exact q1.lt⟩
   have u2 : Own s (σ.next + 1) [iV 0] 1 := ⟨(m3 _ (by simp; omega)).trans q2.get, by rw [m2]; exact q2.lt⟩
   have lo8 : σ.next ≤ z8.low := by rw [hz8]; show σ.next ≤ min (min _ _) _; omega
   have fin : New σ.re s := ⟨⟨by have := h2.next; show σ.next ≤ s.next; omega, fun b hb => by
    have hb : b < σ.next := hb
    have := h2.next
    exact (m3 b (by simp; omega)).trans ((kk.get b (by omega) (by omega)).trans (h2.get b hb))⟩, fun m e1 e2 => by
    have e2 : m ≤ σ.next := e2
    have := m4 σ.next lo8 (by intro d hd'; simp at hd'; omega)
    omega⟩
   have hg : SlV Pg s 70 5 po o.length (o.map lkV) := by
    have g8 := h6.only kk (fun b hb e => by have := (h6.bd hb).1; omega)
    have hno : ¬ AtP po σ5.next := fun hb => by
     obtain ⟨cs, k, lg, nx, ro, e⟩ := yHS h6 hb
     rw [h7] at e; cases e
    have hh : SlV Pg z8 70 5 po o.length (o.map lkV) := g8.slv
    ·refine ⟨⟨hh.1.1, ?_⟩, hh.2⟩
     cases po with
     | none => exact hh.1.2
     | some a =>
      have hrow : Row z8 a (zAS (o.map lkV)) := hh.1.2
      refine ⟨?_, by rw [m2]; exact hrow.lt⟩
      have hrd := hrow.rd
      unfold yV at hrd ⊢
      rw [m3 _ (by simp; exact fun e => hno ⟨a, rfl, e⟩)]; exact hrd
   subst hz8
   exact yJP (by simpa [zJ] using l1) st1 st2 m1 (by simpa [zJ] using u1.rw.load1 (P := Pg) (t := 35) yJH (k := 0) rfl) (by simpa [zJ] using u2.rw.load1 (P := Pg) (t := 25) agg25 (k := 0) rfl) ⟨fin, .inr ⟨o, po, co, h1, rfl, hg⟩⟩
  ·rintro z ⟨h1, h2, h3, h4, h5, h6, h7⟩
   obtain ⟨s, m1, m2, m3, m4⟩ := zTM (ms := [σ5.next]) (σ := z) (by intro d hd'; simp at hd'; rw [hd']; exact h5) (by simp)
   have u1 : Own s σ.next [.slice none 0 0] 1 := ⟨(m3 _ (by simp; omega)).trans h3.get, by rw [m2]; exact h3.lt⟩
   have u2 : Own s (σ.next + 1) [iV 9] 1 := ⟨(m3 _ (by simp; omega)).trans h4.get, by rw [m2]; exact h4.lt⟩
   have fin : New σ.re s := ⟨⟨by have := h2.next; show σ.next ≤ s.next; omega, fun b hb => by
    have hb : b < σ.next := hb
    exact (m3 b (by simp; omega)).trans (h2.get b hb)⟩, fun m e1 e2 => by
    have e2 : m ≤ σ.next := e2
    have := m4 σ.next h7 (by intro d hd'; simp at hd'; omega)
    omega⟩
   exact yJO m1 (by simpa [zJ] using u1.rw.load1 (P := Pg) (t := 35) yJH (k := 0) rfl) (by simpa [zJ] using u2.rw.load1 (P := Pg) (t := 25) agg25 (k := 0) rfl) ⟨fin, .inl ⟨h1, rfl⟩⟩
 cases ho : zAM L with
 | none =>
  rw [ho] at eZ
  have eZ : zCI xs = 9 := eZ
  rw [eZ]
  obtain ⟨v, τ, hN, hNew, ⟨_, rfl⟩ | ⟨o, q', d', ho', _⟩⟩ := key
  ·exact .inl ⟨by decide, zO.pure ⟨_, τ, hN, rfl, hNew.lw⟩⟩
  ·rw [ho] at ho'; cases ho'
 | some o =>
  rw [ho] at eZ
  have eZ : zCI xs = 0 := eZ
  obtain ⟨v, τ, hN, hNew, ⟨hn, _⟩ | ⟨o', q', d', ho', rfl, hsl⟩⟩ := key
  ·rw [ho] at hn; cases hn
  ·rw [ho] at ho'; cases ho'
   obtain ⟨v, σ', g1, g2, q'', d'', rfl, g3⟩ := zO.new (P := Pg) (f := 18) (args := [.slice p l c]) (σ := σ) (Q := fun v s => ∃ q d, v = .tuple ⟨[.slice q o.length d, iV 0]⟩ ∧ SlV Pg s 70 5 q o.length (o.map lkV)) ⟨_, τ, hN, hNew, q', d', rfl, hsl⟩ (by rintro v s s' ⟨q, d, rfl, g⟩ hle; exact ⟨q, d, rfl, SlV.le g hle⟩) (by
    rintro v s hr ⟨q, d, rfl, g⟩
    refine ⟨q, d, rfl, ?_⟩
    cases q with
    | none => exact zKN g
    | some a => exact Bool.noConfusion (show false = true from hr))
   exact .inr ⟨eZ, hc, hz, o, q'', d'', σ', rfl, g1, g2, g3⟩
end
end Go.Proofs.Ytffgfojabcbegaa
