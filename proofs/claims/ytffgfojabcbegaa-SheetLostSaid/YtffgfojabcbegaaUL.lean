
import Derived.Test.YtffgfojabcbegaaUK
namespace Go.Proofs.Ytffgfojabcbegaa
open Go Go.Lay
set_option linter.unusedVariables false
set_option linter.unusedSimpArgs false
set_option maxRecDepth 20000
open Go.Sort (swp PermIn SortedIn Below SWO)
theorem zDV (l : List Rec) : zAS (l.map yP) = l.flatMap yH := by
 induction l with
 | nil => rfl
 | cons x l ih => rw [List.map_cons, List.flatMap_cons, ← ih]; simp [zAS, Value.cells]
abbrev Uniq (l : List Rec) : Prop := l.Pairwise fun x y => ¬ zGT x y
section
variable {σ : St}
structure M1 (σ τ : St) (M n0 : Nat) (l : List Rec) (p : Option Addr) (c : Nat) (out : List Rec) : Prop where
 new : New σ.re τ
 mp : zGM Try.prog τ M keyV yP (zKC out)
 gr : Gr Try.prog τ n0 79 6 p out.length c (out.map yP)
 un : Uniq out
 sub : ∀ x, x ∈ out ↔ x ∈ l
 len : out.length ≤ l.length
 nx : n0 ≤ τ.next
theorem key_eq {x y : Rec} : (x.m, x.s) = (y.m, y.s) ↔ zGT x y := by simp [zGT]
theorem ne_cons {l : List Rec} {x y : Rec} (hx : x ∈ l) (hy : y ∈ l) (k : zGT x y) (h : x ≠ y) : ¬ zBO l := fun c => h (c.key hx hy k)
theorem dt_of_gr {τ : St} {n0 c : Nat} {p : Option Addr} {out : List Rec} (h : Gr Try.prog τ n0 79 6 p out.length c (out.map yP)) (h0 : out ≠ []) : ∃ b s, p = some ⟨b, 0, s⟩ ∧ n0 ≤ b ∧ Dt τ b s out.toArray := by
 have ha := h.app
 rw [zDV] at ha
 have hl : 0 < out.length := by cases out with | nil => exact absurd rfl h0 | cons _ _ => simp
 obtain ⟨n, hn⟩ : ∃ n, n = out.length := ⟨_, rfl⟩
 obtain ⟨cs, hcs⟩ : ∃ cs, cs = out.flatMap yH := ⟨_, rfl⟩
 rw [← hn, ← hcs] at ha
 cases ha with
 | nil => omega
 | more h1 h2 h3 h4 h5 h6 h7 =>
  rename_i b s0 nx sp log
  subst h2
  refine ⟨b, sp, rfl, h3, h4, log, nx, ?_⟩
  rw [h1, hcs]
  unfold zDB
  rw [zDK]
  simp
theorem yKI {τ : St} {b : Nat} {s : Option Nat} {d : Array Rec} (h : Dt τ b s d) : xB τ 79 (some ⟨b, 0, s⟩) d.size d.toList := by
 obtain ⟨h1, log, nx, h2⟩ := h
 refine ⟨⟨?_, ?_, h1⟩, by simp, fun v hv => ?_⟩
 ·rw [zDV]; exact zWJ d
 ·rw [zDV]
  have hle : Nat.ble (0 + (zDB d).length) (d.size * 6) = true := (zR _ _).2 (by rw [zWJ]; omega)
  show yV τ ⟨b, 0, s⟩ (zDB d).length = some (zDB d)
  unfold yV
  simp only [h2, yA, zAF, Nat.beq_refl, cond_true, hle, List.drop_zero, List.take_length]
 ·obtain ⟨x, _, rfl⟩ := List.mem_map.1 hv
  exact zLK x
theorem yCY {τ0 : St} {M : Nat} {q : Option Addr} {c : Nat} {l : List Rec} (hq : xB τ0 79 q l.length l) (hN : New σ.re τ0) (hM : zGM Try.prog τ0 M keyV yP (zKC [])) (hMn : σ.next ≤ M) (hqM : ∀ b, AtP q b → b ≠ M) (hl : l.length ≤ 1000000) :
  zQA M q l.length c none 0 0 0 τ0 (fun p l' c' e τ => p = none ∧ l' = 0 ∧ c' = 0 ∧ e = 6 ∧ New σ.re τ ∧ ¬ zBO l) (fun p l' c' τ => ∃ out, l' = out.length ∧ M1 σ τ M τ0.next l p c' out) := by
 refine yCX (Inv := fun k p l' c' i τ => ∃ (s : Nat) (out : List Rec), i = s ∧ s + k = l.length ∧ l' = out.length ∧ M1 σ τ M τ0.next (l.take s) p c' out ∧ xB τ 79 q l.length l) ?_ l.length none 0 0 0 τ0 ⟨0, [], rfl, by omega, rfl, ⟨hN, hM, Gr.nil, .nil, by simp, by simp, Nat.le_refl _⟩, hq⟩
 rintro k p l' c' i τ ⟨s, out, rfl, hk, rfl, m1, hr⟩
 by_cases hs : s < l.length
 rotate_left
 ·have : s = l.length := by omega
  subst this
  rw [List.take_length] at m1
  exact yMM ⟨out, rfl, m1⟩ (by omega)
 obtain ⟨a, rfl, x, hx, ld⟩ := zCG hr hs
 have hxm := List.mem_of_getElem? hx
 have N1 : New τ ((((τ.row (rcd 0 0 0 0 0 0) 6).own τ.next (yH x) 6).row [iV 0, iV 0] 2).own (τ.next + 1) [iV x.m, iV x.s] 2) := (((New.row _ _ _).own (Nat.le_refl _)).row').own (by simp)
 have hMl := m1.mp.1
 have look := fun (z : St) (hz : Le τ z) => m1.mp.le hz
 have N2 : ∀ y : Rec, New τ ((((((τ.row (rcd 0 0 0 0 0 0) 6).own τ.next (yH x) 6).row [iV 0, iV 0] 2).own (τ.next + 1) [iV x.m, iV x.s] 2).row (rcd 0 0 0 0 0 0) 6).own (τ.next + 2) (yH y) 6) := fun y => (N1.row').own (by simp)
 have onx : ∀ y : Rec, Own ((((((τ.row (rcd 0 0 0 0 0 0) 6).own τ.next (yH x) 6).row [iV 0, iV 0] 2).own (τ.next + 1) [iV x.m, iV x.s] 2).row (rcd 0 0 0 0 0 0) 6).own (τ.next + 2) (yH y) 6) τ.next (yH x) 6 := fun y => (((((zE τ (rcd 0 0 0 0 0 0) 6).put (ds := yH x)).row).own (by simp)).row).own (by omega)
 cases hf : zKC out (x.m, x.s) with
 | some y =>
  obtain ⟨hy1, hy2⟩ := yNJ hf
  have hyl : y ∈ l := List.mem_of_mem_take ((m1.sub y).1 hy1)
  have hlk := (look _ N1.le).look1 yMW mapW yWM hf
  by_cases e : y = x
  ·refine yMO ld hlk (by rw [neq79, decide_eq_true e]; rfl) ⟨k - 1, by omega, s + 1, out, by omega, by omega, rfl, ⟨m1.new.trans (N2 y), look _ (N2 y).le, m1.gr.le (N2 y).le, m1.un, fun z => ?_, by rw [List.length_take]; have := m1.len; rw [List.length_take] at this; omega, Nat.le_trans m1.nx (N2 y).le.next⟩, SlV.le hr (N2 y).le⟩ (by omega)
   rw [m1.sub, wD hx, List.mem_append, List.mem_singleton]
   refine ⟨.inl, fun h => h.elim id (fun h => ?_)⟩
   rw [h, ← e]; exact (m1.sub y).1 hy1
  ·exact yMP ld hlk (by rw [neq79, decide_eq_false e]; rfl) ⟨rfl, rfl, rfl, rfl, m1.new.trans (N2 y), ne_cons hyl hxm (key_eq.1 hy2) e⟩ (by omega)
 | none =>
  have hlk := (look _ N1.le).look0 yMW mapW yWM hf
  obtain ⟨es, u1, u2⟩ := (look _ (N2 ⟨0, 0, 0, 0, 0, 0⟩).le).put yMW mapW (x.m, x.s) x
  obtain ⟨τ3, hτ3⟩ : ∃ τ3, τ3 = ((((((τ.row (rcd 0 0 0 0 0 0) 6).own τ.next (yH x) 6).row [iV 0, iV 0] 2).own (τ.next + 1) [iV x.m, iV x.s] 2).row (rcd 0 0 0 0 0 0) 6).own (τ.next + 2) (yH ⟨0, 0, 0, 0, 0, 0⟩) 6).put M (.map es) := ⟨_, rfl⟩
  rw [← hτ3] at u1 u2
  have O3 : Only (· = M) ((((((τ.row (rcd 0 0 0 0 0 0) 6).own τ.next (yH x) 6).row [iV 0, iV 0] 2).own (τ.next + 1) [iV x.m, iV x.s] 2).row (rcd 0 0 0 0 0 0) 6).own (τ.next + 2) (yH ⟨0, 0, 0, 0, 0, 0⟩) 6) τ3 := by rw [hτ3]; exact Only.put (.inr rfl)
  have N3 : New σ.re τ3 := (m1.new.trans (N2 ⟨0, 0, 0, 0, 0, 0⟩)).of_only O3 (fun b hb => by show σ.next ≤ b; omega)
  have o3 := O3.own' (onx ⟨0, 0, 0, 0, 0, 0⟩) (by omega)
  have g3 := (m1.gr.le (N2 ⟨0, 0, 0, 0, 0, 0⟩).le).only O3 (fun b hb e => by have := (m1.gr.bd hb).1; have := hM.1; omega)
  have hn3 : τ3.next = τ.next + 3 := by rw [hτ3]; rfl
  have hlen := m1.len
  rw [List.length_take] at hlen
  have hnx := m1.nx
  have hM0 : M < τ0.next := hM.1
  obtain ⟨p4, c4, τ4, g1, g2, g4, g5⟩ := yAC (yP x) zWT g3 (Le.refl τ3) (zLK x) (by omega) (by omega) (e := rfl) (hc := rfl)
  have hpM : ∀ b, AtP p b → b ≠ M := fun b hb e => by have := (m1.gr.bd hb).1; omega
  have nr : New τ3 (τ3.row (yH x) 6) := New.row _ _ _
  refine yMN ld hlk u1 (o3.ldN zDE xC (k := 0) rfl rfl (by simp)) g1 ⟨k - 1, by omega, s + 1, out ++ [x], by omega, by omega, by simp, ⟨(N3.trans nr).of_only g4 (fun b hb => ?_), ?_, ?_, ?_, ?_, ?_, ?_⟩, ?_⟩ (by omega)
  ·have := (m1.gr.bd hb).1; show σ.next ≤ b; omega
  ·have h1 := u2.le nr.le
   have h2 : zGM Try.prog τ4 M keyV yP _ := h1.at_ (g4.get M h1.1 (fun hb => hpM M hb rfl)) g4.next
   have e : zKC (out ++ [x]) = fun k' => if k' = (x.m, x.s) then some x else zKC out k' := funext fun k' => yNK hf
   rw [e]; exact h2
  ·rw [List.length_append, List.map_append]; exact g2
  ·refine List.pairwise_append.2 ⟨m1.un, List.pairwise_singleton _ _, fun y hy z hz => ?_⟩
   rw [List.mem_singleton.1 hz]
   exact fun e => yNL hf y hy (key_eq.2 e)
  ·intro z
   rw [List.mem_append, m1.sub, wD hx, List.mem_append]
  ·rw [List.length_append, List.length_take, List.length_singleton]; omega
  ·exact Nat.le_trans (Nat.le_trans (show τ0.next ≤ τ3.next by omega) nr.le.next) g4.next
  ·have h1 := SlV.le hr (N2 ⟨0, 0, 0, 0, 0, 0⟩).le
   have h2 := O3.slv' h1 (fun a' e hb => hqM _ ⟨a', e, rfl⟩ hb)
   have h3 := SlV.le h2 nr.le
   exact g4.slv' h3 (fun a' e hb => by
    have := (m1.gr.bd hb).1
    have := zTH hq a' e
    omega)
theorem zXF {τ0 : St} {p : Option Addr} {c : Nat} {L : List Rec} (hp : xB τ0 79 p L.length L) (hN : New σ.re τ0) (hs : Srt L) (hl : L.length ≤ 1000000) :
  zPZ p L.length c 0 τ0 (fun p' l' c' e τ => p' = none ∧ l' = 0 ∧ c' = 0 ∧ e = 6 ∧ New σ.re τ ∧ ¬ zBO L) (fun τ => New σ.re τ ∧ xB τ 79 p L.length L ∧ zBO L) := by
 refine yCW (Inv := fun k i τ => ∃ s : Nat, i = s ∧ s + k = L.length ∧ New σ.re τ ∧ xB τ 79 p L.length L ∧ ∀ (j : Nat) (x y : Rec), j + 1 < s → L[j]? = some x → L[j + 1]? = some y → x.m = y.m → x.t ≤ y.t) ?_ L.length 0 τ0 ⟨0, rfl, by omega, hN, hp, fun j x y h => by omega⟩
 rintro k i τ ⟨s, rfl, hk, hNw, hr, hadj⟩
 by_cases hsl : s < L.length
 rotate_left
 ·refine yMH ⟨hNw, hr, zSA hs fun j x y h1 h2 hm => hadj j x y ?_ h1 h2 hm⟩ (by omega)
  have := (List.getElem?_eq_some_iff.1 h2).1
  omega
 obtain ⟨a, rfl, x, hx, ld⟩ := zCG hr hsl
 have N1 : New τ ((τ.row (rcd 0 0 0 0 0 0) 6).own τ.next (yH x) 6) := (New.row _ _ _).own (Nat.le_refl _)
 have hr1 := SlV.le hr N1.le
 by_cases h0 : 0 < s
 rotate_left
 ·exact yMI ld ⟨k - 1, by omega, s + 1, by omega, by omega, hNw.trans N1, hr1, fun j x y h => by omega⟩ (by omega) (by omega) (by omega)
 have hy : L[s - 1]? = some (L[s - 1]'(by omega)) := by simp
 obtain ⟨y, hy'⟩ : ∃ y, y = L[s - 1]'(by omega) := ⟨_, rfl⟩
 rw [← hy'] at hy
 have hmy : (L.map yP)[s - 1]? = some (.agg ⟨yH y⟩) := by rw [List.getElem?_map, hy]; rfl
 have e1 : Int.toNat ((s : Int) - 1) = s - 1 := by omega
 have l1 : zD Try.prog ((τ.row (rcd 0 0 0 0 0 0) 6).own τ.next (yH x) 6) 3 (zJ a ((Int.toNat ((s : Int) - 1) * 6) + 0)) = some (iV y.m) := by
  rw [e1]
  exact zGO (t' := 3) hr1 hmy (k := 0) rfl zP
 have l2 : zD Try.prog ((τ.row (rcd 0 0 0 0 0 0) 6).own τ.next (yH x) 6) 3 (zJ a ((Int.toNat ((s : Int) - 1) * 6) + 2)) = some (iV y.t) := by
  rw [e1]
  exact zGO (t' := 3) hr1 hmy (k := 2) rfl zP
 have step : (y.m = x.m → y.t ≤ x.t) → ∀ (j : Nat) (u v : Rec), j + 1 < s + 1 → L[j]? = some u → L[j + 1]? = some v → u.m = v.m → u.t ≤ v.t := by
  intro hyx j u v hj hu hv hm
  by_cases e : j + 1 = s
  ·rw [show j = s - 1 by omega, hy] at hu
   rw [e, hx] at hv
   cases hu; cases hv
   exact hyx hm
  ·exact hadj j u v (by omega) hu hv hm
 by_cases hm : y.m = x.m
 ·by_cases ht : x.t < y.t
  ·refine yML ld l1 l2 ⟨rfl, rfl, rfl, rfl, hNw.trans N1, fun hc => ?_⟩ (by omega) (by omega) (by omega) (by omega) (by omega)
   have := (yIF hs hc hy hx (by omega) hm).2
   omega
  ·exact yMK ld l1 l2 ⟨k - 1, by omega, s + 1, by omega, by omega, hNw.trans N1, hr1, step fun _ => by omega⟩ (by omega) (by omega) (by omega) (by omega) (by omega)
 ·exact yMJ ld l1 ⟨k - 1, by omega, s + 1, by omega, by omega, hNw.trans N1, hr1, step fun h => absurd h hm⟩ (by omega) (by omega) (by omega) (by omega) (by omega)
end
end Go.Proofs.Ytffgfojabcbegaa
