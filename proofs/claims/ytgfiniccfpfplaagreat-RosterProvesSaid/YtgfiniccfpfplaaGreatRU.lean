import Derived.Test.YtgfiniccfpfplaaGreatRR

namespace Go.Proofs.YtgfiniccfpfplaaGreat
open Go Go.Lay
set_option linter.unusedVariables false
set_option linter.unusedSimpArgs false
set_option maxRecDepth 20000
section
variable {σ τ : St} {w : Wk} {p q r t : Option Addr} {l m c d rc tc : Nat} {rs ts : List Int}
theorem on_c {D : Nat} : ∃ a1 a2 σ', zE Tryz.prog 75 [.agg ⟨wkc w.days p l c q m d w.rest w.run w.hours⟩, iV (D : Int)] σ (.func (.func 91) ⟨[]⟩ ⟨[.pointer (some ⟨a1, 0, none⟩), .pointer (some ⟨a2, 0, none⟩)]⟩) σ' ∧ New σ σ' ∧ σ.next ≤ a2 ∧ Row σ' ⟨a1, 0, none⟩ (wkc w.days p l c q m d w.rest w.run w.hours) ∧ Row σ' ⟨a2, 0, none⟩ [xE D] := by
 obtain ⟨v, σ', h1, h2, a1, a2, rfl, h3, h4, h5⟩ := zN.new (σ := σ) (P := Tryz.prog) (f := 75) (args := [.agg ⟨wkc w.days p l c q m d w.rest w.run w.hours⟩, iV (D : Int)]) (Q := fun v s => ∃ a1 a2, v = .func (.func 91) ⟨[]⟩ ⟨[.pointer (some ⟨a1, 0, none⟩), .pointer (some ⟨a2, 0, none⟩)]⟩ ∧ σ.next ≤ a2 ∧ Row s ⟨a1, 0, none⟩ (wkc w.days p l c q m d w.rest w.run w.hours) ∧ Row s ⟨a2, 0, none⟩ [xE D])
  (on_ra ⟨(New.row _ _ _).row', σ.re.next, σ.re.next + 1, rfl, by show σ.next ≤ σ.next + 1; omega, (xQ _ _ _).row, xQ (σ.re.row (wkc w.days p l c q m d w.rest w.run w.hours) 6) _ _⟩) (by rintro v s s' ⟨a1, a2, rfl, g1, g2, g3⟩ hle; exact ⟨a1, a2, rfl, g1, g2.le hle, g3.le hle⟩) (by rintro v s hr ⟨a1, a2, rfl, _⟩; cases hr)
 exact ⟨a1, a2, σ', h1, h2, h3, h4, h5⟩
theorem days_run {n : Nat} (hn : w.days = (n : Int)) (hn7 : n ≤ 7) (h : WkP σ 85 88 w p l q m) (hs : Sane w l m) (hsh : zIY w) (hr : yU σ r l rs) (ht : yU σ t l ts) (hro : ∀ i, i < l → -1 ≤ zL rs i ∧ zL rs i < (m : Int))
  (hts : ∀ i, i < l → (dty w i).on ≤ zL ts i ∧ zL ts i ≤ (dty w i).on + 1440) (hA : ∀ D j, D ≤ 6 → j ≤ l → (zEZ w (zL rs) (zL ts) D ++ zGX w (zL rs) (zL ts) D j).length ≤ 450)
  (hJ : J σ (wkc w.days p l c q m d w.rest w.run w.hours) (.slice r l rc) (.slice t l tc) (fun x => x ∈ ([] : List Nat)) (st0 w m) [] τ) :
  zSI σ.next (σ.next + 1) (σ.next + 2) (σ.next + 3) (σ.next + 4) w.days 0 [] τ (fun ms z => J σ (wkc w.days p l c q m d w.rest w.run w.hours) (.slice r l rc) (.slice t l tc) (fun x => x ∈ ms) (stF w (zL rs) (zL ts) m n 0) (zEZ w (zL rs) (zL ts) n) z ∧ ms.Nodup ∧ ∀ y ∈ ms, yJ z.heap y = some .defd ∧ σ.next + 5 ≤ y ∧ y < z.next) := by
 refine yGX (Inv := fun k i ms z => ∃ D : Nat, i = D ∧ D + k = n ∧ J σ (wkc w.days p l c q m d w.rest w.run w.hours) (.slice r l rc) (.slice t l tc) (fun x => x ∈ ms) (stF w (zL rs) (zL ts) m D 0) (zEZ w (zL rs) (zL ts) D) z ∧ ms.Nodup ∧ ∀ y ∈ ms, yJ z.heap y = some .defd ∧ σ.next + 5 ≤ y ∧ y < z.next) ?_ n 0 [] τ ⟨0, rfl, by omega, hJ, List.nodup_nil, fun y hy => by cases hy⟩
 rintro k i ms z ⟨D, rfl, hk, hz, hnd, hms⟩
 by_cases hD : D < n
 rotate_left
 ·have : D = n := by omega
  subst this
  exact yTO ⟨hz, hnd, hms⟩ (by omega)
 have lw : zC Tryz.prog z 34 ⟨σ.next, 0, none⟩ = some (.agg ⟨wkc w.days p l c q m d w.rest w.run w.hours⟩) := hz.wk.ldN (k := 0) uN xL (ds := wkc w.days p l c q m d w.rest w.run w.hours) rfl rfl (by simp)
 obtain ⟨a1, a2, z2, c2, n2, ha2, r1, r2⟩ := on_c (σ := z) (w := w) (p := p) (l := l) (c := c) (q := q) (m := m) (d := d) (D := D)
 have hz5 : σ.next + 5 ≤ z.next := by have := hz.nw.lt; omega
 have J2 := ((hz.mono (Y := fun x => x = a2 ∨ x ∈ ms) (fun b h1 _ h3 => h3.elim (fun e => by omega) id)).le n2.le (hz.new.trans n2))
 have hms2 : ∀ y ∈ ms, yJ z2.heap y = some .defd ∧ σ.next + 5 ≤ y ∧ y < z2.next := fun y hy => by
  obtain ⟨g1, g2, g3⟩ := hms y hy
  exact ⟨by rw [n2.le.get y g3]; exact g1, g2, by have := n2.le.next; omega⟩
 refine yTP lw c2 (day_run (wd := w.days) (i19 := D) h hs hsh hr ht hro hts (fun j hj => hA D j (by omega) hj) (by omega) r1 r2 (by omega) hms2 J2
  (Qn := fun z3 => J σ (wkc w.days p l c q m d w.rest w.run w.hours) (.slice r l rc) (.slice t l tc) (fun x => x ∈ z2.next :: ms) (stF w (zL rs) (zL ts) m (D + 1) 0) (zEZ w (zL rs) (zL ts) (D + 1)) z3 ∧ ∀ y ∈ z2.next :: ms, yJ z3.heap y = some .defd ∧ σ.next + 5 ≤ y ∧ y < z3.next)
  (fun z3 g1 g2 g3 g4 => ⟨g1.up g4, fun y hy => ⟨g2 y hy, ?_⟩⟩)) ?_ (by omega)
 ·rcases List.mem_cons.1 hy with e | e
  ·have := n2.le.next; omega
  ·have := hms2 y e; omega
 ·rintro z3 ⟨g1, g2⟩
  refine yGT ⟨k - 1, by omega, D + 1, by omega, by omega, g1, ?_, g2⟩ (by omega)
  exact List.nodup_cons.2 ⟨fun e => by have := (hms2 _ e).2.2; omega, hnd⟩
end
end Go.Proofs.YtgfiniccfpfplaaGreat

namespace Go.Proofs.YtgfiniccfpfplaaGreat
open Go Go.Lay
set_option linter.unusedVariables false
set_option linter.unusedSimpArgs false
set_option maxRecDepth 20000
section
variable {σ τ : St} {w : Wk} {p q : Option Addr} {l m c d n : Nat} {rv tv : Value} {ros tru : Nat → Int} {A : List Bch} {ms : List Nat}
theorem yCD {k : Nat} : (zIJ w ros tru n k).length ≤ k := by
 unfold zIJ
 have := List.length_filterMap_le (fun k => if w.hours < (wS w ros tru k n).used then some (⟨5, k, 0⟩ : Bch) else none) (List.range k)
 simpa using this
theorem long_run (hm6 : m ≤ 6) (hA : A.length ≤ 500) (hms : ∀ y ∈ ms, σ.next + 5 ≤ y ∧ y < τ.next)
  (hJ : J σ (wkc w.days p l c q m d w.rest w.run w.hours) rv tv (fun x => x ∈ ms) (stF w ros tru m n 0) A τ) :
  zSG σ.next (σ.next + 3) (σ.next + 4) m ms 0 τ (fun z => J σ (wkc w.days p l c q m d w.rest w.run w.hours) rv tv (fun x => x ∈ ms) (stF w ros tru m n 0) (A ++ zIJ w ros tru n m) z ∧ Only (fun x => ¬ x ∈ ms) τ z) := by
 refine yGV (Inv := fun k' i z => ∃ k : Nat, i = k ∧ k + k' = m ∧ J σ (wkc w.days p l c q m d w.rest w.run w.hours) rv tv (fun x => x ∈ ms) (stF w ros tru m n 0) (A ++ zIJ w ros tru n k) z ∧ Only (fun x => ¬ x ∈ ms) τ z) ?_ m 0 τ ⟨0, rfl, by omega, by simpa [zIJ] using hJ, Only.refl _ _⟩
 rintro k' i z ⟨k, rfl, hk', hz, O⟩
 by_cases hk : k < m
 rotate_left
 ·have : k = m := by omega
  subst this
  exact yTI ⟨hz, O⟩ (by omega)
 have lu := stL_used hz.nw (i := k) (by omega)
 have lh : zC Tryz.prog z 3 ⟨σ.next, 5, none⟩ = some (iV w.hours) := hz.wk.ld zP rfl
 have ef : (stF w ros tru m n 0 k).used = (wS w ros tru k n).used := by unfold stF; rw [if_pos hk]; rfl
 rw [ef] at lu
 have es := longB_s (w := w) (ros := ros) (tru := tru) (n := n) (k := k)
 have hl := yCD (w := w) (ros := ros) (tru := tru) (n := n) (k := k)
 by_cases hh : w.hours < (wS w ros tru k n).used
 ·rw [if_pos hh] at es
  obtain ⟨po, co, g1, p', c', z2, g2, g3, g4, g5⟩ := hz.push (Le.refl z) hz.new ⟨5, k, 0⟩ (by rw [List.length_append]; omega) (fun e => by have := (hms _ e).1; omega) (fun x hx => by have := (hms x hx).2; have := O.next; omega)
  refine yTK lu lh g1 g2 g3 ⟨k' - 1, by omega, k + 1, by omega, by omega, ?_, O.trans' g5 (fun b _ hb => .inl hb)⟩ (by omega) (by omega) hh (by omega)
  rw [es, ← List.append_assoc]; exact g4
 ·rw [if_neg hh, List.append_nil] at es
  exact yTJ lu lh ⟨k' - 1, by omega, k + 1, by omega, by omega, by rw [es]; exact hz, O⟩ (by omega) (by omega) hh (by omega)
end
end Go.Proofs.YtgfiniccfpfplaaGreat

namespace Go.Proofs.YtgfiniccfpfplaaGreat
open Go Go.Lay
set_option linter.unusedVariables false
set_option linter.unusedSimpArgs false
set_option maxRecDepth 20000
open Go.Sort (swp PermIn SortedIn Below SWO)
theorem ySL (x : Rec) : zLX Tryz.prog 45 3 (zHC x) := .inr ⟨agg45, yEM, _, rfl, rfl⟩
theorem zRY (xs : List Rec) : zBZ (xs.map zHC) = xs.flatMap zDJ := by
 induction xs with
 | nil => rfl
 | cons x xs ih =>
  simp only [zBZ, List.map_cons, List.flatMap_cons] at ih ⊢
  rw [ih]; rfl
def zFG (b : Bch) : Rec := ⟨b.kind, b.drv, b.dut⟩
def unB (x : Rec) : Bch := ⟨x.k.toNat, x.a.toNat, x.b.toNat⟩
theorem zPN (b : Bch) : unB (zFG b) = b := by unfold unB zFG; simp
theorem yWM (A : List Bch) : A.map zHO = (A.map zFG).map zHC := by rw [List.map_map]; rfl
section
theorem dt_of_gr {τ : St} {n0 c : Nat} {p : Option Addr} {out : List Rec} (h : Gr Tryz.prog τ n0 45 3 p out.length c (out.map zHC)) (h0 : out ≠ []) : ∃ b s, p = some ⟨b, 0, s⟩ ∧ n0 ≤ b ∧ Dt τ b s out.toArray := by
 have ha := h.app
 rw [zRY] at ha
 have hl : 0 < out.length := by cases out with | nil => exact absurd rfl h0 | cons _ _ => simp
 obtain ⟨n, hn⟩ : ∃ n, n = out.length := ⟨_, rfl⟩
 obtain ⟨cs, hcs⟩ : ∃ cs, cs = out.flatMap zDJ := ⟨_, rfl⟩
 rw [← hn, ← hcs] at ha
 cases ha with
 | nil => omega
 | more h1 h2 h3 h4 h5 h6 h7 =>
  rename_i b s0 nx sp log
  subst h2
  refine ⟨b, sp, rfl, h3, h4, log, nx, ?_⟩
  rw [h1, hcs]
  unfold zDD
  rw [zRL]
  simp
theorem yOO {τ : St} {b : Nat} {s : Option Nat} {d : Array Rec} (h : Dt τ b s d) : SlV Tryz.prog τ 45 3 (some ⟨b, 0, s⟩) d.size (d.toList.map zHC) := by
 obtain ⟨h1, log, nx, h2⟩ := h
 refine ⟨⟨?_, ?_, h1⟩, by simp, fun v hv => ?_⟩
 ·rw [zRY]; exact zYN d
 ·rw [zRY]
  have hle : Nat.ble (0 + (zDD d).length) (d.size * 3) = true := (zY _ _).2 (by rw [zYN]; omega)
  show yP τ ⟨b, 0, s⟩ (zDD d).length = some (zDD d)
  unfold yP
  simp only [h2, yD, uG, Nat.beq_refl, cond_true, hle, List.drop_zero, List.take_length]
 ·obtain ⟨x, _, rfl⟩ := List.mem_map.1 hv
  exact ySL x
theorem yOD {A : List Bch} {d' : Array Rec} (hp : PermIn 0 (A.map zFG).toArray.size (A.map zFG).toArray d') (hs : SortedIn yNC 0 (A.map zFG).toArray.size d') : ∃ A' : List Bch, d'.toList = A'.map zFG ∧ A'.Perm A ∧ A'.Pairwise fun x y => ¬ y.lt x := by
 have hsz := hp.1
 have hperm : d'.toList.Perm (A.map zFG) := by
  have h3 := hp.2.2
  have e1 : (d'.extract 0 (A.map zFG).toArray.size).toList = d'.toList := by rw [← hsz]; simp
  have e2 : ((A.map zFG).toArray.extract 0 (A.map zFG).toArray.size).toList = A.map zFG := by simp; rw [List.take_of_length_le (by simp)]
  rw [e1, e2] at h3
  exact h3
 have hid : ∀ B : List Bch, (B.map zFG).map unB = B := fun B => by
  rw [List.map_map]
  conv => rhs; rw [← List.map_id B]
  exact List.map_congr_left fun b _ => zPN b
 have e : d'.toList = (d'.toList.map unB).map zFG := by
  rw [List.map_map]
  conv => lhs; rw [← List.map_id d'.toList]
  apply List.map_congr_left
  intro x hx
  obtain ⟨b, _, rfl⟩ := List.mem_map.1 (hperm.mem_iff.1 hx)
  show zFG b = zFG (unB (zFG b))
  rw [zPN]
 refine ⟨d'.toList.map unB, e, ?_, ?_⟩
 ·have := hperm.map unB
  rwa [hid] at this
 ·rw [List.pairwise_map]
  apply List.pairwise_iff_getElem.2
  intro i j hi hj hij
  have hlen : d'.toList.length = d'.size := by simp
  have h1 := hs i j (Nat.zero_le _) hij (by omega)
  rw [getElem!_pos d' j (by omega), getElem!_pos d' i (by omega)] at h1
  have m1 := hperm.mem_iff.1 (List.getElem_mem hi)
  have m2 := hperm.mem_iff.1 (List.getElem_mem hj)
  obtain ⟨x, _, ex⟩ := List.mem_map.1 m1
  obtain ⟨y, _, ey⟩ := List.mem_map.1 m2
  rw [← ex, ← ey, zPN, zPN]
  rw [Array.getElem_toList] at ex ey
  rw [← ex, ← ey] at h1
  intro hlt
  unfold yNC at h1
  have h1 := of_decide_eq_false h1
  apply h1
  unfold Bch.lt at hlt
  unfold bLt zFG
  simp only
  omega
end
end Go.Proofs.YtgfiniccfpfplaaGreat
