import Derived.Test.YtgfiniccfpfplaaRS
import Derived.Test.YtgfiniccfpfplaaLayD
import Derived.Test.YtgfiniccfpfplaaTy
import Derived.Test.YtgfiniccfpfplaaRY
import Derived.Test.YtgfiniccfpfplaaUA
import Derived.Test.YtgfiniccfpfplaaPE
set_option linter.unusedVariables false
set_option linter.unusedSimpArgs false
set_option maxRecDepth 20000
namespace Go.Proofs.Ytgfiniccfpfplaa
open Go Go.Lay
open Try renaming prog → Pg
section
variable {w : Wk} {leaves : Bool} {wf : Nat → List Int → List Int}
end
structure EndR where
 v : List Int
 p : Option Addr
 l : Nat
 c : Nat
 can : Bool
structure PlK where
 σf : St
 Bp : Nat
 bm : Nat
 w : Wk
 p : Option Addr
 l : Nat
 c : Nat
 q : Option Addr
 m : Nat
 d : Nat
 leaves : Bool
 fw : FuncId
 fa : List Value
 fc : List Value
 wf : Nat → List Int → List Int
 n : Nat
abbrev PlK.wfv (K : PlK) : Value := .func (.func K.fw) ⟨K.fa⟩ ⟨K.fc⟩
abbrev PlK.row (K : PlK) : List Value := xJF K.w K.p K.l K.c K.q K.m K.d K.leaves K.wfv K.bm
section
variable {K : PlK} {z z' : St} {F : Key → Option EndR} {X : Nat → Prop}
end
structure GvK where
 K : PlK
 D : Nat
 r : Nat
 st0 : Nat → Std
 pu : Option Addr
 cu : Nat
 Bu : Nat
 Bq : Nat
 Bs : Nat
 Bo : Nat
 Bg : Nat
 By : Nat
 n1 : Nat
abbrev GvK.args (G : GvK) : List Value := [.pointer (some ⟨G.Bu, 0, none⟩), .pointer (some ⟨G.Bq, 0, none⟩), .pointer (some ⟨G.Bs, 0, none⟩), .pointer (some ⟨G.Bo, 0, none⟩), .pointer (some ⟨G.Bg, 0, none⟩), .pointer (some ⟨G.By, 0, none⟩)]
section
variable {G : GvK} {z z' : St} {F : Key → Option EndR} {X : Nat → Prop} {e : EndR}
end
abbrev xKX := Option (List Int × List Int)
section
variable {G : GvK} {z y y' : St} {F F' F2 : Key → Option EndR} {X X' X2 : Nat → Prop} {e e' e2 : EndR} {o o' o2 : xKX} {C C' : xKY}
end
section
variable {G : GvK}
end
section
variable {σ τ : St} {w : Wk} {p q : Option Addr} {l m c d n : Nat} {rv tv : Value} {ros tru : Nat → Int} {A : List Bch} {ms : List Nat}
theorem zXX {k : Nat} : (zDE w ros tru n k).length ≤ k := by
 unfold zDE
 have := List.length_filterMap_le (fun k => if w.j < (xI w ros tru k n).used then some (⟨5, k, 0⟩ : Bch) else none) (List.range k)
 simpa using this
theorem xAI (hm6 : m ≤ 6) (hA : A.length ≤ 500) (hms : ∀ y ∈ ms, σ.y + 5 ≤ y ∧ y < τ.y)
  (hJ : J σ (wkc w.M p l c q m d w.rest w.run w.j) rv tv (fun x => x ∈ ms) (stF w ros tru m n 0) A τ) :
  zOF σ.y (σ.y + 3) (σ.y + 4) m ms 0 τ (fun z => J σ (wkc w.M p l c q m d w.rest w.run w.j) rv tv (fun x => x ∈ ms) (stF w ros tru m n 0) (A ++ zDE w ros tru n m) z ∧ Only (fun x => ¬ x ∈ ms) τ z) := by
 refine yCJ (Inv := fun k' i z => ∃ k : Nat, i = k ∧ k + k' = m ∧ J σ (wkc w.M p l c q m d w.rest w.run w.j) rv tv (fun x => x ∈ ms) (stF w ros tru m n 0) (A ++ zDE w ros tru n k) z ∧ Only (fun x => ¬ x ∈ ms) τ z) ?_ m 0 τ ⟨0, rfl, by omega, by simpa [zDE] using hJ, Only.refl _ _⟩
 rintro k' i z ⟨k, rfl, hk', hz, O⟩
 by_cases hk : k < m
 rotate_left
 ·have : k = m := by omega
  subst this
  exact yNV ⟨hz, O⟩ (by omega)
 have lu := yXP hz.nw (i := k) (by omega)
 have lh : zB Try.prog z 3 ⟨σ.y, 5, none⟩ = some (iV w.j) := hz.wk.ld zK rfl
 have ef : (stF w ros tru m n 0 k).used = (xI w ros tru k n).used := by unfold stF; rw [if_pos hk]; rfl
 rw [ef] at lu
 have es := xEY (w := w) (ros := ros) (tru := tru) (n := n) (k := k)
 have hl := zXX (w := w) (ros := ros) (tru := tru) (n := n) (k := k)
 by_cases hh : w.j < (xI w ros tru k n).used
 ·rw [if_pos hh] at es
  obtain ⟨po, co, g1, p', c', z2, g2, g3, g4, g5⟩ := hz.push (Le.refl z) hz.new ⟨5, k, 0⟩ (by rw [List.length_append]; omega) (fun e => by have := (hms _ e).1; omega) (fun x hx => by have := (hms x hx).2; have := O.y; omega)
  refine yNX lu lh g1 g2 g3 ⟨k' - 1, by omega, k + 1, by omega, by omega, ?_, O.trans' g5 (fun b _ hb => .inl hb)⟩ (by omega) (by omega) hh (by omega)
  rw [es, ← List.append_assoc]; exact g4
 ·rw [if_neg hh, List.append_nil] at es
  exact yNW lu lh ⟨k' - 1, by omega, k + 1, by omega, by omega, by rw [es]; exact hz, O⟩ (by omega) (by omega) hh (by omega)
end
section
open Go.Sort (swp PermIn SortedIn Below SWO)
theorem yND (x : Rec) : zIQ Try.prog 47 3 (zCB x) := .inr ⟨xCU, yAH, _, rfl, rfl⟩
theorem zNW (xs : List Rec) : xS (xs.map zCB) = xs.flatMap uM := by
 induction xs with
 | nil => rfl
 | cons x xs ih =>
  simp only [xS, List.map_cons, List.flatMap_cons] at ih ⊢
  rw [ih]; rfl
def zBD (b : Bch) : Rec := ⟨b.kind, b.drv, b.dut⟩
def unB (x : Rec) : Bch := ⟨x.k.toNat, x.a.toNat, x.b.toNat⟩
theorem zLF (b : Bch) : unB (zBD b) = b := by unfold unB zBD; simp
theorem yRE (A : List Bch) : A.map uK = (A.map zBD).map zCB := by rw [List.map_map]; rfl
section
theorem xBX {τ : St} {n0 c : Nat} {p : Option Addr} {out : List Rec} (h : Gr Try.prog τ n0 47 3 p out.length c (out.map zCB)) (h0 : out ≠ []) : ∃ b s, p = some ⟨b, 0, s⟩ ∧ n0 ≤ b ∧ Dt τ b s out.toArray := by
 have ha := h.app
 rw [zNW] at ha
 have hl : 0 < out.length := by cases out with | nil => exact absurd rfl h0 | cons _ _ => simp
 obtain ⟨n, hn⟩ : ∃ n, n = out.length := ⟨_, rfl⟩
 obtain ⟨cs, hcs⟩ : ∃ cs, cs = out.flatMap uM := ⟨_, rfl⟩
 rw [← hn, ← hcs] at ha
 cases ha with
 | nil => omega
 | more h1 h2 h3 h4 h5 h6 h7 =>
  rename_i b s0 nx sp log
  subst h2
  refine ⟨b, sp, rfl, h3, h4, log, nx, ?_⟩
  rw [h1, hcs]
  unfold uI
  rw [zNA]
  simp
theorem yKB {τ : St} {b : Nat} {s : Option Nat} {d : Array Rec} (h : Dt τ b s d) : SlV Try.prog τ 47 3 (some ⟨b, 0, s⟩) d.size (d.toList.map zCB) := by
 obtain ⟨h1, log, nx, h2⟩ := h
 refine ⟨⟨?_, ?_, h1⟩, by simp, fun v hv => ?_⟩
 ·rw [zNW]; exact zUY d
 ·rw [zNW]
  have hle : Nat.ble (0 + (uI d).length) (d.size * 3) = true := (zN _ _).2 (by rw [zUY]; omega)
  show yH τ ⟨b, 0, s⟩ (uI d).length = some (uI d)
  unfold yH
  simp only [h2, zU, wE, Nat.beq_refl, cond_true, hle, List.drop_zero, List.take_length]
 ·obtain ⟨x, _, rfl⟩ := List.mem_map.1 hv
  exact yND x
theorem yJN {A : List Bch} {d' : Array Rec} (hp : PermIn 0 (A.map zBD).toArray.size (A.map zBD).toArray d') (hs : SortedIn yHU 0 (A.map zBD).toArray.size d') : ∃ A' : List Bch, d'.toList = A'.map zBD ∧ A'.Perm A ∧ A'.Pairwise fun x y => ¬ y.lt x := by
 have hsz := hp.1
 have hperm : d'.toList.Perm (A.map zBD) := by
  have h3 := hp.2.2
  have e1 : (d'.extract 0 (A.map zBD).toArray.size).toList = d'.toList := by rw [← hsz]; simp
  have e2 : ((A.map zBD).toArray.extract 0 (A.map zBD).toArray.size).toList = A.map zBD := by simp; rw [List.take_of_length_le (by simp)]
  rw [e1, e2] at h3
  exact h3
 have hid : ∀ B : List Bch, (B.map zBD).map unB = B := fun B => by
  rw [List.map_map]
  conv => rhs; rw [← List.map_id B]
  exact List.map_congr_left fun b _ => zLF b
 have e : d'.toList = (d'.toList.map unB).map zBD := by
  rw [List.map_map]
  conv => lhs; rw [← List.map_id d'.toList]
  apply List.map_congr_left
  intro x hx
  obtain ⟨b, _, rfl⟩ := List.mem_map.1 (hperm.mem_iff.1 hx)
  show zBD b = zBD (unB (zBD b))
  rw [zLF]
 refine ⟨d'.toList.map unB, e, ?_, ?_⟩
 ·have := hperm.map unB
  rwa [hid] at this
 ·rw [List.pairwise_map]
  apply List.pairwise_iff_getElem.2
  intro i j hi hj hij
  have hlen : d'.toList.length = d'.size := by simp
  have h1 := hs i j (Nat.zero_le _) hij (by omega)
  rw [getElem!_pos d' j (by omega), getElem!_pos d' i (by omega)] at h1
  have m1 := hperm.mem_iff.1 (List.getElem_mem hi)
  have m2 := hperm.mem_iff.1 (List.getElem_mem hj)
  obtain ⟨x, _, ex⟩ := List.mem_map.1 m1
  obtain ⟨y, _, ey⟩ := List.mem_map.1 m2
  rw [← ex, ← ey, zLF, zLF]
  rw [Array.getElem_toList] at ex ey
  rw [← ex, ← ey] at h1
  intro hlt
  unfold yHU at h1
  have h1 := of_decide_eq_false h1
  apply h1
  unfold Bch.lt at hlt
  unfold bLt zBD
  simp only
  omega
end
end
section
variable {σ z : St} {wl : List Value} {rv tv : Value} {f : Nat → Std} {A R : List Bch} {ms : List Nat} {m : Nat}
theorem yXU (hJ : J σ wl rv tv (fun x => x ∈ ms) f A z) (hms : ∀ y ∈ ms, yC z.heap y = some .defd ∧ σ.y + 5 ≤ y ∧ y < z.y) (hnd : ms.Nodup) (hA : A.length ≤ 1000) (hok : ∀ b ∈ A, b.kind ≤ 5 ∧ b.drv ≤ 100 ∧ b.dut ≤ 100)
  (hR : ∀ A', A'.Perm A → (A'.Pairwise fun x y => ¬ y.lt x) → A' = R) :
  zHD σ.y (σ.y + 3) (σ.y + 4) m ms z (fun v s => New σ.re s ∧ ∃ p c, v = .slice p R.length c ∧ SlV Try.prog s 47 3 p R.length (R.map uK) ∧ ∀ b, AtP p b → σ.y ≤ b) := by
 obtain ⟨po, co, o, hg, hf⟩ := hJ.out
 have l1 : zB Try.prog z 36 ⟨σ.y + 3, 0, none⟩ = some (.slice po A.length co) := o.ld (k := 0) rfl yIJ rfl
 by_cases hA0 : A = []
 ·have hR0 : R = [] := (hR [] (by rw [hA0]) List.Pairwise.nil).symm
  subst hA0
  have hpo : po = none ∧ co = 0 := by
   have := hg.app
   cases this with
   | nil => exact ⟨rfl, rfl⟩
   | more _ _ _ _ _ hp _ => exact absurd hp (by simp)
  obtain ⟨rfl, rfl⟩ := hpo
  have st := o.store (k := 0) (t := 36) (P := Try.prog) (v := .slice none 0 0) (vs := [.slice none 0 0]) (ds := [.slice none 0 0]) rfl yJP rfl (by simp) rfl
  obtain ⟨z2, k1, k2, k3, k4⟩ := zSA (ms := ms) (σ := z.own (σ.y + 3) [.slice none 0 0] 1) (fun y hy => by
   have := (hms y hy)
   show yC (St.put _ _ _).heap y = _
   rw [St.put_get, if_neg (by omega)]; exact this.1) hnd
  have o2 : Own z2 (σ.y + 3) [.slice none 0 0] 1 := o.put.at_ (k3 _ (fun e => by have := (hms _ e).2.1; omega)) (by rw [k2]; exact Nat.le_refl _)
  have N : New σ.re z2 := by
   have N1 : New σ.re (z.own (σ.y + 3) [.slice none 0 0] 1) := hJ.new.own (by show σ.y ≤ σ.y + 3; omega)
   refine ⟨⟨by rw [k2]; exact N1.le.y, fun b hb => by rw [k3 b (fun e => by have := (hms _ e).2.1; have hb : b < σ.y := hb; omega)]; exact N1.le.get b hb⟩, fun m h1 h2 => k4 m (N1.low m h1 h2) (fun y hy => by have := (hms y hy).2.1; have h2 : m ≤ σ.y := h2; omega)⟩
  subst hR0
  exact zMM l1 yRZ l1 st k1 (o2.ld (k := 0) rfl yIJ rfl) ⟨N, none, 0, rfl, ⟨.nil _ _, rfl, fun v hv => by cases hv⟩, fun b hb => by obtain ⟨a, e, _⟩ := hb; cases e⟩
 ·have hg2 : Gr Try.prog z (σ.y + 5) 47 3 po (A.map zBD).length co ((A.map zBD).map zCB) := by rw [List.length_map, ← yRE]; exact hg
  obtain ⟨b, s, rfl, hb, dt⟩ := xBX hg2 (by simpa using hA0)
  have esz : (A.map zBD).toArray.size = A.length := by simp
  have hV : yX BOk (A.map zBD).toArray := by
   intro i hi
   have hm : (A.map zBD).toArray[i]! ∈ A.map zBD := by
    rw [getElem!_pos _ i hi]
    exact Array.mem_toList_iff.2 (Array.getElem_mem hi)
   obtain ⟨x, hx, e⟩ := List.mem_map.1 hm
   rw [← e]
   have := hok x hx
   unfold BOk zBD
   simp only
   omega
  obtain ⟨d', p1, p2, z1, c1, O1, dt1, _⟩ := xDW (c := co) xJC xKC dt hV (by rw [esz]; omega)
  rw [esz] at c1
  obtain ⟨A', e1, e2, e3⟩ := yJN p1 p2
  have eR := hR A' e2 e3
  subst eR
  have hlA : A'.length = A.length := e2.length_eq
  have hsz : d'.size = A.length := by rw [← esz]; exact p1.1
  have o1 : Own z1 (σ.y + 3) [.slice (some ⟨b, 0, s⟩) A.length co] 1 := O1.own' o (by omega)
  have l3 : zB Try.prog z1 36 ⟨σ.y + 3, 0, none⟩ = some (.slice (some ⟨b, 0, s⟩) A.length co) := o1.ld (k := 0) rfl yIJ rfl
  have st := o1.store (k := 0) (t := 36) (P := Try.prog) (v := .slice (some ⟨b, 0, s⟩) A.length co) (vs := [.slice (some ⟨b, 0, s⟩) A.length co]) (ds := [.slice (some ⟨b, 0, s⟩) A.length co]) rfl yJP rfl (by simp) rfl
  have hbm : ¬ b ∈ ms := hf b ⟨_, rfl, rfl⟩
  have N1 : New σ.re (z1.own (σ.y + 3) [.slice (some ⟨b, 0, s⟩) A.length co] 1) := (hJ.new.of_only O1 (by rintro x rfl; show σ.y ≤ x; omega)).own (by show σ.y ≤ σ.y + 3; omega)
  obtain ⟨z2, k1, k2, k3, k4⟩ := zSA (ms := ms) (σ := z1.own (σ.y + 3) [.slice (some ⟨b, 0, s⟩) A.length co] 1) (fun y hy => by
   have h3 := hms y hy
   show yC (St.put _ _ _).heap y = _
   rw [St.put_get, if_neg (by omega), O1.get y h3.2.2 (fun e => hbm (by have e : y = b := e; rw [← e]; exact hy))]; exact h3.1) hnd
  have o2 : Own z2 (σ.y + 3) [.slice (some ⟨b, 0, s⟩) A.length co] 1 := o1.put.at_ (k3 _ (fun e => by have := (hms _ e).2.1; omega)) (by rw [k2]; exact Nat.le_refl _)
  have N : New σ.re z2 := ⟨⟨by rw [k2]; exact N1.le.y, fun b hb => by rw [k3 b (fun e => by have := (hms _ e).2.1; have hb : b < σ.y := hb; omega)]; exact N1.le.get b hb⟩, fun m h1 h2 => k4 m (N1.low m h1 h2) (fun y hy => by have := (hms y hy).2.1; have h2 : m ≤ σ.y := h2; omega)⟩
  have O3 : Only (fun x => x = σ.y + 3 ∨ x ∈ ms) z1 z2 := by
   refine (Only.own (S := fun x => x = σ.y + 3 ∨ x ∈ ms) (cs := [.slice (some ⟨b, 0, s⟩) A.length co]) (n := 1) (b := σ.y + 3) (.inr (.inl rfl))).trans' (T := fun x => x ∈ ms) ⟨by rw [k2]; exact Nat.le_refl _, fun b _ hb => k3 b hb, fun m h1 _ h3 => k4 m h1 (fun y hy => h3 y (by have := (hms y hy).2.2; have := O1.y; show y < z1.y; omega) hy)⟩ (fun b _ hb => .inl (.inr hb))
  have sl := O3.slv' (yKB dt1) (fun a e => by cases e; rintro (g | g); have g : b = σ.y + 3 := g; omega; exact hbm g)
  rw [e1, ← yRE, hsz] at sl
  rw [hlA]
  exact zMM l1 c1 l3 st k1 (o2.ld (k := 0) rfl yIJ rfl) ⟨N, some ⟨b, 0, s⟩, co, rfl, sl, fun x hx => by obtain ⟨a, e, rfl⟩ := hx; cases e; show σ.y ≤ b; omega⟩
end
section
variable {σ : St} {w : Wk} {p q r t : Option Addr} {l m c d rc tc : Nat} {rs ts : List Int} {ros tru : Nat → Int}
theorem yVV {D i : Nat} : (zJI w ros tru D i).length ≤ 5 := by
 unfold zJI
 split
 ·simp
 ·have := List.length_filterMap_le (fun q => if holds w q (drv w (ros i).toNat) (dty w i) (xD w ros tru (ros i).toNat D i) = true then none else some (⟨q, (ros i).toNat, i⟩ : Bch)) (List.range 5)
  simpa using this
theorem zUS {D : Nat} : ∀ {j : Nat}, (zBW w ros tru D j).length ≤ 5 * j
 | 0 => by simp [zBW]
 | j + 1 => by
  have ih := zUS (D := D) (j := j)
  rw [yNI, List.length_append]
  have := yVV (w := w) (ros := ros) (tru := tru) (D := D) (i := j)
  split
  ·omega
  ·simp only [List.length_nil]; omega
theorem zTG : ∀ {D : Nat}, (zAU w ros tru D).length ≤ 5 * w.N.length * D
 | 0 => by simp [zAU]
 | D + 1 => by
  have ih := zTG (D := D)
  rw [yZR, List.length_append, Nat.mul_add, Nat.mul_one]
  have := zUS (w := w) (ros := ros) (tru := tru) (D := D) (j := w.N.length)
  omega
theorem xCD {n : Nat} (hn : w.M = (n : Int)) (hn7 : n ≤ 7) (hv : Days w n) (h : WkP σ 69 61 w p l q m) (hs : Sane w l m) (hsh : zFD w) (hr : yP σ r l rs) (ht : yP σ t l ts) (hro : ∀ i, i < l → -1 ≤ zT rs i ∧ zT rs i < (m : Int))
  (hts : ∀ i, i < l → (dty w i).on ≤ zT ts i ∧ zT ts i ≤ (dty w i).on + 1440) :
  ∃ p' c' σ', zD Try.prog 28 [.agg ⟨wkc w.M p l c q m d w.rest w.run w.j⟩, .slice r l rc, .slice t l tc] σ (.slice p' (zAR w (zT rs) (zT ts) m).length c') σ' ∧ New σ σ' ∧ SlV Try.prog σ' 47 3 p' (zAR w (zT rs) (zT ts) m).length ((zAR w (zT rs) (zT ts) m).map uK) ∧ ∀ b, AtP p' b → σ.y ≤ b := by
 have hl := h.len.1
 have hm := h.len.2
 have hm6 := hs.m6
 have hl12 := hs.l12
 have hRos : Ros w (zT rs) := ⟨fun i hi => by have := hro i (by omega); omega⟩
 obtain ⟨s4, hs4⟩ : ∃ s, s = (((σ.re.row (wkc w.M p l c q m d w.rest w.run w.j) 6).row [.slice r l rc] 1).row [.slice t l tc] 1).row [.slice none 0 0] 1 := ⟨_, rfl⟩
 have N4 : New σ.re s4 := by rw [hs4]; exact ((New.row _ _ _).row'.row').row'
 have L4 : Le σ s4 := (le0 σ).trans N4.le
 have x4 : s4.y = σ.y + 4 := by rw [hs4]; rfl
 have cb := yRU (c := c) (d := d) (h.le L4) hm6
 have oz : Own (s4.row zRI 4) (σ.y + 4) (stL fun _ => yXK) 4 := by
  have := zC s4 zRI 4
  rw [x4] at this; exact this
 have st := yPL oz (st0 w m)
 obtain ⟨s5, hs5⟩ : ∃ s, s = (s4.row zRI 4).own (σ.y + 4) (stL (st0 w m)) 4 := ⟨_, rfl⟩
 have N5 : New σ.re s5 := by rw [hs5]; exact N4.row'.own (by show σ.y ≤ σ.y + 4; omega)
 have w1 : Row s5 ⟨σ.y, 0, none⟩ (wkc w.M p l c q m d w.rest w.run w.j) := by
  rw [hs5, hs4]
  exact (xC σ.re (wkc w.M p l c q m d w.rest w.run w.j) 6).row.row.row.row.own (by show σ.y ≠ _; omega)
 have w2 : Row s5 ⟨σ.y + 1, 0, none⟩ [.slice r l rc] := by
  rw [hs5, hs4]
  exact (xC (σ.re.row (wkc w.M p l c q m d w.rest w.run w.j) 6) [.slice r l rc] 1).row.row.row.own (by show σ.y + 1 ≠ _; omega)
 have w3 : Row s5 ⟨σ.y + 2, 0, none⟩ [.slice t l tc] := by
  rw [hs5, hs4]
  exact (xC ((σ.re.row (wkc w.M p l c q m d w.rest w.run w.j) 6).row [.slice r l rc] 1) [.slice t l tc] 1).row.row.own (by show σ.y + 2 ≠ _; omega)
 have w4 : Own s5 (σ.y + 3) [.slice none 0 0] 1 := by
  rw [hs5, hs4]
  exact (zC (((σ.re.row (wkc w.M p l c q m d w.rest w.run w.j) 6).row [.slice r l rc] 1).row [.slice t l tc] 1) [.slice none 0 0] 1).row.own (by show σ.y + 3 ≠ _; omega)
 have w5 : Own s5 (σ.y + 4) (stL (st0 w m)) 4 := by rw [hs5]; exact oz.put
 have J0 : J σ (wkc w.M p l c q m d w.rest w.run w.j) (.slice r l rc) (.slice t l tc) (fun x => x ∈ ([] : List Nat)) (st0 w m) [] s5 := ⟨N5, w1, w2, w3, w5, none, 0, w4, Gr.nil, fun b hb => by obtain ⟨a, e, _⟩ := hb; cases e⟩
 have hA : ∀ D j, D ≤ 6 → j ≤ l → (zAU w (zT rs) (zT ts) D ++ zBW w (zT rs) (zT ts) D j).length ≤ 450 := by
  intro D j hD hj
  rw [List.length_append]
  have h1 := zTG (w := w) (ros := zT rs) (tru := zT ts) (D := D)
  have h2 := zUS (w := w) (ros := zT rs) (tru := zT ts) (D := D) (j := j)
  have h3 : 5 * w.N.length * D ≤ 5 * 12 * 6 := Nat.mul_le_mul (by omega) hD
  omega
 have hO : (zAU w (zT rs) (zT ts) n).length ≤ 420 := by
  have h1 := zTG (w := w) (ros := zT rs) (tru := zT ts) (D := n)
  have h3 : 5 * w.N.length * n ≤ 5 * 12 * 7 := Nat.mul_le_mul (by omega) hn7
  omega
 have l0 : zB Try.prog s5 3 ⟨σ.re.y, 0, none⟩ = some (iV w.M) := w1.ld zK rfl
 have run := xBY hn hn7 h hs hsh hr ht hro hts hA J0
 rw [hs4] at cb
 refine zI.newSl (yVX cb (by rw [← hs4]; exact hs5 ▸ st) l0 run ?_)
 rintro ms z ⟨Jz, hnd, hms⟩
 have lr := xAI (σ := σ) hm6 (by omega) (fun y hy => (hms y hy).2) Jz
 refine yCI (Jz.wk.ld (k := 2) zAY rfl) lr ?_
 rintro z2 ⟨J2, O2⟩
 have hlb := zXX (w := w) (ros := zT rs) (tru := zT ts) (n := n) (k := m)
 refine yXU (σ := σ) J2 (fun y hy => ⟨by rw [O2.get y (hms y hy).2.2 (fun hh => hh hy)]; exact (hms y hy).1, (hms y hy).2.1, by have := (hms y hy).2.2; have := O2.y; omega⟩) hnd (by rw [List.length_append]; omega) ?_ ?_
 ·intro b hb
  have hb : b ∈ yIG w (zT rs) (zT ts) n := by unfold yIG; rw [hm]; exact hb
  obtain ⟨h1, h2, _⟩ := (yIF hv hRos).1 hb
  omega
 ·intro A' h1 h2
  have := yRY hv hRos (l := A') (by unfold yIG; rw [hm]; exact h1) h2
  rw [this, hm]
end
section
variable {σ : St} {w : Wk} {p q r t : Option Addr} {l m c d rl rc tl tc : Nat} {rs ts : List Int}
theorem yXA (h : WkP σ 69 61 w p l q m) (hr : yP σ t tl ts) (hl : tl ≤ 1073741824) : zD Pg 27 [.agg ⟨wkc w.M p l c q m d w.rest w.run w.j⟩, .slice t tl tc] σ (.bool (zDH w ts)) σ := by
 have hn := h.len.1
 have el := hr.len
 obtain ⟨σ1, hσ1⟩ : ∃ σ1, σ1 = σ.re.row (wkc w.M p l c q m d w.rest w.run w.j) 6 := ⟨_, rfl⟩
 have hk0 := xC σ.re (wkc w.M p l c q m d w.rest w.run w.j) 6
 rw [← hσ1] at hk0
 have N1 : New σ.re σ1 := by rw [hσ1]; exact New.row _ _ _
 have L1 : Le σ σ1 := (le0 σ).trans N1.le
 by_cases hh : tl = l
 rotate_left
 ·have : zDH w ts = false := by unfold zDH; rw [decide_eq_false (by omega), Bool.and_false]
  rw [this]
  exact (yRP ⟨rfl, Nat.le_refl _⟩ (by omega)).pure
 have no : ∀ j, j < tl → j < l → inB (ts.getD j 0) (dty w j).lo (dty w j).hi = false → zDH w ts = false := by
  intro j h1 h2 h3
  unfold zDH zRR
  rw [yCS (f := fun i => inB (ts.getD i 0) (dty w i).lo (dty w i).hi) (List.mem_range.2 (by omega)) h3]; rfl
 refine (yRO (yAC (Inv := fun k i τ => New σ1 τ ∧ ∃ j : Nat, i = j ∧ j + k = tl ∧ zRR w ts j = true) (Qr := fun b τ => New σ1 τ ∧ b = false ∧ zDH w ts = false)
  (Q0 := fun τ => New σ1 τ ∧ zDH w ts = true) ?_ tl 0 _ ⟨by rw [← hσ1]; exact New.refl _, 0, rfl, by omega, rfl⟩) ?_ ?_ (by omega)).pure
 ·rintro k i τ ⟨hN, j, rfl, hk, ha⟩
  have LL : Le σ τ := L1.trans hN.le
  by_cases hj : j < tl
  rotate_left
  ·exact yIV ⟨hN, by unfold zDH; rw [show min ts.length w.N.length = j by omega, ha, decide_eq_true (by omega)]; rfl⟩ (by omega)
  have hj2 : j < l := by omega
  obtain ⟨a, rfl, x, hx, lx⟩ := wU (SlV.le hr LL) hj
  obtain ⟨b, rfl, y, hy, ly⟩ := wU (SlV.le h.dty LL) hj2
  have gx : ts.getD j 0 = x := yD hx
  have gy : dty w j = y := by unfold dty; rw [List.getD_eq_getElem?_getD, hy]; rfl
  have lD : zB Pg τ 40 ⟨σ.re.y, 1, none⟩ = some (.slice (some b) l c) := (hk0.le hN.le).ld uB rfl
  have ls : zB Pg τ 67 (zH b ((Int.toNat (j : Int) * 5) + 2)) = some (.agg ⟨[iV y.lo, iV y.hi]⟩) := by
   obtain ⟨_, e, hrow⟩ := (SlV.le h.dty LL).some hj2
   cases e
   rw [Int.toNat_natCast]
   have hv : ((xS (w.N.map vC)).drop (j * 5 + 2)).take 2 = [iV y.lo, iV y.hi] := by
    have key : ∀ (xs : List Dty) (j : Nat), xs[j]? = some y → ((xS (xs.map vC)).drop (j * 5 + 2)).take 2 = [iV y.lo, iV y.hi] := by
     intro xs
     induction xs with
     | nil => intro j h; simp at h
     | cons x xs ih =>
      intro j h
      cases j with
      | zero =>
       have : x = y := by simpa using h
       subst this; rfl
      | succ j =>
       have := ih j (by simpa using h)
       have e : (j + 1) * 5 + 2 = 5 + (j * 5 + 2) := by omega
       rw [e, ← List.drop_drop]
       exact this
    exact key _ _ hy
   have hlen : (xS (w.N.map vC)).length = l * 5 := (SlV.le h.dty LL).1.1
   exact hrow.loadN xKG yJO hv rfl (by rw [hlen]; omega)
  have N2 : New τ ((τ.row [iV 0, iV 0] 2).own τ.y [iV y.lo, iV y.hi] 2) := (New.row _ _ _).own (Nat.le_refl _)
  have cin := zCQ (σ := (τ.row [iV 0, iV 0] 2).own τ.y [iV y.lo, iV y.hi] 2) (n := x) (lo := y.lo) (hi := y.hi)
  cases hb : inB x y.lo y.hi with
  | true =>
   rw [hb] at cin
   exact yIX lx lD ls cin ⟨k - 1, by omega, hN.trans N2, j + 1, by omega, by omega, by
    unfold zRR at ha ⊢
    rw [List.range_succ, List.all_append, ha]; simp only [List.all_cons, List.all_nil, Bool.and_true, Bool.true_and]; rw [gx, gy]; exact hb⟩ (by omega) (by omega) (by omega) (by omega)
  | false => rw [hb] at cin; exact yIW lx lD ls cin ⟨hN.trans N2, rfl, no j hj hj2 (by rw [gx, gy]; exact hb)⟩ (by omega) (by omega) (by omega)
 ·rintro b τ ⟨hN, rfl, e⟩
  exact yAA ⟨by rw [e], (N1.trans hN).lw⟩
 ·rintro τ ⟨hN, e⟩
  exact yAB ⟨by rw [e], (N1.trans hN).lw⟩
theorem xIC {f : FuncId} {args : List Value} {tt n len : Nat} {vs : List Value} {e : Int} (h : zI Pg f args σ.re fun v s => New σ.re s ∧ ∃ p c, v = .tuple ⟨[.slice p len c, iV e]⟩ ∧ SlV Pg s tt n p len vs ∧ ∀ b, AtP p b → σ.y ≤ b) :
  ∃ p c σ', zD Pg f args σ (.tuple ⟨[.slice p len c, iV e]⟩) σ' ∧ New σ σ' ∧ SlV Pg σ' tt n p len vs ∧ ∀ b, AtP p b → σ.y ≤ b := by
 obtain ⟨v, σ', h1, h2, p, c, rfl, h3, h4⟩ := zI.new (Q := fun v s => ∃ p c, v = .tuple ⟨[.slice p len c, iV e]⟩ ∧ SlV Pg s tt n p len vs ∧ ∀ b, AtP p b → σ.y ≤ b) h (by
  rintro v s s' ⟨p, c, rfl, g1, g2⟩ hle; exact ⟨p, c, rfl, g1.le hle, g2⟩) (by
  rintro v s hr ⟨p, c, rfl, g1, g2⟩
  cases p with
  | none => exact ⟨none, c, rfl, zFP g1, fun b hb => (AtP.none hb).elim⟩
  | some a => exact Bool.noConfusion (show false = true from hr))
 exact ⟨p, c, σ', h1, h2, h3, h4⟩
theorem zYC : zLW w rs = true ↔ rs.length = w.N.length ∧ ∀ i, i < rs.length → -1 ≤ zT rs i ∧ zT rs i < (w.L.length : Int) := by
 unfold zLW
 rw [Bool.and_eq_true, decide_eq_true_eq, List.all_eq_true, And.comm]
 refine and_congr_right fun hl => ⟨fun h i hi => ?_, fun h x hx => ?_⟩
 ·have := wV.1 (h rs[i] (List.getElem_mem hi))
  have e : zT rs i = rs[i] := by unfold zT; rw [List.getD_eq_getElem?_getD, List.getElem?_eq_getElem hi]; rfl
  omega
 ·obtain ⟨i, hi, rfl⟩ := List.getElem_of_mem hx
  have := h i hi
  have e : zT rs i = rs[i] := by unfold zT; rw [List.getD_eq_getElem?_getD, List.getElem?_eq_getElem hi]; rfl
  exact wV.2 (by omega)
theorem zYB : zDH w ts = true ↔ ts.length = w.N.length ∧ ∀ i, i < ts.length → (dty w i).lo ≤ zT ts i ∧ zT ts i ≤ (dty w i).hi := by
 unfold zDH zRR
 rw [Bool.and_eq_true, decide_eq_true_eq, List.all_eq_true, And.comm]
 refine and_congr_right fun hl => ⟨fun h i hi => ?_, fun h i hi => ?_⟩
 ·exact wV.1 (h i (List.mem_range.2 (by omega)))
 ·have := List.mem_range.1 hi
  exact wV.2 (h i (by omega))
def zMN (w : Wk) (rs ts : List Int) : Int := if yY w ≠ 0 then yY w else if zLW w rs && zDH w ts then 0 else 2
theorem zVY (h : WkP σ 69 61 w p l q m) (hsh : zFD w) (hr : yP σ r rl rs) (ht : yP σ t tl ts) (hrl : rl ≤ 1073741824) (htl : tl ≤ 1073741824) (hz : zMN w rs ts = 0) :
  ∃ p' c' σ', zD Pg 11 [.agg ⟨wkc w.M p l c q m d w.rest w.run w.j⟩, .slice r rl rc, .slice t tl tc] σ (.tuple ⟨[.slice p' (zAR w (zT rs) (zT ts) m).length c', iV 0]⟩) σ' ∧ New σ σ' ∧ SlV Pg σ' 47 3 p' (zAR w (zT rs) (zT ts) m).length ((zAR w (zT rs) (zT ts) m).map uK) ∧ ∀ b, AtP p' b → σ.y ≤ b := by
 have hln := h.len.1
 have hm := h.len.2
 have hf : yY w = 0 := by
  by_cases e : yY w = 0
  ·exact e
  ·unfold zMN at hz; rw [if_pos e] at hz; exact hz
 have e : (zLW w rs && zDH w ts) = true := by
  unfold zMN at hz
  rw [if_neg (by omega)] at hz
  split at hz
  ·assumption
  ·cases hz
 rw [Bool.and_eq_true] at e
 obtain ⟨b2, b3⟩ := e
 obtain ⟨r1, r2⟩ := zYC.1 b2
 obtain ⟨t1, t2⟩ := zYB.1 b3
 have el := hr.len
 have et := ht.len
 have hrll : rl = l := by omega
 have htll : tl = l := by omega
 subst hrll htll
 obtain ⟨n, hn, hn1, hn7, hv⟩ := xFK hf
 have hs := Sane.of hf hsh hln hm
 obtain ⟨σ1, hσ1⟩ : ∃ σ1, σ1 = σ.re.row (wkc w.M p tl c q m d w.rest w.run w.j) 6 := ⟨_, rfl⟩
 have N1 : New σ.re σ1 := by rw [hσ1]; exact New.row _ _ _
 have L1 : Le σ σ1 := (le0 σ).trans N1.le
 have hm6 := hs.m6
 have k1 := yIU (c := c) (d := d) (h.le L1) hsh
 have k2 := yRQ (c := c) (d := d) (rc := rc) (h.le L1) (SlV.le hr L1) hrl (by omega)
 have k3 := yXA (c := c) (d := d) (tc := tc) (h.le L1) (SlV.le ht L1) htl
 obtain ⟨p4, c4, σ4, k4, n4, s4, f4⟩ := xCD (c := c) (d := d) (rc := rc) (tc := tc) hn hn7 hv.toDays (h.le L1) hs hsh (SlV.le hr L1) (SlV.le ht L1) (fun i hi => by have := r2 i (by omega); omega) (fun i hi => by
  have := t2 i (by omega)
  have := hs.duty i hi
  omega)
 rw [b2] at k2
 rw [b3] at k3
 rw [hσ1] at k1 k2 k3 k4
 exact xIC (yWZ k1 k2 k3 k4 ⟨N1.trans n4, p4, c4, rfl, s4, fun b hb => by have := f4 b hb; have := N1.nx; show σ.re.y ≤ b; omega⟩ hf)
end
section
variable {BA lG cG lI cI lJ cJ lN cM ac ad aa ab lS cS lZ cAB BC BB lQ cP lQB cMB lL cL lA cD lE cE lF cF lP cO lAB cV lU cR lBB cW lT cQ lCB cX lEB cBB lRB cNB lSB cOB lTB cPB lUB cQB aU aY bV bW lFB cCB lGB cDB:Nat} {Inv:Nat→Int→St→Prop} {Qr Pr:Bool→St→Prop} {Q0 P0 Q2 P2:St→Prop} {bg nD nF nK ak ar au am cx nE nA nB eb nG nH nJ nSB nTB nUB nWB nXB nYB nZB nBv nBw nBx nBy n2 bK:Int} {bM dK words_a:Addr} {qF qG qK qD ah ag qP qX qM qKB qA qB qC qL qT qO qU qN qV qY qI qLB qMB qNB qOB bu bU qZ qAB:Option Addr} {σ σC σXB σD σE σB σW σYB σH σI σZB σO σT σF:St} {Nx:Int→St→Prop} {Q:Value→St→Prop} {t2_1:Bool}
noncomputable def yRM:Code:=(Code.part [1,0,1,0,0] (zO Pg 24))
def zMQ (BA:Nat) (bg:Int):List (Nat × Value):=[(1,.pointer (some ⟨BA,0,none⟩)),(3,iV bg)]
def xDJ (BA:Nat) (Q:Int→St→Prop):Alt:=⟨Int,.normal,fun t=>zMQ BA t,fun t=>[],fun t σ=>Q t σ⟩
def zZT (BA:Nat) (t2_1:Bool):List (Nat × Value):=[(2,.bool t2_1)]
def zOO (BA:Nat) (Q:Bool→St→Prop):Alt:=⟨Bool,.ret,fun t=>zZT BA t,fun t=>[],fun t σ=>Q t σ⟩
def zZU (BA:Nat):List (Nat × Value):=[(1,.pointer (some ⟨BA,0,none⟩))]
def zOP (BA:Nat) (Q:St→Prop):Alt:=⟨Unit,(.exit 0),fun t=>zZU BA,fun t=>[],fun t σ=>Q σ⟩
def zEW (BA:Nat) (bg:Int) (σ:St) (Nx:Int→St→Prop) (Qr:Bool→St→Prop) (Q0:St→Prop):Prop:=yJ Pg (zS Pg) none yRM 47 (zMQ BA bg) [] [xDJ BA Nx,zOO BA Qr,zOP BA Q0] σ
def yRN (BA:Nat) (bg:Int) (σ:St) (Qr:Bool→St→Prop) (Q0:St→Prop):Prop:=yR Pg (zS Pg) none yRM 47 (zMQ BA bg) [] [zOO BA Qr,zOP BA Q0] σ
theorem yPB (hb:∀ k bg σ,Inv k bg σ→zEW BA bg σ (NX1 Inv k) Qr Q0):∀ k bg σ,Inv k bg σ→yRN BA bg σ Qr Q0 :=
 yV (ai zAQ (ai (wA 0) trivial)) hb
theorem xDI (h1:zB Pg σ 23 ⟨BA,2,none⟩=some (.slice (some bM) lG cG)) (h2:zB Pg σ 70 (zH bM (Int.toNat bg*6))=some (.agg ⟨zG qF lI cI qG lJ cJ qK lN cM nD nF nK⟩)) (nx:Qr false ((σ.row (zG none 0 0 none 0 0 none 0 0 0 0 0) 6).own σ.y (zG qF lI cI qG lJ cJ qK lN cM nD nF nK) 6)) (u1:bg<((lG:Nat):Int):=by omega) (u2:bg<10:=by omega) (u3:Ix bg lG:=by omega) (u4:20<((lI:Nat):Int):=by omega):zEW BA bg σ Nx Qr Q0 :=
 let s1:=σ.row (zG none 0 0 none 0 0 none 0 0 0 0 0) 6;let s2:=s1.own σ.y (zG qF lI cI qG lJ cJ qK lN cM nD nF nK) 6;kO 1 false [.g,.g,.l (.slice (some bM) lG cG),.g,.b true,.g,.g,.b true,.g,.g,.l (.slice (some bM) lG cG),.g,.i,.l (.agg ⟨zG qF lI cI qG lJ cJ qK lN cM nD nF nK⟩),.g,.e undef s2,.g,.l (.slice qF lI cI),.g,.b true,.g,.g,.g,.g,.g] (fun _ f=>(an3 h1 (zJ u1) (zJ u2) (an6 h1 u3 h2 ((zC _ _ _).store (vs:=(zG qF lI cI qG lJ cJ qK lN cM nD nF nK)) rfl vS rfl (nle rfl) rfl:zL Pg (evL [.pointer (some ⟨σ.y,0,none⟩),.agg ⟨zG qF lI cI qG lJ cJ qK lN cM nD nF nK⟩]) s1 (.store 70 (.tmp 0) (.tmp 1))=some (undef,s2)) ((zC _ _ _).put.rw.ld yT (k:=0) rfl:zB Pg s2 29 ⟨σ.y,0,none⟩=some (.slice qF lI cI)) (zJ u4) f))) nx
theorem xDH (h1:zB Pg σ 23 ⟨BA,2,none⟩=some (.slice (some bM) lG cG)) (h2:zB Pg σ 70 (zH bM (Int.toNat bg*6))=some (.agg ⟨zG qF lI cI qG lJ cJ qK lN cM nD nF nK⟩)) (nx:Qr false ((σ.row (zG none 0 0 none 0 0 none 0 0 0 0 0) 6).own σ.y (zG qF lI cI qG lJ cJ qK lN cM nD nF nK) 6)) (u1:bg<((lG:Nat):Int):=by omega) (u2:bg<10:=by omega) (u3:Ix bg lG:=by omega) (u4:¬ 20<((lI:Nat):Int):=by omega) (u5:20<((lJ:Nat):Int):=by omega):zEW BA bg σ Nx Qr Q0 :=
 let s1:=σ.row (zG none 0 0 none 0 0 none 0 0 0 0 0) 6;let s2:=s1.own σ.y (zG qF lI cI qG lJ cJ qK lN cM nD nF nK) 6;kO 1 false [.g,.g,.l (.slice (some bM) lG cG),.g,.b true,.g,.g,.b true,.g,.g,.l (.slice (some bM) lG cG),.g,.i,.l (.agg ⟨zG qF lI cI qG lJ cJ qK lN cM nD nF nK⟩),.g,.e undef s2,.g,.l (.slice qF lI cI),.g,.b false,.g,.g,.l (.slice qG lJ cJ),.g,.b true,.g,.g,.g,.g] (fun _ f=>(an5 h1 (zJ u1) (zJ u2) h1 u3 (an6 h2 ((zC _ _ _).store (vs:=(zG qF lI cI qG lJ cJ qK lN cM nD nF nK)) rfl vS rfl (nle rfl) rfl:zL Pg (evL [.pointer (some ⟨σ.y,0,none⟩),.agg ⟨zG qF lI cI qG lJ cJ qK lN cM nD nF nK⟩]) s1 (.store 70 (.tmp 0) (.tmp 1))=some (undef,s2)) ((zC _ _ _).put.rw.ld yT (k:=0) rfl:zB Pg s2 29 ⟨σ.y,0,none⟩=some (.slice qF lI cI)) (zM u4) ((zC _ _ _).put.rw.ld yT (k:=1) rfl:zB Pg s2 29 ⟨σ.y,1,none⟩=some (.slice qG lJ cJ)) (zJ u5) f))) nx
theorem xDG (h1:zB Pg σ 23 ⟨BA,2,none⟩=some (.slice (some bM) lG cG)) (h2:zB Pg σ 70 (zH bM (Int.toNat bg*6))=some (.agg ⟨zG qF lI cI qG lJ cJ qK lN cM nD nF nK⟩)) (nx:Qr false ((σ.row (zG none 0 0 none 0 0 none 0 0 0 0 0) 6).own σ.y (zG qF lI cI qG lJ cJ qK lN cM nD nF nK) 6)) (u1:bg<((lG:Nat):Int):=by omega) (u2:bg<10:=by omega) (u3:Ix bg lG:=by omega) (u4:¬ 20<((lI:Nat):Int):=by omega) (u5:¬ 20<((lJ:Nat):Int):=by omega) (u6:20<((lN:Nat):Int):=by omega):zEW BA bg σ Nx Qr Q0 :=
 let s1:=σ.row (zG none 0 0 none 0 0 none 0 0 0 0 0) 6;let s2:=s1.own σ.y (zG qF lI cI qG lJ cJ qK lN cM nD nF nK) 6;kO 1 false [.g,.g,.l (.slice (some bM) lG cG),.g,.b true,.g,.g,.b true,.g,.g,.l (.slice (some bM) lG cG),.g,.i,.l (.agg ⟨zG qF lI cI qG lJ cJ qK lN cM nD nF nK⟩),.g,.e undef s2,.g,.l (.slice qF lI cI),.g,.b false,.g,.g,.l (.slice qG lJ cJ),.g,.b false,.g,.g,.g,.l (.slice qK lN cM),.g,.b true,.g,.g] (fun _ f=>(ai h1 (an6 (zJ u1) (zJ u2) h1 u3 h2 ((zC _ _ _).store (vs:=(zG qF lI cI qG lJ cJ qK lN cM nD nF nK)) rfl vS rfl (nle rfl) rfl:zL Pg (evL [.pointer (some ⟨σ.y,0,none⟩),.agg ⟨zG qF lI cI qG lJ cJ qK lN cM nD nF nK⟩]) s1 (.store 70 (.tmp 0) (.tmp 1))=some (undef,s2)) (an6 ((zC _ _ _).put.rw.ld yT (k:=0) rfl:zB Pg s2 29 ⟨σ.y,0,none⟩=some (.slice qF lI cI)) (zM u4) ((zC _ _ _).put.rw.ld yT (k:=1) rfl:zB Pg s2 29 ⟨σ.y,1,none⟩=some (.slice qG lJ cJ)) (zM u5) ((zC _ _ _).put.rw.ld yT (k:=2) rfl:zB Pg s2 29 ⟨σ.y,2,none⟩=some (.slice qK lN cM)) (zJ u6) f)))) nx
theorem xDF (h1:zB Pg σ 23 ⟨BA,2,none⟩=some (.slice (some bM) lG cG)) (h2:zB Pg σ 70 (zH bM (Int.toNat bg*6))=some (.agg ⟨zG qF lI cI qG lJ cJ qK lN cM nD nF nK⟩)) (nx:Nx (bg+1) ((σ.row (zG none 0 0 none 0 0 none 0 0 0 0 0) 6).own σ.y (zG qF lI cI qG lJ cJ qK lN cM nD nF nK) 6)) (u1:bg<((lG:Nat):Int):=by omega) (u2:bg<10:=by omega) (u3:Ix bg lG:=by omega) (u4:¬ 20<((lI:Nat):Int):=by omega) (u5:¬ 20<((lJ:Nat):Int):=by omega) (u6:¬ 20<((lN:Nat):Int):=by omega) (u7:I6 (bg+1):=by omega):zEW BA bg σ Nx Qr Q0 :=
 let s1:=σ.row (zG none 0 0 none 0 0 none 0 0 0 0 0) 6;let s2:=s1.own σ.y (zG qF lI cI qG lJ cJ qK lN cM nD nF nK) 6;kO 0 (bg+1) [.g,.g,.l (.slice (some bM) lG cG),.g,.b true,.g,.g,.b true,.g,.g,.l (.slice (some bM) lG cG),.g,.i,.l (.agg ⟨zG qF lI cI qG lJ cJ qK lN cM nD nF nK⟩),.g,.e undef s2,.g,.l (.slice qF lI cI),.g,.b false,.g,.g,.l (.slice qG lJ cJ),.g,.b false,.g,.g,.g,.l (.slice qK lN cM),.g,.b false,.g,.g,.n (bg+1),.g] (fun _ f=>(an2 h1 (zJ u1) (an6 (zJ u2) h1 u3 h2 ((zC _ _ _).store (vs:=(zG qF lI cI qG lJ cJ qK lN cM nD nF nK)) rfl vS rfl (nle rfl) rfl:zL Pg (evL [.pointer (some ⟨σ.y,0,none⟩),.agg ⟨zG qF lI cI qG lJ cJ qK lN cM nD nF nK⟩]) s1 (.store 70 (.tmp 0) (.tmp 1))=some (undef,s2)) ((zC _ _ _).put.rw.ld yT (k:=0) rfl:zB Pg s2 29 ⟨σ.y,0,none⟩=some (.slice qF lI cI)) (an6 (zM u4) ((zC _ _ _).put.rw.ld yT (k:=1) rfl:zB Pg s2 29 ⟨σ.y,1,none⟩=some (.slice qG lJ cJ)) (zM u5) ((zC _ _ _).put.rw.ld yT (k:=2) rfl:zB Pg s2 29 ⟨σ.y,2,none⟩=some (.slice qK lN cM)) (zM u6) (w64 u7) f)))) nx
theorem xDE (h1:zB Pg σ 23 ⟨BA,2,none⟩=some (.slice qD lG cG)) (nx:Q0 σ) (u1:bg<((lG:Nat):Int):=by omega) (u2:¬ bg<10:=by omega):zEW BA bg σ Nx Qr Q0 :=
 kO 2 () [.g,.g,.l (.slice qD lG cG),.g,.b true,.g,.g,.b false,.g] (fun _ f=>(an3 h1 (zJ u1) (zM u2) f)) nx
theorem xDD (h1:zB Pg σ 23 ⟨BA,2,none⟩=some (.slice qD lG cG)) (nx:Q0 σ) (u1:¬ bg<((lG:Nat):Int):=by omega):zEW BA bg σ Nx Qr Q0 :=
 kO 2 () [.g,.g,.l (.slice qD lG cG),.g,.b false,.g,.g] (fun _ f=>(an2 h1 (zM u1) f)) nx
def zZV (BA:Nat) (t2_1:Bool) (σ:St) (Q:Value→St→Prop):Prop:=∀ g:Nat→Value,∃ an,Hid (kAt Pg (zS Pg) none (zO Pg 24) [1,0,1,0] (kFn Pg 24 Q) .ret ⟨Fm 47 (ov (zZT BA t2_1) g),[]⟩ σ an)
def zIN (BA:Nat) (σ:St) (Q:Value→St→Prop):Prop:=∀ g:Nat→Value,∃ an,Hid (kAt Pg (zS Pg) none (zO Pg 24) [1,0,1,0] (kFn Pg 24 Q) (.exit 0) ⟨Fm 47 (ov (zZU BA) g),[]⟩ σ an)
theorem xGK (hL:yRN σ.y 0 (σ.row (wkc ak ah ac ad ag aa ab ar au am) 6) Pr P0) (kr:∀ t2_1' σ',Pr t2_1' σ'→zZV σ.y t2_1' σ' Q) (k0:∀ σ',P0 σ'→zIN σ.y σ' Q):zI Pg 24 [.agg ⟨wkc ak ah ac ad ag aa ab ar au am⟩] σ Q :=
 zF [.g,.g,.g,.lf 47 (zMQ σ.y 0) [zOO σ.y Pr,zOP σ.y P0]] (kd (ai (ai tt (ai (arf (zMQ σ.y 0)) hL)) (ai (kz1 kr) (ai (kz0 k0) trivial))))
theorem yOX (nx:Q (.bool t2_1) σ):zZV BA t2_1 σ Q :=
 sK [] nx
theorem yPA (h1:zB Pg σ 22 ⟨BA,1,none⟩=some (.slice qP lS cS)) (h2:zB Pg σ 23 ⟨BA,2,none⟩=some (.slice qX lZ cAB)) (nx:Q (.bool true) σ) (u1:((lS:Nat):Int)≤15:=by omega) (u2:((lZ:Nat):Int)≤9:=by omega):zIN BA σ Q :=
 sK [.g,.l (.slice qP lS cS),.g,.b true,.g,.g,.l (.slice qX lZ cAB),.g,.b true,.g,.g] (an4 h1 (zX u1) h2 (zX u2) nx)
theorem yOZ (h1:zB Pg σ 22 ⟨BA,1,none⟩=some (.slice qP lS cS)) (h2:zB Pg σ 23 ⟨BA,2,none⟩=some (.slice qX lZ cAB)) (nx:Q (.bool false) σ) (u1:((lS:Nat):Int)≤15:=by omega) (u2:¬ ((lZ:Nat):Int)≤9:=by omega):zIN BA σ Q :=
 sK [.g,.l (.slice qP lS cS),.g,.b true,.g,.g,.l (.slice qX lZ cAB),.g,.b false,.g,.g] (an4 h1 (zX u1) h2 (yB u2) nx)
theorem yOY (h1:zB Pg σ 22 ⟨BA,1,none⟩=some (.slice qP lS cS)) (nx:Q (.bool false) σ) (u1:¬ ((lS:Nat):Int)≤15:=by omega):zIN BA σ Q :=
 sK [.g,.l (.slice qP lS cS),.g,.b false,.g,.g,.g] (an2 h1 (yB u1) nx)
noncomputable def yRJ:Code:=(Code.part [1,1,0,1,0,0] (zO Pg 12))
def zRF (BA BC BB:Nat) (cx:Int):List (Nat × Value):=[(1,.pointer (some ⟨BA,0,none⟩)),(2,.pointer (some ⟨BC,0,none⟩)),(3,.pointer (some ⟨BB,0,none⟩)),(4,iV cx)]
def xDB (BA BC BB:Nat) (Q:Int→St→Prop):Alt:=⟨Int,.normal,fun t=>zRF BA BC BB t,fun t=>[],fun t σ=>Q t σ⟩
def zZQ (BA BC BB:Nat):List (Nat × Value):=[(1,.pointer (some ⟨BA,0,none⟩)),(2,.pointer (some ⟨BC,0,none⟩)),(3,.pointer (some ⟨BB,0,none⟩))]
def zON (BA BC BB:Nat) (Q:St→Prop):Alt:=⟨Unit,(.exit 0),fun t=>zZQ BA BC BB,fun t=>[],fun t σ=>Q σ⟩
def yCU (BA BC BB:Nat) (cx:Int) (σ:St) (Nx:Int→St→Prop) (Q0:St→Prop):Prop:=yJ Pg (zS Pg) none yRJ 82 (zRF BA BC BB cx) [] [xDB BA BC BB Nx,zON BA BC BB Q0] σ
def yRL (BA BC BB:Nat) (cx:Int) (σ:St) (Q0:St→Prop):Prop:=yR Pg (zS Pg) none yRJ 82 (zRF BA BC BB cx) [] [zON BA BC BB Q0] σ
theorem yOV (hb:∀ k cx σ,Inv k cx σ→yCU BA BC BB cx σ (NX1 Inv k) Q0):∀ k cx σ,Inv k cx σ→yRL BA BC BB cx σ Q0 :=
 yV (ai (wA 0) trivial) hb
theorem xCY (h1:zB Pg σ 22 ⟨BA,1,none⟩=some (.slice (some bM) lG cG)) (h2:zB Pg σ 35 (zH bM (Int.toNat cx*5))=some (.agg ⟨zE nE nA nB nD nF⟩)) (h3:zB Pg ((σ.row (zE 0 0 0 0 0) 5).own σ.y (zE nE nA nB nD nF) 5) 40 ⟨BB,1,none⟩=some (.slice qM lQ cP)) (h4:zZ Pg 40 40 (.slice qM lQ cP) (.slice (some ⟨(σ.y+1),0,none⟩) 1 1) (((σ.row (zE 0 0 0 0 0) 5).own σ.y (zE nE nA nB nD nF) 5).row (zE nE nA nB nD nF) 5)=some (.slice qKB lQB cMB,σC)) (h5:zL Pg (evL [.pointer (some ⟨BB,1,none⟩),.slice qKB lQB cMB]) σC (.store 40 (.tmp 0) (.tmp 1))=some (undef,σXB)) (nx:Nx (cx+1) σXB) (u1:cx<((lG:Nat):Int):=by omega) (u2:Ix cx lG:=by omega) (u3:I6 (cx+1):=by omega):yCU BA BC BB cx σ Nx Q0 :=
 let s1:=σ.row (zE 0 0 0 0 0) 5;let s2:=s1.own σ.y (zE nE nA nB nD nF) 5;kO 0 (cx+1) [.g,.g,.l (.slice (some bM) lG cG),.g,.b true,.g,.l (.slice (some bM) lG cG),.g,.i,.l (.agg ⟨zE nE nA nB nD nF⟩),.g,.e undef s2,.g,.l (.slice qM lQ cP),.g,.l (iV nE),.g,.l (iV nA),.g,.g,.l (iV nB),.g,.g,.l (iV nD),.g,.g,.l (iV nF),.g,.g,.e (.slice qKB lQB cMB) σC,.g,.e undef σXB,.g,.n (cx+1),.g] (fun _ f=>(an3 h1 (zJ u1) h1 (an6 u2 h2 ((zC _ _ _).store (vs:=(zE nE nA nB nD nF)) rfl zFQ rfl (nle rfl) rfl:zL Pg (evL [.pointer (some ⟨σ.y,0,none⟩),.agg ⟨zE nE nA nB nD nF⟩]) s1 (.store 35 (.tmp 0) (.tmp 1))=some (undef,s2)) h3 ((zC _ _ _).put.rw.ld zK (k:=0) rfl:zB Pg s2 3 ⟨σ.y,0,none⟩=some (iV nE)) ((zC _ _ _).put.rw.ld zK (k:=1) rfl:zB Pg s2 3 ⟨σ.y,1,none⟩=some (iV nA)) (an6 ((zC _ _ _).put.rw.ld zK (k:=2) rfl:zB Pg s2 3 ⟨σ.y,2,none⟩=some (iV nB)) ((zC _ _ _).put.rw.ld zK (k:=3) rfl:zB Pg s2 3 ⟨σ.y,3,none⟩=some (iV nD)) ((zC _ _ _).put.rw.ld zK (k:=4) rfl:zB Pg s2 3 ⟨σ.y,4,none⟩=some (iV nF)) h4 h5 (w64 u3) f)))) nx
theorem xCX (h1:zB Pg σ 22 ⟨BA,1,none⟩=some (.slice qD lG cG)) (nx:Q0 σ) (u1:¬ cx<((lG:Nat):Int):=by omega):yCU BA BC BB cx σ Nx Q0 :=
 kO 1 () [.g,.g,.l (.slice qD lG cG),.g,.b false] (fun _ f=>(an2 h1 (zM u1) f)) nx
def zZS (BA BC BB:Nat) (σ:St) (Q:Value→St→Prop):Prop:=∀ g:Nat→Value,∃ an,Hid (kAt Pg (zS Pg) none (zO Pg 12) [1,1,0,1,0] (kFn Pg 12 Q) (.exit 0) ⟨Fm 82 (ov (zZQ BA BC BB) g),[]⟩ σ an)
theorem xGI (hL:yRL σ.y (σ.y+1) (σ.y+2) 0 ((((σ.row (wkc ak ah ac ad ag aa ab ar au am) 6).row (wkc 0 none 0 0 none 0 0 0 0 0) 6).row (wkc 0 none 0 0 none 0 0 0 0 0) 6).own (σ.y+2) (wkc ak none 0 0 none 0 0 ar au am) 6) P0) (k0:∀ σ',P0 σ'→zZS σ.y (σ.y+1) (σ.y+2) σ' Q):zI Pg 12 [.agg ⟨wkc ak ah ac ad ag aa ab ar au am⟩] σ Q :=
 let s1:=σ.row (wkc ak ah ac ad ag aa ab ar au am) 6;let s2:=s1.row (wkc 0 none 0 0 none 0 0 0 0 0) 6;let s3:=s2.row (wkc 0 none 0 0 none 0 0 0 0 0) 6;let s4:=s3.own (σ.y+2) (wkc ak none 0 0 none 0 0 ar au am) 6;let s5:=zRF σ.y (σ.y+1) (σ.y+2) 0;zF [.g,.g,.g,.l (iV ak),.g,.l (iV ar),.g,.l (iV au),.g,.l (iV am),.g,.g,.e undef s4,.g,.lf 82 s5 [zON σ.y (σ.y+1) (σ.y+2) P0]] (kd (an5 ((zC _ _ _).row.rw.ld zK (k:=0) rfl:zB Pg s2 3 ⟨σ.y,0,none⟩=some (iV ak)) ((zC _ _ _).row.rw.ld zK (k:=3) rfl:zB Pg s2 3 ⟨σ.y,3,none⟩=some (iV ar)) ((zC _ _ _).row.rw.ld zK (k:=4) rfl:zB Pg s2 3 ⟨σ.y,4,none⟩=some (iV au)) ((zC _ _ _).row.rw.ld zK (k:=5) rfl:zB Pg s2 3 ⟨σ.y,5,none⟩=some (iV am)) ((zC _ _ _).store (vs:=(wkc ak none 0 0 none 0 0 ar au am)) rfl vO rfl (nle rfl) rfl:zL Pg (evL [.pointer (some ⟨(σ.y+2),0,none⟩),.agg ⟨wkc ak none 0 0 none 0 0 ar au am⟩]) s3 (.store 43 (.tmp 0) (.tmp 1))=some (undef,s4)) (ai (ai tt (ai (arf s5) hL)) (ai (kz0 k0) trivial))))
noncomputable def yRI:Code:=(Code.part [1,1,1,0,1,0,0] (zO Pg 12))
def zMO (BA BC BB:Nat) (eb:Int):List (Nat × Value):=[(1,.pointer (some ⟨BA,0,none⟩)),(2,.pointer (some ⟨BC,0,none⟩)),(3,.pointer (some ⟨BB,0,none⟩)),(6,iV eb)]
def xDA (BA BC BB:Nat) (Q:Int→St→Prop):Alt:=⟨Int,.normal,fun t=>zMO BA BC BB t,fun t=>[],fun t σ=>Q t σ⟩
def zZP (BA BC BB:Nat):List (Nat × Value):=[(2,.pointer (some ⟨BC,0,none⟩)),(3,.pointer (some ⟨BB,0,none⟩))]
def zOM (BA BC BB:Nat) (Q:St→Prop):Alt:=⟨Unit,(.exit 2),fun t=>zZP BA BC BB,fun t=>[],fun t σ=>Q σ⟩
def zRG (BA BC BB:Nat) (eb:Int) (σ:St) (Nx:Int→St→Prop) (Q2:St→Prop):Prop:=yJ Pg (zS Pg) none yRI 82 (zMO BA BC BB eb) [] [xDA BA BC BB Nx,zOM BA BC BB Q2] σ
def yRK (BA BC BB:Nat) (eb:Int) (σ:St) (Q2:St→Prop):Prop:=yR Pg (zS Pg) none yRI 82 (zMO BA BC BB eb) [] [zOM BA BC BB Q2] σ
theorem yOU (hb:∀ k eb σ,Inv k eb σ→zRG BA BC BB eb σ (NX1 Inv k) Q2):∀ k eb σ,Inv k eb σ→yRK BA BC BB eb σ Q2 :=
 yV (ai (wA 2) trivial) hb
theorem xCW (h1:zB Pg σ 23 ⟨BA,2,none⟩=some (.slice (some dK) lL cL)) (h2:zB Pg σ 70 (zH dK (Int.toNat eb*6))=some (.agg ⟨zG qA lA cD qB lE cE qC lF cF nG nH nJ⟩)) (h3:zB Pg ((σ.row (zG none 0 0 none 0 0 none 0 0 0 0 0) 6).own σ.y (zG qA lA cD qB lE cE qC lF cF nG nH nJ) 6) 41 ⟨BB,2,none⟩=some (.slice qL lP cO)) (h4:zD Pg 10 [.slice qA lA cD] ((σ.row (zG none 0 0 none 0 0 none 0 0 0 0 0) 6).own σ.y (zG qA lA cD qB lE cE qC lF cF nG nH nJ) 6) (.slice qT lAB cV) σD) (h5:zB Pg σD 29 ⟨σ.y,1,none⟩=some (.slice qO lU cR)) (h6:zD Pg 10 [.slice qO lU cR] σD (.slice qU lBB cW) σE) (h7:zB Pg σE 29 ⟨σ.y,2,none⟩=some (.slice qN lT cQ)) (h8:zD Pg 10 [.slice qN lT cQ] σE (.slice qV lCB cX) σB) (h9:zB Pg σB 3 ⟨σ.y,3,none⟩=some (iV nSB)) (h10:zB Pg σB 3 ⟨σ.y,4,none⟩=some (iV nTB)) (h11:zB Pg σB 3 ⟨σ.y,5,none⟩=some (iV nUB)) (h12:zZ Pg 41 41 (.slice qL lP cO) (.slice (some ⟨σB.y,0,none⟩) 1 1) (σB.row (zG qT lAB cV qU lBB cW qV lCB cX nSB nTB nUB) 6)=some (.slice qY lEB cBB,σW)) (h13:zL Pg (evL [.pointer (some ⟨BB,2,none⟩),.slice qY lEB cBB]) σW (.store 41 (.tmp 0) (.tmp 1))=some (undef,σYB)) (h14:yA σD.y [.pointer (some ⟨σ.y,1,none⟩)]) (h15:yA σD.y [.slice qO lU cR]) (h16:yA σE.y [.pointer (some ⟨σ.y,2,none⟩)]) (h17:yA σE.y [.slice qN lT cQ]) (h18:yA σB.y [.pointer (some ⟨σ.y,3,none⟩)]) (h19:yA σB.y [.pointer (some ⟨σ.y,4,none⟩)]) (h20:yA σB.y [.pointer (some ⟨σ.y,5,none⟩)]) (h21:yA σB.y [.agg ⟨zG qT lAB cV qU lBB cW qV lCB cX nSB nTB nUB⟩]) (h22:yA (σB.row (zG qT lAB cV qU lBB cW qV lCB cX nSB nTB nUB) 6).y [.slice qL lP cO,.slice (some ⟨σB.y,0,none⟩) 1 1]) (h23:yA σW.y [.pointer (some ⟨BB,2,none⟩),.slice qY lEB cBB]) (h24:(((⟨BB,2,none⟩:Addr).block<σD.y∧yS RD (.slice qL lP cO)=true)∧zB Pg σD 41 ⟨BB,2,none⟩=some (.slice qL lP cO))) (h25:(((⟨BB,2,none⟩:Addr).block<σE.y∧yS RD (.slice qL lP cO)=true)∧zB Pg σE 41 ⟨BB,2,none⟩=some (.slice qL lP cO))) (h26:(((⟨BB,2,none⟩:Addr).block<σB.y∧yS RD (.slice qL lP cO)=true)∧zB Pg σB 41 ⟨BB,2,none⟩=some (.slice qL lP cO))) (h27:(((⟨BB,2,none⟩:Addr).block<(σB.row (zG qT lAB cV qU lBB cW qV lCB cX nSB nTB nUB) 6).y∧yS RD (.slice qL lP cO)=true)∧zB Pg (σB.row (zG qT lAB cV qU lBB cW qV lCB cX nSB nTB nUB) 6) 41 ⟨BB,2,none⟩=some (.slice qL lP cO))) (h28:zB Pg ((σ.row (zG none 0 0 none 0 0 none 0 0 0 0 0) 6).own σ.y (zG qA lA cD qB lE cE qC lF cF nG nH nJ) 6) 29 ⟨σ.y,1,none⟩=some (.slice qO lU cR)) (h29:(((⟨σ.y,1,none⟩:Addr).block<σD.y∧yS RD (.slice qO lU cR)=true)∧zB Pg σD 29 ⟨σ.y,1,none⟩=some (.slice qO lU cR))) (h30:zB Pg ((σ.row (zG none 0 0 none 0 0 none 0 0 0 0 0) 6).own σ.y (zG qA lA cD qB lE cE qC lF cF nG nH nJ) 6) 29 ⟨σ.y,2,none⟩=some (.slice qN lT cQ)) (h31:(((⟨σ.y,2,none⟩:Addr).block<σD.y∧yS RD (.slice qN lT cQ)=true)∧zB Pg σD 29 ⟨σ.y,2,none⟩=some (.slice qN lT cQ))) (h32:(((⟨σ.y,2,none⟩:Addr).block<σE.y∧yS RD (.slice qN lT cQ)=true)∧zB Pg σE 29 ⟨σ.y,2,none⟩=some (.slice qN lT cQ))) (h33:zB Pg ((σ.row (zG none 0 0 none 0 0 none 0 0 0 0 0) 6).own σ.y (zG qA lA cD qB lE cE qC lF cF nG nH nJ) 6) 3 ⟨σ.y,3,none⟩=some (iV nSB)) (h34:(((⟨σ.y,3,none⟩:Addr).block<σD.y∧yS RD (iV nSB)=true)∧zB Pg σD 3 ⟨σ.y,3,none⟩=some (iV nSB))) (h35:(((⟨σ.y,3,none⟩:Addr).block<σE.y∧yS RD (iV nSB)=true)∧zB Pg σE 3 ⟨σ.y,3,none⟩=some (iV nSB))) (h36:(((⟨σ.y,3,none⟩:Addr).block<σB.y∧yS RD (iV nSB)=true)∧zB Pg σB 3 ⟨σ.y,3,none⟩=some (iV nSB))) (h37:zB Pg ((σ.row (zG none 0 0 none 0 0 none 0 0 0 0 0) 6).own σ.y (zG qA lA cD qB lE cE qC lF cF nG nH nJ) 6) 3 ⟨σ.y,4,none⟩=some (iV nTB)) (h38:(((⟨σ.y,4,none⟩:Addr).block<σD.y∧yS RD (iV nTB)=true)∧zB Pg σD 3 ⟨σ.y,4,none⟩=some (iV nTB))) (h39:(((⟨σ.y,4,none⟩:Addr).block<σE.y∧yS RD (iV nTB)=true)∧zB Pg σE 3 ⟨σ.y,4,none⟩=some (iV nTB))) (h40:(((⟨σ.y,4,none⟩:Addr).block<σB.y∧yS RD (iV nTB)=true)∧zB Pg σB 3 ⟨σ.y,4,none⟩=some (iV nTB))) (h41:zB Pg ((σ.row (zG none 0 0 none 0 0 none 0 0 0 0 0) 6).own σ.y (zG qA lA cD qB lE cE qC lF cF nG nH nJ) 6) 3 ⟨σ.y,5,none⟩=some (iV nUB)) (h42:(((⟨σ.y,5,none⟩:Addr).block<σD.y∧yS RD (iV nUB)=true)∧zB Pg σD 3 ⟨σ.y,5,none⟩=some (iV nUB))) (h43:(((⟨σ.y,5,none⟩:Addr).block<σE.y∧yS RD (iV nUB)=true)∧zB Pg σE 3 ⟨σ.y,5,none⟩=some (iV nUB))) (h44:(((⟨σ.y,5,none⟩:Addr).block<σB.y∧yS RD (iV nUB)=true)∧zB Pg σB 3 ⟨σ.y,5,none⟩=some (iV nUB))) (b_qA:∀ a,qA=some a→a.block<σ.y) (nx:Nx (eb+1) σYB) (u1:eb<((lL:Nat):Int):=by omega) (u2:Ix eb lL:=by omega) (u3:I6 (eb+1):=by omega) (b_BB:BB<σ.y:=by omega):zRG BA BC BB eb σ Nx Q2 :=
 let s1:=σ.row (zG none 0 0 none 0 0 none 0 0 0 0 0) 6;let s2:=s1.own σ.y (zG qA lA cD qB lE cE qC lF cF nG nH nJ) 6;kO 0 (eb+1) [.g,.g,.l (.slice (some dK) lL cL),.g,.b true,.g,.l (.slice (some dK) lL cL),.g,.i,.l (.agg ⟨zG qA lA cD qB lE cE qC lF cF nG nH nJ⟩),.g,.e undef s2,.g,.l (.slice qL lP cO),.g,.l (.slice qA lA cD),.c (.slice qT lAB cV) σD,.g,.l (.slice qO lU cR),.c (.slice qU lBB cW) σE,.g,.l (.slice qN lT cQ),.c (.slice qV lCB cX) σB,.g,.l (iV nSB),.g,.l (iV nTB),.g,.l (iV nUB),.g,.g,.e (.slice qY lEB cBB) σW,.g,.e undef σYB,.g,.n (eb+1),.g] (fun _ f=>(an4 h1 (zJ u1) h1 u2 (an6 h2 ((zC _ _ _).store (vs:=(zG qA lA cD qB lE cE qC lF cF nG nH nJ)) rfl vS rfl (nle rfl) rfl:zL Pg (evL [.pointer (some ⟨σ.y,0,none⟩),.agg ⟨zG qA lA cD qB lE cE qC lF cF nG nH nJ⟩]) s1 (.store 70 (.tmp 0) (.tmp 1))=some (undef,s2)) h3 ((zC _ _ _).put.rw.ld yT (k:=0) rfl:zB Pg s2 29 ⟨σ.y,0,none⟩=some (.slice qA lA cD)) h4 h5 (an6 h6 h7 h8 h9 h10 h11 (an6 h12 h13 ((zR (yG (xIB b_BB 1)) zV):yA s2.y [.pointer (some ⟨BB,2,none⟩)]) ((zR (yG (nlt σ.y 0 1 rfl)) zV):yA s2.y [.pointer (some ⟨σ.y,0,none⟩)]) ((zR (yOK b_qA 1) zV):yA s2.y [.slice qA lA cD]) h14 (an6 h15 h16 h17 h18 h19 h20 (an6 h21 h22 h23 (⟨⟨(xIB b_BB 1),rfl⟩,h3⟩:(((⟨BB,2,none⟩:Addr).block<s2.y∧yS RD (.slice qL lP cO)=true)∧zB Pg s2 41 ⟨BB,2,none⟩=some (.slice qL lP cO))) h24 h24 (an6 h25 h25 h26 h26 h27 (⟨⟨(nlt σ.y 0 1 rfl),rfl⟩,h28⟩:(((⟨σ.y,1,none⟩:Addr).block<s2.y∧yS RD (.slice qO lU cR)=true)∧zB Pg s2 29 ⟨σ.y,1,none⟩=some (.slice qO lU cR))) (an6 h29 (⟨⟨(nlt σ.y 0 1 rfl),rfl⟩,h30⟩:(((⟨σ.y,2,none⟩:Addr).block<s2.y∧yS RD (.slice qN lT cQ)=true)∧zB Pg s2 29 ⟨σ.y,2,none⟩=some (.slice qN lT cQ))) h31 h31 h32 (⟨⟨(nlt σ.y 0 1 rfl),rfl⟩,h33⟩:(((⟨σ.y,3,none⟩:Addr).block<s2.y∧yS RD (iV nSB)=true)∧zB Pg s2 3 ⟨σ.y,3,none⟩=some (iV nSB))) (an6 h34 h34 h35 h35 h36 (⟨⟨(nlt σ.y 0 1 rfl),rfl⟩,h37⟩:(((⟨σ.y,4,none⟩:Addr).block<s2.y∧yS RD (iV nTB)=true)∧zB Pg s2 3 ⟨σ.y,4,none⟩=some (iV nTB))) (an6 h38 h38 h39 h39 h40 (⟨⟨(nlt σ.y 0 1 rfl),rfl⟩,h41⟩:(((⟨σ.y,5,none⟩:Addr).block<s2.y∧yS RD (iV nUB)=true)∧zB Pg s2 3 ⟨σ.y,5,none⟩=some (iV nUB))) (an6 h42 h42 h43 h43 h44 (w64 u3) f)))))))))))) nx
theorem xCV (h1:zB Pg σ 23 ⟨BA,2,none⟩=some (.slice qI lL cL)) (nx:Q2 σ) (u1:¬ eb<((lL:Nat):Int):=by omega):zRG BA BC BB eb σ Nx Q2 :=
 kO 1 () [.g,.g,.l (.slice qI lL cL),.g,.b false] (fun _ f=>(an2 h1 (zM u1) f)) nx
def zZR (BA BC BB:Nat) (σ:St) (Q:Value→St→Prop):Prop:=∀ g:Nat→Value,∃ an,Hid (kAt Pg (zS Pg) none (zO Pg 12) [1,1,1,0,1,0] (kFn Pg 12 Q) (.exit 2) ⟨Fm 82 (ov (zZP BA BC BB) g),[]⟩ σ an)
theorem yOT (hL:yRK BA BC BB 0 σ P2) (k2:∀ σ',P2 σ'→zZR BA BC BB σ' Q):zZS BA BC BB σ Q :=
 sK [.g,.lf 82 (zMO BA BC BB 0) [zOM BA BC BB P2]] (ai (ai tt (ai (arf (zMO BA BC BB 0)) hL)) (ai (kz0 k2) trivial))
theorem yOS (h1:zB Pg σ 43 ⟨BB,0,none⟩=some (.agg ⟨wkc nWB qLB lRB cNB qMB lSB cOB nXB nYB nZB⟩)) (h2:zL Pg (evL [.pointer (some ⟨BC,0,none⟩),.agg ⟨wkc nWB qLB lRB cNB qMB lSB cOB nXB nYB nZB⟩]) σ (.store 43 (.tmp 0) (.tmp 1))=some (undef,σH)) (h3:zB Pg σH 43 ⟨BC,0,none⟩=some (.agg ⟨wkc nBv qNB lTB cPB qOB lUB cQB nBw nBx nBy⟩)) (nx:Q (.agg ⟨wkc nBv qNB lTB cPB qOB lUB cQB nBw nBx nBy⟩) σH):zZR BA BC BB σ Q :=
 sK [.l (.agg ⟨wkc nWB qLB lRB cNB qMB lSB cOB nXB nYB nZB⟩),.e undef σH,.l (.agg ⟨wkc nBv qNB lTB cPB qOB lUB cQB nBw nBx nBy⟩)] (an3 h1 h2 h3 nx)
theorem yYL (h1:zD Pg 24 [.agg ⟨wkc ak ah ac ad ag aa ab ar au am⟩] (σ.row (wkc ak ah ac ad ag aa ab ar au am) 6) (.bool true) (σ.row (wkc ak ah ac ad ag aa ab ar au am) 6)) (h2:zD Pg 25 [.agg ⟨wkc ak ah ac ad ag aa ab ar au am⟩] (σ.row (wkc ak ah ac ad ag aa ab ar au am) 6) (iV n2) (σ.row (wkc ak ah ac ad ag aa ab ar au am) 6)) (nx:Q (.bool true) (σ.row (wkc ak ah ac ad ag aa ab ar au am) 6)) (u1:n2=0:=by omega):zI Pg 6 [.agg ⟨wkc ak ah ac ad ag aa ab ar au am⟩] σ Q :=
 let s1:=σ.row (wkc ak ah ac ad ag aa ab ar au am) 6;zF [.g,.g,.l (.agg ⟨wkc ak ah ac ad ag aa ab ar au am⟩),.c (.bool true) s1,.g,.l (.agg ⟨wkc ak ah ac ad ag aa ab ar au am⟩),.c (iV n2) s1,.b true,.g,.g] (kd (an5 ((zC _ _ _).rw.ldN zJM zCK (k:=0) rfl rfl (nle rfl):zB Pg s1 25 ⟨σ.y,0,none⟩=some (.agg ⟨wkc ak ah ac ad ag aa ab ar au am⟩)) h1 ((zC _ _ _).rw.ldN zJM zCK (k:=0) rfl rfl (nle rfl):zB Pg s1 25 ⟨σ.y,0,none⟩=some (.agg ⟨wkc ak ah ac ad ag aa ab ar au am⟩)) h2 (wJ u1) nx))
theorem yYK (h1:zD Pg 24 [.agg ⟨wkc ak ah ac ad ag aa ab ar au am⟩] (σ.row (wkc ak ah ac ad ag aa ab ar au am) 6) (.bool true) (σ.row (wkc ak ah ac ad ag aa ab ar au am) 6)) (h2:zD Pg 25 [.agg ⟨wkc ak ah ac ad ag aa ab ar au am⟩] (σ.row (wkc ak ah ac ad ag aa ab ar au am) 6) (iV n2) (σ.row (wkc ak ah ac ad ag aa ab ar au am) 6)) (nx:Q (.bool false) (σ.row (wkc ak ah ac ad ag aa ab ar au am) 6)) (u1:¬ n2=0:=by omega):zI Pg 6 [.agg ⟨wkc ak ah ac ad ag aa ab ar au am⟩] σ Q :=
 let s1:=σ.row (wkc ak ah ac ad ag aa ab ar au am) 6;zF [.g,.g,.l (.agg ⟨wkc ak ah ac ad ag aa ab ar au am⟩),.c (.bool true) s1,.g,.l (.agg ⟨wkc ak ah ac ad ag aa ab ar au am⟩),.c (iV n2) s1,.b false,.g,.g] (kd (an5 ((zC _ _ _).rw.ldN zJM zCK (k:=0) rfl rfl (nle rfl):zB Pg s1 25 ⟨σ.y,0,none⟩=some (.agg ⟨wkc ak ah ac ad ag aa ab ar au am⟩)) h1 ((zC _ _ _).rw.ldN zJM zCK (k:=0) rfl rfl (nle rfl):zB Pg s1 25 ⟨σ.y,0,none⟩=some (.agg ⟨wkc ak ah ac ad ag aa ab ar au am⟩)) h2 (xB u1) nx))
theorem yYJ (h1:zD Pg 24 [.agg ⟨wkc ak ah ac ad ag aa ab ar au am⟩] (σ.row (wkc ak ah ac ad ag aa ab ar au am) 6) (.bool false) (σ.row (wkc ak ah ac ad ag aa ab ar au am) 6)) (nx:Q (.bool false) (σ.row (wkc ak ah ac ad ag aa ab ar au am) 6)):zI Pg 6 [.agg ⟨wkc ak ah ac ad ag aa ab ar au am⟩] σ Q :=
 let s1:=σ.row (wkc ak ah ac ad ag aa ab ar au am) 6;zF [.g,.g,.l (.agg ⟨wkc ak ah ac ad ag aa ab ar au am⟩),.c (.bool false) s1,.g,.g,.g] (kd (an2 ((zC _ _ _).rw.ldN zJM zCK (k:=0) rfl rfl (nle rfl):zB Pg s1 25 ⟨σ.y,0,none⟩=some (.agg ⟨wkc ak ah ac ad ag aa ab ar au am⟩)) h1 nx))
noncomputable def yIM:Code:=(Code.part [1,1,0,1,0,0] (zO Pg 9))
def zHM (bu:Option Addr) (aU aY BA:Nat) (bU:Option Addr) (bV bW:Nat) (bK:Int):List (Nat × Value):=[(1,.slice bu aU aY),(2,.pointer (some ⟨BA,0,none⟩)),(5,.slice bU bV bW),(6,iV bK)]
def yWT (bu:Option Addr) (aU aY BA:Nat) (Q:(Option Addr)→Nat→Nat→Int→St→Prop):Alt:=⟨(Option Addr) × Nat × Nat × Int,.normal,fun t=>zHM bu aU aY BA t.1 t.2.1 t.2.2.1 t.2.2.2,fun t=>[],fun t σ=>Q t.1 t.2.1 t.2.2.1 t.2.2.2 σ⟩
def zVP (bu:Option Addr) (aU aY BA:Nat) (bU:Option Addr) (bV bW:Nat):List (Nat × Value):=[(5,.slice bU bV bW)]
def zKX (bu:Option Addr) (aU aY BA:Nat) (Q:(Option Addr)→Nat→Nat→St→Prop):Alt:=⟨(Option Addr) × Nat × Nat,(.exit 0),fun t=>zVP bu aU aY BA t.1 t.2.1 t.2.2,fun t=>[],fun t σ=>Q t.1 t.2.1 t.2.2 σ⟩
def zMP (bu:Option Addr) (aU aY BA:Nat) (bU:Option Addr) (bV bW:Nat) (bK:Int) (σ:St) (Nx:(Option Addr)→Nat→Nat→Int→St→Prop) (Q0:(Option Addr)→Nat→Nat→St→Prop):Prop:=yJ Pg (zS Pg) none yIM 50 (zHM bu aU aY BA bU bV bW bK) [] [yWT bu aU aY BA Nx,zKX bu aU aY BA Q0] σ
def zVQ (bu:Option Addr) (aU aY BA:Nat) (bU:Option Addr) (bV bW:Nat) (bK:Int) (σ:St) (Q0:(Option Addr)→Nat→Nat→St→Prop):Prop:=yR Pg (zS Pg) none yIM 50 (zHM bu aU aY BA bU bV bW bK) [] [zKX bu aU aY BA Q0] σ
theorem yIL {Inv:Nat→(Option Addr)→Nat→Nat→Int→St→Prop} {Q0:(Option Addr)→Nat→Nat→St→Prop} (hb:∀ k bU bV bW bK σ,Inv k bU bV bW bK σ→zMP bu aU aY BA bU bV bW bK σ (NX4 Inv k) Q0):∀ k bU bV bW bK σ,Inv k bU bV bW bK σ→zVQ bu aU aY BA bU bV bW bK σ Q0 :=
 zTO (ai (wA 0) trivial) hb
theorem yWS {Nx:(Option Addr)→Nat→Nat→Int→St→Prop} {Q0:(Option Addr)→Nat→Nat→St→Prop} (h1:zB Pg σ 22 ⟨BA,1,none⟩=some (.slice (some bM) lG cG)) (h2:zB Pg σ 33 (zH bM ((Int.toNat bK*5)+2))=some (.agg ⟨[iV nE,iV nA]⟩)) (h3:wW Pg .rem 3 (.tmp 30) (.tmp 32) (iV bK) (iV ((aU:Nat):Int))=some (iV nB)) (h4:zB Pg ((σ.row [iV 0,iV 0] 2).own σ.y [iV nE,iV nA] 2) 5 (zH words_a (Int.toNat nB*1))=some (.int .u8 nD)) (h5:wW Pg .rem 3 (.tmp 36) (.tmp 42) (iV nD) (iV ((nA-nE)+1))=some (iV nF)) (h6:zZ Pg 29 29 (.slice bU bV bW) (.slice (some ⟨(σ.y+1),0,none⟩) 1 1) (((σ.row [iV 0,iV 0] 2).own σ.y [iV nE,iV nA] 2).row [iV (nE+nF)] 1)=some (.slice qZ lFB cCB,σI)) (nx:Nx qZ lFB cCB (bK+1) σI) (u1:bK<((lG:Nat):Int):=by omega) (u2:Ix bK lG:=by omega) (u3:0<((aU:Nat):Int):=by omega) (u4:Ix nB aU:=by omega) (u5:I6 nD:=by omega) (u6:I6 (nA-nE):=by omega) (u7:I6 ((nA-nE)+1):=by omega) (u8:I6 (nE+nF):=by omega) (u9:I6 (bK+1):=by omega):zMP (some words_a) aU aY BA bU bV bW bK σ Nx Q0 :=
 let s1:=σ.row [iV 0,iV 0] 2;let s2:=s1.own σ.y [iV nE,iV nA] 2;kO 0 (qZ,lFB,cCB,bK+1) [.g,.g,.l (.slice (some bM) lG cG),.g,.b true,.g,.l (.slice (some bM) lG cG),.g,.i,.g,.l (.agg ⟨[iV nE,iV nA]⟩),.g,.e undef s2,.g,.l (iV nA),.g,.g,.g,.b true,.g,.l (iV nE),.g,.g,.g,.g,.v (iV nB),.i,.l (.int .u8 nD),.n nD,.g,.l (iV nA),.g,.l (iV nE),.n (nA-nE),.n ((nA-nE)+1),.v (iV nF),.n (nE+nF),.g,.g,.g,.g,.e (.slice qZ lFB cCB) σI,.g,.g,.n (bK+1),.g] (fun _ f=>(an3 h1 (zJ u1) h1 (an6 u2 h2 ((zC _ _ _).store (vs:=[iV nE,iV nA]) rfl yJQ rfl (nle rfl) rfl:zL Pg (evL [.pointer (some ⟨σ.y,0,none⟩),.agg ⟨[iV nE,iV nA]⟩]) s1 (.store 33 (.tmp 0) (.tmp 1))=some (undef,s2)) ((zC _ _ _).put.rw.ld zK (k:=1) rfl:zB Pg s2 3 ⟨σ.y,1,none⟩=some (iV nA)) (zJ u3) ((zC _ _ _).put.rw.ld zK (k:=0) rfl:zB Pg s2 3 ⟨σ.y,0,none⟩=some (iV nE)) (an6 h3 u4 h4 (w64 u5) ((zC _ _ _).put.rw.ld zK (k:=1) rfl:zB Pg s2 3 ⟨σ.y,1,none⟩=some (iV nA)) ((zC _ _ _).put.rw.ld zK (k:=0) rfl:zB Pg s2 3 ⟨σ.y,0,none⟩=some (iV nE)) (an6 (w64 u6) (w64 u7) h5 (w64 u8) h6 (w64 u9) f))))) nx
theorem yWR {Nx:(Option Addr)→Nat→Nat→Int→St→Prop} {Q0:(Option Addr)→Nat→Nat→St→Prop} (h1:zB Pg σ 22 ⟨BA,1,none⟩=some (.slice (some bM) lG cG)) (h2:zB Pg σ 33 (zH bM ((Int.toNat bK*5)+2))=some (.agg ⟨[iV nE,iV nA]⟩)) (h3:zZ Pg 29 29 (.slice bU bV bW) (.slice (some ⟨(σ.y+1),0,none⟩) 1 1) (((σ.row [iV 0,iV 0] 2).own σ.y [iV nE,iV nA] 2).row [iV nA] 1)=some (.slice qAB lGB cDB,σZB)) (nx:Nx qAB lGB cDB (bK+1) σZB) (u1:bK<((lG:Nat):Int):=by omega) (u2:Ix bK lG:=by omega) (u3:¬ 0<((aU:Nat):Int):=by omega) (u4:I6 (bK+1):=by omega):zMP bu aU aY BA bU bV bW bK σ Nx Q0 :=
 let s1:=σ.row [iV 0,iV 0] 2;let s2:=s1.own σ.y [iV nE,iV nA] 2;kO 0 (qAB,lGB,cDB,bK+1) [.g,.g,.l (.slice (some bM) lG cG),.g,.b true,.g,.l (.slice (some bM) lG cG),.g,.i,.g,.l (.agg ⟨[iV nE,iV nA]⟩),.g,.e undef s2,.g,.l (iV nA),.g,.g,.g,.b false,.g,.g,.g,.e (.slice qAB lGB cDB) σZB,.g,.g,.n (bK+1),.g] (fun _ f=>(an4 h1 (zJ u1) h1 u2 (an6 h2 ((zC _ _ _).store (vs:=[iV nE,iV nA]) rfl yJQ rfl (nle rfl) rfl:zL Pg (evL [.pointer (some ⟨σ.y,0,none⟩),.agg ⟨[iV nE,iV nA]⟩]) s1 (.store 33 (.tmp 0) (.tmp 1))=some (undef,s2)) ((zC _ _ _).put.rw.ld zK (k:=1) rfl:zB Pg s2 3 ⟨σ.y,1,none⟩=some (iV nA)) (zM u3) h3 (w64 u4) f))) nx
theorem yWQ {Nx:(Option Addr)→Nat→Nat→Int→St→Prop} {Q0:(Option Addr)→Nat→Nat→St→Prop} (h1:zB Pg σ 22 ⟨BA,1,none⟩=some (.slice qD lG cG)) (nx:Q0 bU bV bW σ) (u1:¬ bK<((lG:Nat):Int):=by omega):zMP bu aU aY BA bU bV bW bK σ Nx Q0 :=
 kO 1 (bU,bV,bW) [.g,.g,.l (.slice qD lG cG),.g,.b false] (fun _ f=>(an2 h1 (zM u1) f)) nx
def zVR (bu:Option Addr) (aU aY BA:Nat) (bU:Option Addr) (bV bW:Nat) (σ:St) (Q:Value→St→Prop):Prop:=∀ g:Nat→Value,∃ an,Hid (kAt Pg (zS Pg) none (zO Pg 9) [1,1,0,1,0] (kFn Pg 9 Q) (.exit 0) ⟨Fm 50 (ov (zVP bu aU aY BA bU bV bW) g),[]⟩ σ an)
theorem xDC {P0:(Option Addr)→Nat→Nat→St→Prop} (hL:zVQ bu aU aY σ.y none 0 0 0 (σ.row (wkc ak ah ac ad ag aa ab ar au am) 6) P0) (k0:∀ p5_1' l5_1' c5_1' σ',P0 p5_1' l5_1' c5_1' σ'→zVR bu aU aY σ.y p5_1' l5_1' c5_1' σ' Q):zI Pg 9 [.agg ⟨wkc ak ah ac ad ag aa ab ar au am⟩,.slice bu aU aY] σ Q :=
 zF [.g,.g,.g,.g,.lf 50 (zHM bu aU aY σ.y none 0 0 0) [zKX bu aU aY σ.y P0]] (kd (ai (ai tt (ai (arf (zHM bu aU aY σ.y none 0 0 0)) hL)) (ai (kz3 k0) trivial)))
theorem yIK (nx:Q (.slice bU bV bW) σ):zVR bu aU aY BA bU bV bW σ Q :=
 sK [.g,.g] nx
noncomputable def yIS:Code:=(Code.part [1,1,0,1,0,0] (zO Pg 8))
def zHQ (bu:Option Addr) (aU aY BA:Nat) (bU:Option Addr) (bV bW:Nat) (bK:Int):List (Nat × Value):=[(1,.slice bu aU aY),(2,.pointer (some ⟨BA,0,none⟩)),(5,.slice bU bV bW),(6,iV bK)]
def yWY (bu:Option Addr) (aU aY BA:Nat) (Q:(Option Addr)→Nat→Nat→Int→St→Prop):Alt:=⟨(Option Addr) × Nat × Nat × Int,.normal,fun t=>zHQ bu aU aY BA t.1 t.2.1 t.2.2.1 t.2.2.2,fun t=>[],fun t σ=>Q t.1 t.2.1 t.2.2.1 t.2.2.2 σ⟩
def zVT (bu:Option Addr) (aU aY BA:Nat) (bU:Option Addr) (bV bW:Nat):List (Nat × Value):=[(5,.slice bU bV bW)]
def zKZ (bu:Option Addr) (aU aY BA:Nat) (Q:(Option Addr)→Nat→Nat→St→Prop):Alt:=⟨(Option Addr) × Nat × Nat,(.exit 0),fun t=>zVT bu aU aY BA t.1 t.2.1 t.2.2,fun t=>[],fun t σ=>Q t.1 t.2.1 t.2.2 σ⟩
def zHR (bu:Option Addr) (aU aY BA:Nat) (bU:Option Addr) (bV bW:Nat) (bK:Int) (σ:St) (Nx:(Option Addr)→Nat→Nat→Int→St→Prop) (Q0:(Option Addr)→Nat→Nat→St→Prop):Prop:=yJ Pg (zS Pg) none yIS 43 (zHQ bu aU aY BA bU bV bW bK) [] [yWY bu aU aY BA Nx,zKZ bu aU aY BA Q0] σ
def zVU (bu:Option Addr) (aU aY BA:Nat) (bU:Option Addr) (bV bW:Nat) (bK:Int) (σ:St) (Q0:(Option Addr)→Nat→Nat→St→Prop):Prop:=yR Pg (zS Pg) none yIS 43 (zHQ bu aU aY BA bU bV bW bK) [] [zKZ bu aU aY BA Q0] σ
theorem yIR {Inv:Nat→(Option Addr)→Nat→Nat→Int→St→Prop} {Q0:(Option Addr)→Nat→Nat→St→Prop} (hb:∀ k bU bV bW bK σ,Inv k bU bV bW bK σ→zHR bu aU aY BA bU bV bW bK σ (NX4 Inv k) Q0):∀ k bU bV bW bK σ,Inv k bU bV bW bK σ→zVU bu aU aY BA bU bV bW bK σ Q0 :=
 zTO (ai (wA 0) trivial) hb
theorem yWX {Nx:(Option Addr)→Nat→Nat→Int→St→Prop} {Q0:(Option Addr)→Nat→Nat→St→Prop} (h1:zB Pg σ 22 ⟨BA,1,none⟩=some (.slice qD lG cG)) (h2:zB Pg σ 23 ⟨BA,2,none⟩=some (.slice qF lI cI)) (h3:wW Pg .rem 3 (.tmp 25) (.tmp 27) (iV bK) (iV ((aU:Nat):Int))=some (iV nA)) (h4:zB Pg σ 5 (zH words_a (Int.toNat nA*1))=some (.int .u8 nB)) (h5:wW Pg .rem 3 (.tmp 31) (.tmp 35) (iV nB) (iV (((lI:Nat):Int)+1))=some (iV nD)) (h6:zZ Pg 29 29 (.slice bU bV bW) (.slice (some ⟨σ.y,0,none⟩) 1 1) (σ.row [iV (nD-1)] 1)=some (.slice qM lQ cP,σO)) (nx:Nx qM lQ cP (bK+1) σO) (u1:bK<((lG:Nat):Int):=by omega) (u2:0<((aU:Nat):Int):=by omega) (u3:0<((lI:Nat):Int):=by omega) (u4:Ix nA aU:=by omega) (u5:I6 nB:=by omega) (u6:I6 (((lI:Nat):Int)+1):=by omega) (u7:I6 (nD-1):=by omega) (u8:I6 (bK+1):=by omega):zHR (some words_a) aU aY BA bU bV bW bK σ Nx Q0 :=
 kO 0 (qM,lQ,cP,bK+1) [.g,.g,.l (.slice qD lG cG),.g,.b true,.g,.g,.g,.b true,.g,.g,.l (.slice qF lI cI),.g,.b true,.g,.g,.g,.g,.g,.v (iV nA),.i,.l (.int .u8 nB),.n nB,.g,.l (.slice qF lI cI),.g,.n (((lI:Nat):Int)+1),.v (iV nD),.n (nD-1),.g,.g,.g,.g,.e (.slice qM lQ cP) σO,.g,.g,.n (bK+1),.g] (fun _ f=>(an3 h1 (zJ u1) (zJ u2) (an6 h2 (zJ u3) h3 u4 h4 (w64 u5) (an6 h2 (w64 u6) h5 (w64 u7) h6 (w64 u8) f)))) nx
theorem yWW {Nx:(Option Addr)→Nat→Nat→Int→St→Prop} {Q0:(Option Addr)→Nat→Nat→St→Prop} (h1:zB Pg σ 22 ⟨BA,1,none⟩=some (.slice qD lG cG)) (h2:zB Pg σ 23 ⟨BA,2,none⟩=some (.slice qF lI cI)) (h3:zZ Pg 29 29 (.slice bU bV bW) (.slice (some ⟨σ.y,0,none⟩) 1 1) (σ.row [iV (-1)] 1)=some (.slice qK lN cM,σT)) (nx:Nx qK lN cM (bK+1) σT) (u1:bK<((lG:Nat):Int):=by omega) (u2:0<((aU:Nat):Int):=by omega) (u3:¬ 0<((lI:Nat):Int):=by omega) (u4:I6 (bK+1):=by omega):zHR bu aU aY BA bU bV bW bK σ Nx Q0 :=
 kO 0 (qK,lN,cM,bK+1) [.g,.g,.l (.slice qD lG cG),.g,.b true,.g,.g,.g,.b true,.g,.g,.l (.slice qF lI cI),.g,.b false,.g,.g,.g,.g,.e (.slice qK lN cM) σT,.g,.g,.n (bK+1),.g] (fun _ f=>(ai h1 (an6 (zJ u1) (zJ u2) h2 (zM u3) h3 (w64 u4) f))) nx
theorem yWV {Nx:(Option Addr)→Nat→Nat→Int→St→Prop} {Q0:(Option Addr)→Nat→Nat→St→Prop} (h1:zB Pg σ 22 ⟨BA,1,none⟩=some (.slice qD lG cG)) (h2:zZ Pg 29 29 (.slice bU bV bW) (.slice (some ⟨σ.y,0,none⟩) 1 1) (σ.row [iV (-1)] 1)=some (.slice qG lJ cJ,σF)) (nx:Nx qG lJ cJ (bK+1) σF) (u1:bK<((lG:Nat):Int):=by omega) (u2:¬ 0<((aU:Nat):Int):=by omega) (u3:I6 (bK+1):=by omega):zHR bu aU aY BA bU bV bW bK σ Nx Q0 :=
 kO 0 (qG,lJ,cJ,bK+1) [.g,.g,.l (.slice qD lG cG),.g,.b true,.g,.g,.g,.b false,.g,.g,.g,.g,.g,.e (.slice qG lJ cJ) σF,.g,.g,.n (bK+1),.g] (fun _ f=>(an5 h1 (zJ u1) (zM u2) h2 (w64 u3) f)) nx
theorem yWU {Nx:(Option Addr)→Nat→Nat→Int→St→Prop} {Q0:(Option Addr)→Nat→Nat→St→Prop} (h1:zB Pg σ 22 ⟨BA,1,none⟩=some (.slice qD lG cG)) (nx:Q0 bU bV bW σ) (u1:¬ bK<((lG:Nat):Int):=by omega):zHR bu aU aY BA bU bV bW bK σ Nx Q0 :=
 kO 1 (bU,bV,bW) [.g,.g,.l (.slice qD lG cG),.g,.b false] (fun _ f=>(an2 h1 (zM u1) f)) nx
def zVV (bu:Option Addr) (aU aY BA:Nat) (bU:Option Addr) (bV bW:Nat) (σ:St) (Q:Value→St→Prop):Prop:=∀ g:Nat→Value,∃ an,Hid (kAt Pg (zS Pg) none (zO Pg 8) [1,1,0,1,0] (kFn Pg 8 Q) (.exit 0) ⟨Fm 43 (ov (zVT bu aU aY BA bU bV bW) g),[]⟩ σ an)
theorem xDM {P0:(Option Addr)→Nat→Nat→St→Prop} (hL:zVU bu aU aY σ.y none 0 0 0 (σ.row (wkc ak ah ac ad ag aa ab ar au am) 6) P0) (k0:∀ p5_1' l5_1' c5_1' σ',P0 p5_1' l5_1' c5_1' σ'→zVV bu aU aY σ.y p5_1' l5_1' c5_1' σ' Q):zI Pg 8 [.agg ⟨wkc ak ah ac ad ag aa ab ar au am⟩,.slice bu aU aY] σ Q :=
 zF [.g,.g,.g,.g,.lf 43 (zHQ bu aU aY σ.y none 0 0 0) [zKZ bu aU aY σ.y P0]] (kd (ai (ai tt (ai (arf (zHQ bu aU aY σ.y none 0 0 0)) hL)) (ai (kz3 k0) trivial)))
theorem yIQ (nx:Q (.slice bU bV bW) σ):zVV bu aU aY BA bU bV bW σ Q :=
 sK [.g,.g] nx
end
theorem xIQ {P : Program} {σ : St} {n0 len c i : Nat} {a : Addr} {cs : List Value} {t : TypeId} {v : Value} (h : App σ n0 1 (.slice (some a) len c) len cs) (hv : v.cells.toList = [v]) (hs : yN P t = some 1) (hc : cellB v = true) (hi : i < len) :
  ∃ τ, zL P (evL [.pointer (some (zH a (Int.toNat (i : Int) * 1))), v]) σ (.store t (.tmp 0) (.tmp 1)) = some (undef, τ) ∧ App τ n0 1 (.slice (some a) len c) len (cs.set i v) ∧ Only (· = a.block) σ τ := by
 cases h with
 | @more b s nx _ _ sp log hb hsp h0 hlt hl hp hsn =>
  have e : zH (⟨b, 0, sp⟩ : Addr) (Int.toNat (i : Int) * 1) = ⟨b, i, sp⟩ := by rw [Int.toNat_natCast, Nat.mul_one]; simp [zH]
  rw [e]
  have hcs : cs.take i ++ ([v] ++ cs.drop (i + 1)) = cs.set i v := by rw [List.set_eq_take_append_cons_drop, if_pos (by omega)]; rfl
  have hw : xK σ ⟨b, i, sp⟩ [v] = some (σ.put b (.cells (cs.set i v) 1 [(s, cs.length)] nx false)) := by
   have h2 : (Nat.beq s (zU ⟨b, i, sp⟩) && Nat.ble (i + 1) cs.length && !false && [v].all cellB) = true := by
    have h3 : Nat.beq s (zU ⟨b, i, sp⟩) = true := by unfold zU; simp only [hsp]; exact Nat.beq_refl _
    have h4 : Nat.ble (i + 1) cs.length = true := (zN _ _).2 (by omega)
    rw [h3, h4]; simp [hc]
   unfold xK
   simp only [hb, h2, cond_true, zBC, St.write_eq, List.length_singleton, hcs]
  refine ⟨σ.put b (.cells (cs.set i v) 1 [(s, cs.length)] nx false), ?_, .more (s := s) (log := []) (nx := nx) (by rw [St.put_get, if_pos rfl]; simp) hsp h0 hlt (by simp; omega) hp hsn, Only.put (.inr rfl)⟩
  have h1 : Nat.beq v.cells.toList.length 1 = true := by rw [hv]; rfl
  have : zBA P σ t ⟨b, i, sp⟩ v = some (σ.put b (.cells (cs.set i v) 1 [(s, cs.length)] nx false)) := by
   unfold zBA
   rw [hv] at h1 ⊢
   simp only [hs, h1, cond_true, hw]
  show (zBA P σ t ⟨b, i, sp⟩ v).map _ = _
  rw [this]; rfl
theorem xIR {σ : St} {n0 n len c : Nat} {p : Option Addr} {cs : List Value} (h : Ap σ n0 n p len c cs) (hl : 0 < len) : ∃ a, p = some a ∧ App σ n0 n (.slice (some a) len c) len cs := by
 rcases h with h | ⟨b, rfl, rfl, _⟩
 ·cases p with
  | none => cases h; omega
  | some a => exact ⟨a, rfl, h⟩
 ·omega
theorem xKE {z : St} {n1 c l : Nat} {p : Option Addr} {r : List Int} (h : App z n1 1 (.slice p l c) l (r.map yO)) (hl : r.length = l) : yP z p l r := by
 refine App.slv (vs := r.map yO) (by rw [zAD r .i64]; exact h) (by simp [hl]) ?_
 rintro v hv
 obtain ⟨x, _, rfl⟩ := List.mem_map.1 hv
 exact zDJ x
section
variable {σ : St} {w : Wk} {p q r t : Option Addr} {l m c d rl rc tl tc : Nat} {rs ts : List Int}
theorem yXZ {i j : Nat} {k : Int} (hi : i < rs.length) : zT (rs.set i k) j = if j = i then k else zT rs j := by
 unfold zT
 rw [List.getD_eq_getElem?_getD, List.getD_eq_getElem?_getD, List.getElem?_set]
 by_cases e : i = j
 ·subst e; rw [if_pos rfl, if_pos hi, if_pos rfl]; rfl
 ·rw [if_neg e, if_neg (Ne.symm e)]
def zIV (x : Drv) : Bool := decide (x.J.length ≤ 20) && (decide (x.qa.length ≤ 20) && decide (x.qb.length ≤ 20))
def zFM (w : Wk) : Bool := (w.L.take 10).all zIV && (decide (w.N.length ≤ 15) && decide (w.L.length ≤ 9))
theorem zRS (h : zFM w = true) : zFD w ∧ w.N.length ≤ 15 ∧ w.L.length ≤ 9 := by
 unfold zFM at h
 rw [Bool.and_eq_true, Bool.and_eq_true, decide_eq_true_eq, decide_eq_true_eq] at h
 obtain ⟨h1, h2, h3⟩ := h
 refine ⟨fun x hx => ?_, h2, h3⟩
 rw [List.take_of_length_le (by omega)] at h1
 have := List.all_eq_true.1 h1 x hx
 unfold zIV at this
 rw [Bool.and_eq_true, Bool.and_eq_true, decide_eq_true_eq, decide_eq_true_eq, decide_eq_true_eq] at this
 omega
theorem xIW (h : WkP σ 35 70 w p l q m) : zD Try.prog 24 [.agg ⟨wkc w.M p l c q m d w.rest w.run w.j⟩] σ (.bool (zFM w)) σ := by
 have hln := h.len.1
 have hm := h.len.2
 obtain ⟨σ1, hσ1⟩ : ∃ σ1, σ1 = σ.re.row (wkc w.M p l c q m d w.rest w.run w.j) 6 := ⟨_, rfl⟩
 have N1 : New σ.re σ1 := by rw [hσ1]; exact New.row _ _ _
 have L1 : Le σ σ1 := (le0 σ).trans N1.le
 have hk0 := xC σ.re (wkc w.M p l c q m d w.rest w.run w.j) 6
 rw [← hσ1] at hk0
 have lD : ∀ {τ}, New σ1 τ → zB Try.prog τ 22 ⟨σ.re.y, 1, none⟩ = some (.slice p l c) := fun hN => (hk0.le hN.le).ld zCA rfl
 have lV : ∀ {τ}, New σ1 τ → zB Try.prog τ 23 ⟨σ.re.y, 2, none⟩ = some (.slice q m d) := fun hN => (hk0.le hN.le).ld zHK rfl
 refine (xGK (yPB (Inv := fun k i τ => New σ1 τ ∧ ∃ j : Nat, i = j ∧ j + k = m ∧ j ≤ 10 ∧ (w.L.take j).all zIV = true) (Qr := fun b τ => New σ1 τ ∧ b = false ∧ zFM w = false) (Q0 := fun τ => New σ1 τ ∧ (w.L.take 10).all zIV = true) ?_ m 0 _ ⟨by rw [← hσ1]; exact New.refl _, 0, rfl, by omega, by omega, rfl⟩) ?_ ?_).pure
 ·rintro k i τ ⟨hN, j, rfl, hk, hj10, ha⟩
  by_cases hj : j < m
  rotate_left
  ·refine xDD (lV hN) ⟨hN, ?_⟩ (by omega)
   rw [List.take_of_length_le (by omega)] at ha ⊢
   exact ha
  by_cases h10 : j < 10
  rotate_left
  ·have : j = 10 := by omega
   subst this
   exact xDE (lV hN) ⟨hN, ha⟩ (by omega) (by omega)
  obtain ⟨a, rfl, p', l', c', r', n', d', s', j', e', ld, hkn, hlv, hws, _⟩ := (h.le (L1.trans hN.le)).vld xCT vS hj
  have e1 := hkn.len
  have e2 := hlv.len
  have e3 := hws.len
  have N2 : New τ ((τ.row (zG none 0 0 none 0 0 none 0 0 0 0 0) 6).own τ.y (zG p' l' c' r' n' d' s' j' e' (drv w j).off (drv w j).row (drv w j).used) 6) := (New.row _ _ _).own (Nat.le_refl _)
  have hx : w.L[j]? = some (drv w j) := by
   unfold drv
   rw [List.getD_eq_getElem?_getD, List.getElem?_eq_getElem (by omega)]; rfl
  have no : zIV (drv w j) = false → zFM w = false := by
   intro hf
   have : (w.L.take 10).all zIV = false := by
    refine yCS (x := drv w j) ?_ hf
    rw [List.mem_iff_getElem?]
    exact ⟨j, by rw [List.getElem?_take, if_pos h10]; exact hx⟩
   unfold zFM
   rw [this]; rfl
  by_cases g1 : 20 < l'
  ·exact xDI (lV hN) ld ⟨hN.trans N2, rfl, no (by unfold zIV; rw [decide_eq_false (by omega)]; rfl)⟩ (by omega) (by omega) (by omega) (by omega)
  by_cases g2 : 20 < n'
  ·exact xDH (lV hN) ld ⟨hN.trans N2, rfl, no (by unfold zIV; rw [decide_eq_true (by omega), decide_eq_false (by omega)]; rfl)⟩ (by omega) (by omega) (by omega) (by omega) (by omega)
  by_cases g3 : 20 < j'
  ·exact xDG (lV hN) ld ⟨hN.trans N2, rfl, no (by unfold zIV; rw [decide_eq_true (by omega), decide_eq_true (by omega), decide_eq_false (by omega)]; rfl)⟩ (by omega) (by omega) (by omega) (by omega) (by omega) (by omega)
  ·exact xDF (lV hN) ld ⟨k - 1, by omega, hN.trans N2, j + 1, by omega, by omega, by omega, zVO hx ha (by unfold zIV; rw [decide_eq_true (by omega), decide_eq_true (by omega), decide_eq_true (by omega)]; rfl)⟩ (by omega) (by omega) (by omega) (by omega) (by omega) (by omega) (by omega)
 ·rintro b τ ⟨hN, rfl, e⟩
  exact yOX ⟨by rw [e], (N1.trans hN).lw⟩
 ·rintro τ ⟨hN, e⟩
  have hlow := (N1.trans hN).lw
  by_cases h15 : l ≤ 15
  ·by_cases h9 : m ≤ 9
   ·exact yPA (lD hN) (lV hN) ⟨by unfold zFM; rw [e, decide_eq_true (by omega), decide_eq_true (by omega)]; rfl, hlow⟩ (by omega) (by omega)
   ·exact yOZ (lD hN) (lV hN) ⟨by unfold zFM; rw [e, decide_eq_true (by omega), decide_eq_false (by omega)]; rfl, hlow⟩ (by omega) (by omega)
  ·exact yOY (lD hN) ⟨by unfold zFM; rw [e, decide_eq_false (by omega)]; rfl, hlow⟩ (by omega)
end
theorem yWG : AppT Pg 40 40 69 5 := zRE (by kernel_rfl)
theorem yWH : AppT Pg 41 41 61 6 := zRE (by kernel_rfl)
theorem xBV (x : Dty) : zIQ Pg 69 5 (vC x) := .inr ⟨zQF, uT, _, rfl, rfl⟩
theorem xBW (p q r : Option Addr) (l c m d n e : Nat) (x y z : Int) : zIQ Pg 61 6 (.agg ⟨zG p l c q m d r n e x y z⟩) := .inr ⟨yII, zMV, _, rfl, rfl⟩
section
variable {σ : St} {w : Wk} {p q r t : Option Addr} {l m c d rl rc tl tc : Nat} {rs ts : List Int}
def zVX (τ : St) (S : Nat → Prop) (v : Value) (x : Drv) : Prop := ∃ p l c q m d r n e, v = .agg ⟨zG p l c q m d r n e x.off x.row x.used⟩ ∧ yP τ p l x.J ∧ yP τ q m x.qa ∧ yP τ r n x.qb ∧ ∀ b, AtP p b ∨ AtP q b ∨ AtP r b → ¬ S b
theorem zVX.v {τ : St} {S : Nat → Prop} {v : Value} {x : Drv} (h : zVX τ S v x) : zQM τ v x := by
 obtain ⟨p, l, c, q, m, d, r, n, e, h1, h2, h3, h4, _⟩ := h
 exact ⟨p, l, c, q, m, d, r, n, e, h1, h2, h3, h4⟩
theorem zVX.only {τ τ' : St} {S T : Nat → Prop} {v : Value} {x : Drv} (h : zVX τ S v x) (k : Only S τ τ') (hT : ∀ b, b < τ.y → T b → S b) : zVX τ' T v x := by
 obtain ⟨p, l, c, q, m, d, r, n, e, h1, h2, h3, h4, h5⟩ := h
 refine ⟨p, l, c, q, m, d, r, n, e, h1, k.slv' h2 (fun a e => h5 _ (.inl ⟨a, e, rfl⟩)), k.slv' h3 (fun a e => h5 _ (.inr (.inl ⟨a, e, rfl⟩))), k.slv' h4 (fun a e => h5 _ (.inr (.inr ⟨a, e, rfl⟩))), ?_⟩
 intro b hb ht
 have hlt : b < τ.y := by
  rcases hb with ⟨a, e, rfl⟩ | ⟨a, e, rfl⟩ | ⟨a, e, rfl⟩
  ·exact vN h2 a e
  ·exact vN h3 a e
  ·exact vN h4 a e
 exact h5 b hb (hT b hlt ht)
theorem xCZ (h : WkP σ 35 70 w p l q m) (hl : l ≤ 1000) (hm : m ≤ 1000) (hsh : zFD w) : ∃ p' c' q' d' σ', zD Pg 12 [.agg ⟨wkc w.M p l c q m d w.rest w.run w.j⟩] σ (.agg ⟨wkc w.M p' l c' q' m d' w.rest w.run w.j⟩) σ' ∧ New σ σ' ∧ WkP σ' 69 61 w p' l q' m := by
 have hl1 := h.len.1
 have hl2 := h.len.2
 obtain ⟨B, hB⟩ : ∃ B, B = σ.re.y := ⟨_, rfl⟩
 obtain ⟨τ0, hτ0⟩ : ∃ τ0, τ0 = ((((σ.re.row (wkc w.M p l c q m d w.rest w.run w.j) 6).row (wkc 0 none 0 0 none 0 0 0 0 0) 6).row (wkc 0 none 0 0 none 0 0 0 0 0) 6).own (σ.re.y + 2) (wkc w.M none 0 0 none 0 0 w.rest w.run w.j) 6) := ⟨_, rfl⟩
 have o1 : Own τ0 B (wkc w.M p l c q m d w.rest w.run w.j) 6 := by rw [hτ0, hB]; exact (zC σ.re _ _).row.row.own (by show σ.y ≠ σ.y + 2; omega)
 have o2 : Own τ0 (B + 1) (wkc 0 none 0 0 none 0 0 0 0 0) 6 := by rw [hτ0, hB]; exact (zC (σ.re.row (wkc w.M p l c q m d w.rest w.run w.j) 6) _ _).row.own (by show σ.y + 1 ≠ σ.y + 2; omega)
 have o3 : Own τ0 (B + 2) (wkc w.M none 0 0 none 0 0 w.rest w.run w.j) 6 := by rw [hτ0, hB]; exact (zC ((σ.re.row (wkc w.M p l c q m d w.rest w.run w.j) 6).row (wkc 0 none 0 0 none 0 0 0 0 0) 6) (wkc 0 none 0 0 none 0 0 0 0 0) 6).put
 have hN0 : New σ.re τ0 := by rw [hτ0]; exact ((New.row _ _ _).row'.row').own (by show σ.y ≤ σ.y + 2; omega)
 have hn0 : τ0.y = B + 3 := by rw [hτ0, hB]; rfl
 have key : zI Pg 12 [.agg ⟨wkc w.M p l c q m d w.rest w.run w.j⟩] σ.re fun v s => New σ.re s ∧ ∃ p' c' q' d', v = .agg ⟨wkc w.M p' l c' q' m d' w.rest w.run w.j⟩ ∧ WkP s 69 61 w p' l q' m := by
  refine xGI (P0 := fun τ => New σ.re τ ∧ ∃ ps cs, Own τ B (wkc w.M p l c q m d w.rest w.run w.j) 6 ∧ Own τ (B + 1) (wkc 0 none 0 0 none 0 0 0 0 0) 6 ∧ Own τ (B + 2) (wkc w.M ps l cs none 0 0 w.rest w.run w.j) 6 ∧ SlV Pg τ 69 5 ps l (w.N.map vC) ∧ (∀ b, AtP ps b → B + 3 ≤ b ∧ b < τ.y)) ?_ ?_
  ·rw [← hτ0]
   have := yOV (BA := B) (BC := B + 1) (BB := B + 2) (Inv := fun k i4 τ => New σ.re τ ∧ ∃ i : Nat, i4 = i ∧ i + k = l ∧ ∃ ps cs, Own τ B (wkc w.M p l c q m d w.rest w.run w.j) 6 ∧ Own τ (B + 1) (wkc 0 none 0 0 none 0 0 0 0 0) 6 ∧ Own τ (B + 2) (wkc w.M ps i cs none 0 0 w.rest w.run w.j) 6 ∧ Gr Pg τ (B + 3) 69 5 ps i cs ((w.N.take i).map vC) ∧ B + 3 ≤ τ.y)
    (Q0 := fun τ => New σ.re τ ∧ ∃ ps cs, Own τ B (wkc w.M p l c q m d w.rest w.run w.j) 6 ∧ Own τ (B + 1) (wkc 0 none 0 0 none 0 0 0 0 0) 6 ∧ Own τ (B + 2) (wkc w.M ps l cs none 0 0 w.rest w.run w.j) 6 ∧ SlV Pg τ 69 5 ps l (w.N.map vC) ∧ (∀ b, AtP ps b → B + 3 ≤ b ∧ b < τ.y)) ?_ l 0 τ0
    ⟨hN0, 0, rfl, by omega, none, 0, o1, o2, o3, by simpa using Gr.nil, by omega⟩
   ·subst hB; exact this
   rintro k i4 τ ⟨hN, i, rfl, hk, ps, cs, w1, w2, w3, hg, hnx⟩
   by_cases hi : i < l
   ·obtain ⟨a, rfl, x, hx, ld⟩ := wU (SlV.le h.dty ((le0 σ).trans hN.le)) hi
    have hcp : New τ ((τ.row (zE 0 0 0 0 0) 5).own τ.y (zE x.day x.on x.lo x.hi x.route) 5) := (New.row _ _ _).own (Nat.le_refl _)
    have k3 := (w3.row (ds := zE 0 0 0 0 0) (m := 5)).own (ds := zE x.day x.on x.lo x.hi x.route) (m := 5) (show B + 2 ≠ τ.y by have := w3.lt; omega)
    obtain ⟨p4, c4, τ2, g1, g2, g3, g4⟩ := yQX (vC x) (τ := (τ.row (zE 0 0 0 0 0) 5).own τ.y (zE x.day x.on x.lo x.hi x.route) 5) yWG hg hcp.le (xBV x) (by omega) hnx
    have hS : ∀ b, AtP ps b → B + 3 ≤ b := fun b hb => (hg.bd hb).1
    have hO : Only (AtP ps) τ τ2 := ((hcp.row').only (S := AtP ps)).trans g3 (fun _ _ x => x) (by intro m' h1 h2 b h3 h4; have := hg.bd h4; exact h2 b this.2 h4)
    have v1 := hO.own' w1 (fun x => by have := hS _ x; omega)
    have v2 := hO.own' w2 (fun x => by have := hS _ x; omega)
    have v3 := hO.own' w3 (fun x => by have := hS _ x; omega)
    have e5 : ∀ b, AtP p4 b → B + 3 ≤ b := fun b hb => (g2.bd hb).1
    have hN2 : New σ.re (τ2.own (B + 2) (wkc w.M p4 (i + 1) c4 none 0 0 w.rest w.run w.j) 6) := (hN.of_only hO (fun b hb => by have := hS b hb; omega)).own (by omega)
    have hn2 : τ.y ≤ τ2.y := hO.y
    refine xCY (w1.ld rfl zCA (k := 1) rfl) ld (k3.ld rfl uB (k := 1) rfl) g1 (v3.store (k := 1) (vs := [.slice p4 (i + 1) c4]) (ds := wkc w.M p4 (i + 1) c4 none 0 0 w.rest w.run w.j) rfl xHM rfl (by simp) rfl)
     ⟨k - 1, by omega, hN2, i + 1, by omega, by omega, p4, c4, v1.own (by omega), v2.own (by omega), v3.put, ?_, by show B + 3 ≤ τ2.y; omega⟩ (by omega) (by omega) (by omega)
    rw [vI hx, List.map_append]
    exact g2.only (S := (· = B + 2)) (Only.own (.inr rfl)) (by rintro b hb rfl; have := e5 _ hb; omega)
   ·have : i = l := by omega
    subst this
    rw [List.take_of_length_le (by omega)] at hg
    exact xCX (w1.ld rfl zCA (k := 1) rfl) ⟨hN, ps, cs, w1, w2, w3, hg.slv, fun b hb => hg.bd hb⟩ (by omega)
  ·rintro τ1 ⟨hN1, ps, cs, x1, x2, x3, hs1, hsb⟩
   have hz : σ.re.y = B := hB.symm
   rw [hz]
   refine yOT (P2 := fun τ => New σ.re τ ∧ ∃ qs ds, Own τ (B + 1) (wkc 0 none 0 0 none 0 0 0 0 0) 6 ∧ Own τ (B + 2) (wkc w.M ps l cs qs m ds w.rest w.run w.j) 6 ∧ SlV Pg τ 69 5 ps l (w.N.map vC) ∧ (∀ b, AtP ps b → B + 3 ≤ b) ∧ (∃ vs, SlV Pg τ 61 6 qs m vs ∧ ∀ (i : Nat) (x : Drv), w.L[i]? = some x → ∃ v, vs[i]? = some v ∧ zVX τ (· ≤ B + 2) v x) ∧ (∀ b, AtP qs b → B + 3 ≤ b))
    (yOU (Inv := fun k i6 τ => New σ.re τ ∧ ∃ i : Nat, i6 = i ∧ i + k = m ∧ ∃ qs ds vs, Own τ B (wkc w.M p l c q m d w.rest w.run w.j) 6 ∧ Own τ (B + 1) (wkc 0 none 0 0 none 0 0 0 0 0) 6 ∧ Own τ (B + 2) (wkc w.M ps l cs qs i ds w.rest w.run w.j) 6 ∧ SlV Pg τ 69 5 ps l (w.N.map vC) ∧ (∀ b, AtP ps b → ¬ AtP qs b ∧ b < τ.y) ∧
     Gr Pg τ (B + 3) 61 6 qs i ds vs ∧ (∀ (j : Nat) (x : Drv), j < i → w.L[j]? = some x → ∃ v, vs[j]? = some v ∧ zVX τ (fun b => AtP qs b ∨ b ≤ B + 2) v x)) ?_ m 0 τ1 ⟨hN1, 0, rfl, by omega, none, 0, [], x1, x2, x3, hs1, fun b hb => ⟨AtP.none, (hsb b hb).2⟩, Gr.nil, fun j x hj => by omega⟩) ?_
   ·rintro k i6 τ ⟨hN, i, rfl, hk, qs, ds, vs, w1, w2, w3, hs, hd, hg, hrow⟩
    have hnx : B + 3 ≤ τ.y := w3.lt
    have hvl := hg.len_eq
    by_cases hi : i < m
    ·obtain ⟨a, rfl, p', l', c', r', n', d', s', j', e', ld, hkn, hlv, hws, _⟩ := (h.le ((le0 σ).trans hN.le)).vld xCT vS hi
     have hx : w.L[i]? = some (drv w i) := by
      unfold drv
      rw [List.getD_eq_getElem?_getD, List.getElem?_eq_getElem (by omega)]; rfl
     obtain ⟨t1, ht1⟩ : ∃ t1, t1 = (τ.row (zG none 0 0 none 0 0 none 0 0 0 0 0) 6).own τ.y (zG p' l' c' r' n' d' s' j' e' (drv w i).off (drv w i).row (drv w i).used) 6 := ⟨_, rfl⟩
     have hcp : New τ t1 := by rw [ht1]; exact (New.row _ _ _).own (Nat.le_refl _)
     have nx1 : t1.y = τ.y + 1 := by rw [ht1]; rfl
     have oD : Own t1 τ.y (zG p' l' c' r' n' d' s' j' e' (drv w i).off (drv w i).row (drv w i).used) 6 := by rw [ht1]; exact (zC τ (zG none 0 0 none 0 0 none 0 0 0 0 0) 6).put
     have k3 := w3.le hcp.le
     have hsx := hsh _ (zRD (by omega : i < w.L.length))
     have en1 := hkn.len
     have en2 := hlv.len
     have en3 := hws.len
     obtain ⟨q1, d1, t2, c2, n2, i2, f2⟩ := zKG (c := c') (SlV.le hkn hcp.le) (by omega)
     obtain ⟨q3, d3, t4, c4, n4, i4, f4⟩ := zKG (c := d') (SlV.le (SlV.le hlv hcp.le) n2.le) (by omega)
     obtain ⟨q5, d5, t6, c6, n6, i6, f6⟩ := zKG (c := e') (SlV.le (SlV.le (SlV.le hws hcp.le) n2.le) n4.le) (by omega)
     have n16 : New τ t6 := ((hcp.trans n2).trans n4).trans n6
     have oD2 := oD.le n2.le
     have oD4 := oD2.le n4.le
     have oD6 := oD4.le n6.le
     have k32 := k3.le n2.le
     have k34 := k32.le n4.le
     have k36 := k34.le n6.le
     have J2 := SlV.le (SlV.le i2 n4.le) n6.le
     have J4 := SlV.le i4 n6.le
     obtain ⟨p8, c8, t8, g1, g2, g3, g4⟩ := yQX (.agg ⟨zG q1 l' d1 q3 n' d3 q5 j' d5 (drv w i).off (drv w i).row (drv w i).used⟩) (τ := t6) yWH hg n16.le (xBW _ _ _ _ _ _ _ _ _ _ _ _) (by omega) hnx
     have hS : ∀ b, AtP qs b → B + 3 ≤ b := fun b hb => (hg.bd hb).1
     have hO : Only (AtP qs) τ t8 := ((n16.row').only (S := AtP qs)).trans g3 (fun _ _ x => x) (by intro m' h1 h2 b h3 h4; have := hg.bd h4; exact h2 b this.2 h4)
     have hOx : Only (fun b => AtP qs b ∨ b ≤ B + 2) τ t8 := hO.mono (fun _ _ x => .inl x)
     have v1 := hO.own' w1 (fun x => by have := hS _ x; omega)
     have v2 := hO.own' w2 (fun x => by have := hS _ x; omega)
     have v3 := hO.own' w3 (fun x => by have := hS _ x; omega)
     have e5 : ∀ b, AtP p8 b → B + 3 ≤ b := fun b hb => (g2.bd hb).1
     obtain ⟨t9, ht9⟩ : ∃ t9, t9 = t8.own (B + 2) (wkc w.M ps l cs p8 (i + 1) c8 w.rest w.run w.j) 6 := ⟨_, rfl⟩
     have k9 : Only (· = B + 2) t8 t9 := by rw [ht9]; exact Only.own (.inr rfl)
     have hN9 : New σ.re t9 := (hN.of_only hO (fun b hb => by have := hS b hb; omega)).of_only k9 (by rintro b rfl; omega)
     have n2x := n2.nx
     have n4x := n4.nx
     have n6x := n6.nx
     have hn8 := hO.y
     have g3n := g3.y
     have g3n' : t6.y + 1 ≤ t8.y := g3n
     have st := v3.store (P := Pg) (k := 2) (t := 41) (v := .slice p8 (i + 1) c8) (vs := [.slice p8 (i + 1) c8]) (ds := wkc w.M ps l cs p8 (i + 1) c8 w.rest w.run w.j) rfl xHL rfl (by simp) rfl
     have bqs : ∀ {n : Nat}, τ.y ≤ n → yU RD n (.slice qs i ds) = true := fun hn => zAI (fun a e => by have := (hg.bd ⟨a, e, rfl⟩).2; omega)
     have lk : ∀ {z : St}, Own z τ.y (zG p' l' c' r' n' d' s' j' e' (drv w i).off (drv w i).row (drv w i).used) 6 → zB Pg z 29 ⟨τ.y, 1, none⟩ = some (.slice r' n' d') := fun o => o.rw.ld yT rfl
     have lk2 : ∀ {z : St}, Own z τ.y (zG p' l' c' r' n' d' s' j' e' (drv w i).off (drv w i).row (drv w i).used) 6 → zB Pg z 29 ⟨τ.y, 2, none⟩ = some (.slice s' j' e') := fun o => o.rw.ld yT rfl
     have lk3 : ∀ {z : St}, Own z τ.y (zG p' l' c' r' n' d' s' j' e' (drv w i).off (drv w i).row (drv w i).used) 6 → zB Pg z 3 ⟨τ.y, 3, none⟩ = some (iV (drv w i).off) := fun o => o.rw.ld zK rfl
     have lk4 : ∀ {z : St}, Own z τ.y (zG p' l' c' r' n' d' s' j' e' (drv w i).off (drv w i).row (drv w i).used) 6 → zB Pg z 3 ⟨τ.y, 4, none⟩ = some (iV (drv w i).row) := fun o => o.rw.ld zK rfl
     have lk5 : ∀ {z : St}, Own z τ.y (zG p' l' c' r' n' d' s' j' e' (drv w i).off (drv w i).row (drv w i).used) 6 → zB Pg z 3 ⟨τ.y, 5, none⟩ = some (iV (drv w i).used) := fun o => o.rw.ld zK rfl
     have lw : ∀ {z : St}, Own z (B + 2) (wkc w.M ps l cs qs i ds w.rest w.run w.j) 6 → zB Pg z 41 ⟨B + 2, 2, none⟩ = some (.slice qs i ds) := fun o => o.rw.ld zAY rfl
     have hlv' : ∀ a, r' = some a → a.block < τ.y := vN hlv
     have hws' : ∀ a, s' = some a → a.block < τ.y := vN hws
     have fin : zRG B (B + 1) (B + 2) (i : Int) τ (fun i6' σ' => ∃ k', k' < k ∧ (New σ.re σ' ∧ ∃ i : Nat, i6' = i ∧ i + k' = m ∧ ∃ qs ds vs, Own σ' B (wkc w.M p l c (some a) m d w.rest w.run w.j) 6 ∧ Own σ' (B + 1) (wkc 0 none 0 0 none 0 0 0 0 0) 6 ∧ Own σ' (B + 2) (wkc w.M ps l cs qs i ds w.rest w.run w.j) 6 ∧ SlV Pg σ' 69 5 ps l (w.N.map vC) ∧ (∀ b, AtP ps b → ¬ AtP qs b ∧ b < σ'.y) ∧
     Gr Pg σ' (B + 3) 61 6 qs i ds vs ∧ (∀ (j : Nat) (x : Drv), j < i → w.L[j]? = some x → ∃ v, vs[j]? = some v ∧ zVX σ' (fun b => AtP qs b ∨ b ≤ B + 2) v x))) (fun τ => New σ.re τ ∧ ∃ qs ds, Own τ (B + 1) (wkc 0 none 0 0 none 0 0 0 0 0) 6 ∧ Own τ (B + 2) (wkc w.M ps l cs qs m ds w.rest w.run w.j) 6 ∧ SlV Pg τ 69 5 ps l (w.N.map vC) ∧ (∀ b, AtP ps b → B + 3 ≤ b) ∧ (∃ vs, SlV Pg τ 61 6 qs m vs ∧ ∀ (i : Nat) (x : Drv), w.L[i]? = some x → ∃ v, vs[i]? = some v ∧ zVX τ (· ≤ B + 2) v x) ∧ (∀ b, AtP qs b → B + 3 ≤ b)) := by
      rw [ht1] at c2 oD
      refine xCW (w1.ld rfl zHK (k := 2) rfl) ld (by rw [← ht1]; exact lw k3) c2 (lk oD2) c4 (lk2 oD4) c6 (lk3 oD6) (lk4 oD6) (lk5 oD6) g1 st
       (zR (yG oD2.lt) zV) (zR (zAI fun a e => by have := hlv' a e; omega) zV) (zR (yG oD4.lt) zV) (zR (zAI fun a e => by have := hws' a e; omega) zV)
       (zR (yG oD6.lt) zV) (zR (yG oD6.lt) zV) (zR (yG oD6.lt) zV)
       (zR (yOL (vN J2) (vN J4) (vN i6)) zV)
       (zR (bqs (by show τ.y ≤ t6.y + 1; omega)) (zR (zVF (by show t6.y < t6.y + 1; omega)) zV))
       (zR (yG (by show B + 2 < t8.y; omega)) (zR (zAI fun a e => (g2.bd ⟨a, e, rfl⟩).2) zV))
       ⟨⟨k32.lt, rfl⟩, lw k32⟩ ⟨⟨k34.lt, rfl⟩, lw k34⟩ ⟨⟨k36.lt, rfl⟩, lw k36⟩ ⟨⟨(k36.row (ds := zG q1 l' d1 q3 n' d3 q5 j' d5 (drv w i).off (drv w i).row (drv w i).used) (m := 6)).lt, rfl⟩, lw k36.row⟩
       (lk oD) ⟨⟨oD2.lt, rfl⟩, lk oD2⟩ (lk2 oD) ⟨⟨oD2.lt, rfl⟩, lk2 oD2⟩ ⟨⟨oD4.lt, rfl⟩, lk2 oD4⟩
       (lk3 oD) ⟨⟨oD2.lt, rfl⟩, lk3 oD2⟩ ⟨⟨oD4.lt, rfl⟩, lk3 oD4⟩ ⟨⟨oD6.lt, rfl⟩, lk3 oD6⟩
       (lk4 oD) ⟨⟨oD2.lt, rfl⟩, lk4 oD2⟩ ⟨⟨oD4.lt, rfl⟩, lk4 oD4⟩ ⟨⟨oD6.lt, rfl⟩, lk4 oD6⟩
       (lk5 oD) ⟨⟨oD2.lt, rfl⟩, lk5 oD2⟩ ⟨⟨oD4.lt, rfl⟩, lk5 oD4⟩ ⟨⟨oD6.lt, rfl⟩, lk5 oD6⟩
       (vN hkn)
       ⟨k - 1, by omega, by rw [← ht9]; exact hN9, i + 1, by omega, by omega, p8, c8, _, ?_, ?_, ?_, ?_, ?_, by rw [← ht9]; exact g2.only k9 (by rintro b hb rfl; have := e5 _ hb; omega), ?_⟩ (by omega) (by omega) (by omega) (by omega)
      ·exact v1.own (by omega)
      ·exact v2.own (by omega)
      ·exact v3.put
      ·refine (hO.slv' hs (fun a e hb => (hd a.block ⟨a, e, rfl⟩).1 hb)).own (.inr fun a e hb => ?_)
       have := (hsb a.block ⟨a, e, rfl⟩).1; omega
      ·intro b hb
       refine ⟨fun h4 => ?_, by have := (hd b hb).2; show b < t8.y; omega⟩
       rcases g4 b h4 with h5 | h5
       ·exact (hd b hb).1 h5
       ·have := (hd b hb).2; have := n16.nx; omega
      ·intro j x hj hxj
       rw [← ht9]
       have fromOld : ∀ b, b < τ.y → (AtP p8 b ∨ b ≤ B + 2) → (AtP qs b ∨ b ≤ B + 2) := by
        rintro b hb (h4 | h4)
        ·rcases g4 b h4 with h5 | h5
         ·exact .inl h5
         ·have := n16.nx; omega
        ·exact .inr h4
       have k9' : Only (fun b => AtP p8 b ∨ b ≤ B + 2) t8 t9 := k9.mono (fun _ _ e => .inr (by omega))
       by_cases hji : j < i
       ·obtain ⟨v, hv, hdo⟩ := hrow j x hji hxj
        refine ⟨v, by rw [List.getElem?_append_left (by omega)]; exact hv, ?_⟩
        have h8 : zVX t8 (fun b => AtP p8 b ∨ b ≤ B + 2) v x := hdo.only hOx fromOld
        exact h8.only k9' (fun _ _ e => e)
       ·have : j = i := by omega
        subst this
        rw [hx] at hxj
        cases hxj
        refine ⟨_, by rw [List.getElem?_append_right (by omega), hvl, Nat.sub_self]; rfl, ?_⟩
        have hnew : ∀ b, τ.y ≤ b → b < t6.y → ¬ (AtP p8 b ∨ b ≤ B + 2) := by
         rintro b h1 h2 (h4 | h4)
         ·rcases g4 b h4 with h5 | h5
          ·have := (hg.bd h5).2; omega
          ·omega
         ·omega
        have hqs : ∀ b, τ.y ≤ b → ¬ AtP qs b := fun b h1 h5 => by have := (hg.bd h5).2; omega
        have tr : Only (AtP qs) t6 t8 := (Only.row t6 _ 6 : Only (AtP qs) t6 _).trans g3 (fun _ _ x => x) (by intro m' h1 h2 b h3 h4; have := hg.bd h4; exact h2 b (by have := n16.nx; omega) h4)
        have b1 : ∀ b, AtP q1 b → τ.y ≤ b ∧ b < t6.y := fun b hb => ⟨by have := f2 b hb; omega, by obtain ⟨a, e, rfl⟩ := hb; exact vN J2 a e⟩
        have b3 : ∀ b, AtP q3 b → τ.y ≤ b ∧ b < t6.y := fun b hb => ⟨by have := f4 b hb; omega, by obtain ⟨a, e, rfl⟩ := hb; exact vN J4 a e⟩
        have b5 : ∀ b, AtP q5 b → τ.y ≤ b ∧ b < t6.y := fun b hb => ⟨by have := f6 b hb; omega, by obtain ⟨a, e, rfl⟩ := hb; exact vN i6 a e⟩
        have h8 : zVX t8 (fun b => AtP p8 b ∨ b ≤ B + 2) (.agg ⟨zG q1 l' d1 q3 n' d3 q5 j' d5 (drv w j).off (drv w j).row (drv w j).used⟩) (drv w j) := by
         refine ⟨q1, l', d1, q3, n', d3, q5, j', d5, rfl, tr.slv' J2 (fun a e => hqs _ (b1 _ ⟨a, e, rfl⟩).1), tr.slv' J4 (fun a e => hqs _ (b3 _ ⟨a, e, rfl⟩).1), tr.slv' i6 (fun a e => hqs _ (b5 _ ⟨a, e, rfl⟩).1), ?_⟩
         rintro b (hb | hb | hb)
         ·exact hnew b (b1 b hb).1 (b1 b hb).2
         ·exact hnew b (b3 b hb).1 (b3 b hb).2
         ·exact hnew b (b5 b hb).1 (b5 b hb).2
        exact h8.only k9' (fun _ _ e => e)
     exact fin
    ·have : i = m := by omega
     subst this
     exact xCV (w1.ld rfl zHK (k := 2) rfl) ⟨hN, qs, ds, w2, w3, hs, fun b hb => (hsb b hb).1, ⟨vs, hg.slv, fun j x hx => by
      obtain ⟨v, h1, h2⟩ := hrow j x (by have := (List.getElem?_eq_some_iff.1 hx).1; omega) hx
      exact ⟨v, h1, h2.only (Only.refl _ _) (fun b _ e => .inr e)⟩⟩, fun b hb => (hg.bd hb).1⟩ (by omega)
   ·rintro τ ⟨hN, qs, ds, w2, w3, hs, e1, ⟨vs, hv, hrow⟩, e2⟩
    have hlt3 := w3.lt
    have k9 : Only (fun b => b = B + 1) τ (τ.own (B + 1) (wkc w.M ps l cs qs m ds w.rest w.run w.j) 6) := Only.own (.inr rfl)
    refine yOS (w3.ldN zCH vO (k := 0) rfl rfl (by simp)) (w2.store (vs := wkc w.M ps l cs qs m ds w.rest w.run w.j) (ds := wkc w.M ps l cs qs m ds w.rest w.run w.j) rfl vO rfl (by simp) rfl) (w2.put.rw.ldN zCH vO (k := 0) rfl rfl (by simp)) ⟨hN.own (by omega), ps, cs, qs, ds, rfl, ?_, ?_⟩
    ·exact hs.own (.inr fun a e hb => by have := e1 a.block ⟨a, e, rfl⟩; omega)
    ·refine ⟨vs, hv.own (.inr fun a e hb => by have := e2 a.block ⟨a, e, rfl⟩; omega), by omega, fun i x hx => ?_⟩
     obtain ⟨v, h1, h2⟩ := hrow i x hx
     exact ⟨v, h1, (h2.only (k9.mono (T := (· ≤ B + 2)) (fun _ _ e => by omega)) (fun _ _ e => e)).v⟩
 obtain ⟨v, σ', h1, h2, p', c', q', d', rfl, h3⟩ := zI.new (Q := fun v s => ∃ p' c' q' d', v = .agg ⟨wkc w.M p' l c' q' m d' w.rest w.run w.j⟩ ∧ WkP s 69 61 w p' l q' m) key (by rintro v s s' ⟨p', c', q', d', rfl, g⟩ hle; exact ⟨p', c', q', d', rfl, g.le hle⟩) (by
  rintro v s hv ⟨p', c', q', d', rfl, g⟩
  cases p' with
  | some a => exact Bool.noConfusion (show false = true from hv)
  | none => cases q' with
   | some a => exact Bool.noConfusion (show false = true from hv)
   | none =>
    obtain ⟨vs, g1, g2, g3⟩ := g.drv
    have hm0 : m = 0 := by
     have := g1.1.2
     have h2 := g1.1.1
     by_cases e : m = 0
     ·exact e
     ·obtain ⟨a, ea, _⟩ := g1.some (show 0 < m by omega)
      cases ea
    refine ⟨none, c', none, d', rfl, zFP g.dty, vs, zFP g1, g2, fun i x hx => ?_⟩
    have := (List.getElem?_eq_some_iff.1 hx).1
    omega)
 exact ⟨p', c', q', d', σ', h1, h2, h3⟩
end
section
variable {σ : St} {w : Wk} {p q : Option Addr} {l m c d : Nat}
theorem xDX {x : List Int} (hl : x.length = w.N.length) : Ros w (zT x) ↔ ∀ y ∈ x, -1 ≤ y ∧ y < (w.L.length : Int) := by
 constructor
 ·intro h y hy
  obtain ⟨i, hi, rfl⟩ := List.getElem_of_mem hy
  have := h.ros i (by omega)
  unfold zT at this
  rw [List.getD_eq_getElem?_getD, List.getElem?_eq_getElem hi] at this
  exact this
 ·intro h
  refine ⟨fun i hi => ?_⟩
  unfold zT
  rw [List.getD_eq_getElem?_getD, List.getElem?_eq_getElem (by omega : i < x.length)]
  exact h _ (List.getElem_mem _)
end
section
variable {σ z : St} {w : Wk} {p q r : Option Addr} {l m c d rl rc : Nat} {xs : List Int}
def yAL (w : Wk) : Bool := zFM w && decide (yY w = 0)
theorem xDZ (h : WkP z 35 70 w p l q m) : zD Try.prog 6 [.agg ⟨wkc w.M p l c q m d w.rest w.run w.j⟩] z (.bool (yAL w)) z := by
 have L1 := (le0 z).trans (Le.row z.re (wkc w.M p l c q m d w.rest w.run w.j) 6)
 have k1 := xIW (c := c) (d := d) (h.le L1)
 unfold yAL
 cases b0 : zFM w with
 | false =>
  rw [b0] at k1
  exact (yYJ k1 ⟨rfl, Nat.le_refl _⟩).pure
 | true =>
 rw [b0] at k1
 have k2 := yYO (c := c) (d := d) (h.le L1) (zRS b0).1
 by_cases hf : yY w = 0
 ·exact (yYL k1 k2 ⟨by rw [decide_eq_true hf]; rfl, Nat.le_refl _⟩ hf).pure
 ·exact (yYK k1 k2 ⟨by rw [decide_eq_false hf]; rfl, Nat.le_refl _⟩ hf).pure
end
theorem zSJ {ox oy : Operand} {t : TypeId} {a b : Int} (h : b ≠ 0) : wW Pg .rem t ox oy (iV a) (iV b) = some (iV (a.tmod b)) := by
 simp [wW, zBP, yBS, h]
abbrev zML (x : Int) : Value := .int .u8 x
section
variable {σ z : St} {w : Wk} {p q r pw : Option Addr} {l m c d rl rc lw cw : Nat} {xs ws : List Int}
theorem xGL (h : WkP z 35 70 w p l q m) (hw : SlV Pg z 5 1 pw lw (ws.map zML)) (hb : ∀ x ∈ ws, 0 ≤ x ∧ x ≤ 255) (hl : l ≤ 12) (hm6 : m ≤ 6) :
  ∃ out p' c' z', zD Pg 8 [.agg ⟨wkc w.M p l c q m d w.rest w.run w.j⟩, .slice pw lw cw] z (.slice p' l c') z' ∧ New z z' ∧ yP z' p' l out ∧ ∀ y ∈ out, -1 ≤ y ∧ y < (m : Int) := by
 obtain ⟨t1, ht1⟩ : ∃ t1, t1 = z.re.row (wkc w.M p l c q m d w.rest w.run w.j) 6 := ⟨_, rfl⟩
 have n1 : t1.y = z.y + 1 := by rw [ht1]; rfl
 have M1 : New z.re t1 := by rw [ht1]; exact New.row _ _ _
 have w1 : Row t1 ⟨z.y, 0, none⟩ (wkc w.M p l c q m d w.rest w.run w.j) := by rw [ht1]; exact xC z.re _ _
 suffices hmain : zI Pg 8 [.agg ⟨wkc w.M p l c q m d w.rest w.run w.j⟩, .slice pw lw cw] z.re fun v s => New z.re s ∧ ∃ out p' c', v = .slice p' l c' ∧ yP s p' l out ∧ ∀ y ∈ out, -1 ≤ y ∧ y < (m : Int) by
  obtain ⟨v, s, h1, h2, out, p', c', rfl, h3, h4⟩ := zI.new hmain (by
   rintro v s s' ⟨out, p', c', e, g1, g2⟩ hle
   exact ⟨out, p', c', e, SlV.le g1 hle, g2⟩) (by
   rintro v s hr ⟨out, p', c', rfl, g1, g2⟩
   cases p' with
   | some a => exact Bool.noConfusion (show false = true from hr)
   | none => exact ⟨out, none, c', rfl, zFP g1, g2⟩)
  exact ⟨out, p', c', s, h1, h2, h3, h4⟩
 let Jn : Nat → Option Addr → Nat → Nat → St → Prop := fun j p5 l5 c5 y => ∃ out : List Int, New z.re y ∧ Row y ⟨z.y, 0, none⟩ (wkc w.M p l c q m d w.rest w.run w.j) ∧ Ax y (z.y + 1) 1 p5 l5 c5 (out.map yO) ∧ l5 = j ∧ out.length = j ∧ ∀ y ∈ out, -1 ≤ y ∧ y < (m : Int)
 have hL : zVU pw lw cw z.y none 0 0 0 t1 (fun p5 l5 c5 y => Jn l p5 l5 c5 y) := by
  refine yIR (Inv := fun k p5 l5 c5 i y => ∃ j : Nat, i = (j : Int) ∧ j + k = l ∧ Jn j p5 l5 c5 y) ?_ l none 0 0 0 t1 ⟨0, rfl, by omega, [], M1, w1, Ax.nil, rfl, rfl, fun y hy => by cases hy⟩
  rintro k p5 l5 c5 i y ⟨j, rfl, hk, out, J1, J2, J3, rfl, J4, J5⟩
  have h1 : zB Pg y 22 ⟨z.y, 1, none⟩ = some (.slice p l c) := J2.ld zCA rfl
  have h2 : zB Pg y 23 ⟨z.y, 2, none⟩ = some (.slice q m d) := J2.ld zHK rfl
  by_cases hj : l5 < l
  rotate_left
  ·have : l5 = l := by omega
   subst this
   exact yWU h1 ⟨out, J1, J2, J3, rfl, J4, J5⟩ (by omega)
  have yn : z.y < y.y := J2.lt
  have step : ∀ x : Int, -1 ≤ x ∧ x < (m : Int) → ∃ p4 c4 s4, zZ Pg 29 29 (.slice p5 l5 c5) (.slice (some ⟨y.y, 0, none⟩) 1 1) (y.row [iV x] 1) = some (.slice p4 (l5 + 1) c4, s4) ∧ ∃ k', k' < k ∧ ∃ j' : Nat, (l5 : Int) + 1 = (j' : Int) ∧ j' + k' = l ∧ Jn j' p4 (l5 + 1) c4 s4 := fun x hx => by
   obtain ⟨t3, ht3⟩ : ∃ t3, t3 = y.row [iV x] 1 := ⟨_, rfl⟩
   have M3 : New y t3 := by rw [ht3]; exact New.row _ _ _
   have r3 : Row t3 ⟨y.y, 0, none⟩ [iV x] := by rw [ht3]; exact xC _ _ _
   have nx3 := M3.nx
   obtain ⟨p4, c4, s4, ap4, A4, O4, b4⟩ := Ax.append (P := Pg) (k := 1) (m := 1) (n0 := z.y + 1) zDO (J3.le M3.le) (r3.sl rfl) (by omega) rfl (by omega)
   have N4 : New z.re s4 := (J1.trans M3).of_only O4 (fun b hb => by have := (J3.bd b hb).1; show z.y ≤ b; omega)
   have w4 := O4.rw' (J2.le M3.le) (fun hb => by have hb : AtP p5 z.y := hb; have := (J3.bd _ hb).1; omega)
   rw [ht3] at ap4
   exact ⟨p4, c4, s4, ap4, k - 1, by omega, l5 + 1, by omega, by omega, out ++ [x], N4, w4, by rw [List.map_append]; exact A4, rfl, by simp [J4], fun y hy => by
    rcases List.mem_append.1 hy with hy | hy
    ·exact J5 y hy
    ·rw [List.mem_singleton.1 hy]; exact hx⟩
  by_cases g1 : 0 < lw
  rotate_left
  ·obtain ⟨p4, c4, s4, ap4, nx⟩ := step (-1) ⟨by omega, by omega⟩
   exact yWV h1 ap4 nx (by omega) (by omega) ⟨by omega, by omega⟩
  by_cases g2 : 0 < m
  rotate_left
  ·obtain ⟨p4, c4, s4, ap4, nx⟩ := step (-1) ⟨by omega, by omega⟩
   exact yWW h1 h2 ap4 nx (by omega) (by omega) (by omega) ⟨by omega, by omega⟩
  have hw1 : SlV Pg y 5 1 pw lw (ws.map zML) := SlV.le hw ((le0 z).trans J1.le)
  have hmod : l5 % lw < lw := Nat.mod_lt _ g1
  obtain ⟨aw, rfl, x, hx, ldx⟩ := wU (f := zML) hw1 hmod
  have hxb := hb x (List.mem_of_getElem? hx)
  have eT : (l5 : Int).tmod (lw : Int) = ((l5 % lw : Nat) : Int) := by rw [Int.tmod_eq_emod_of_nonneg (by omega)]; omega
  have rm1 : wW Pg .rem 3 (.tmp 25) (.tmp 27) (iV (l5 : Int)) (iV (lw : Int)) = some (iV ((l5 % lw : Nat) : Int)) := by rw [zSJ (by omega), eT]
  have rm2 : wW Pg .rem 3 (.tmp 31) (.tmp 35) (iV x) (iV ((m : Int) + 1)) = some (iV (x.tmod ((m : Int) + 1))) := zSJ (by omega)
  have e2 : x.tmod ((m : Int) + 1) = x % ((m : Int) + 1) := Int.tmod_eq_emod_of_nonneg (by omega)
  have e3 := Int.emod_nonneg x (show (m : Int) + 1 ≠ 0 by omega)
  have e4 := Int.emod_lt_of_pos x (show 0 < (m : Int) + 1 by omega)
  obtain ⟨p4, c4, s4, ap4, nx⟩ := step (x.tmod ((m : Int) + 1) - 1) ⟨by omega, by omega⟩
  exact yWX h1 h2 rm1 ldx rm2 ap4 nx (by omega) (by omega) (by omega) ⟨by omega, by omega⟩ ⟨by omega, by omega⟩ ⟨by omega, by omega⟩ ⟨by omega, by omega⟩ ⟨by omega, by omega⟩
 subst ht1
 refine xDM hL ?_
 rintro p5 l5 c5 y ⟨out, J1, J2, J3, rfl, J4, J5⟩
 exact yIQ ⟨J1, out, p5, c5, rfl, Ax.slv (by rw [zAD _ .i64]; exact J3) (by simp [J4]) (fun v hv => by obtain ⟨x, _, rfl⟩ := List.mem_map.1 hv; exact zDJ x), J5⟩
end
section
variable {σ z : St} {w : Wk} {p q r pw : Option Addr} {l m c d rl rc lw cw : Nat} {xs ws : List Int}
theorem xHJ (h : WkP σ 35 70 w p l q m) {i : Nat} (hi : i < l) : ∃ a, p = some a ∧ zB Pg σ 33 (zH a (Int.toNat (i : Int) * 5 + 2)) = some (.agg ⟨[iV (dty w i).lo, iV (dty w i).hi]⟩) := by
 have hd := h.dty
 have hln := h.len.1
 obtain ⟨a, rfl, hr⟩ := hd.some hi
 refine ⟨a, rfl, ?_⟩
 have hx : (w.N.map vC)[i]? = some (vC (dty w i)) := by
  rw [List.getElem?_map]
  unfold dty
  rw [List.getD_eq_getElem?_getD, List.getElem?_eq_getElem (by omega : i < w.N.length)]; rfl
 obtain ⟨g1, g2⟩ := zUM hd.2.2 hx
 rw [Int.toNat_natCast]
 refine hr.loadN xKI yJQ ?_ rfl (by omega)
 have e : ((xS (w.N.map vC)).drop (i * 5 + 2)).take 2 = ((((xS (w.N.map vC)).drop (i * 5)).take 5).drop 2).take 2 := by
  rw [List.drop_take, List.drop_drop, List.take_take]; rfl
 rw [e, g1]; rfl
theorem xGJ (h : WkP z 35 70 w p l q m) (hs : Sane w l m) (hw : SlV Pg z 5 1 pw lw (ws.map zML)) (hb : ∀ x ∈ ws, 0 ≤ x ∧ x ≤ 255) (hl : l ≤ 12) :
  ∃ out p' c' z', zD Pg 9 [.agg ⟨wkc w.M p l c q m d w.rest w.run w.j⟩, .slice pw lw cw] z (.slice p' l c') z' ∧ New z z' ∧ Ax z' (z.y + 1) 1 p' l c' (out.map yO) ∧ out.length = l ∧ ∀ i, i < l → (dty w i).lo ≤ zT out i ∧ zT out i ≤ (dty w i).hi := by
 obtain ⟨t1, ht1⟩ : ∃ t1, t1 = z.re.row (wkc w.M p l c q m d w.rest w.run w.j) 6 := ⟨_, rfl⟩
 have n1 : t1.y = z.y + 1 := by rw [ht1]; rfl
 have M1 : New z.re t1 := by rw [ht1]; exact New.row _ _ _
 have w1 : Row t1 ⟨z.y, 0, none⟩ (wkc w.M p l c q m d w.rest w.run w.j) := by rw [ht1]; exact xC z.re _ _
 suffices hmain : zI Pg 9 [.agg ⟨wkc w.M p l c q m d w.rest w.run w.j⟩, .slice pw lw cw] z.re fun v s => New z.re s ∧ ∃ out p' c', v = .slice p' l c' ∧ Ax s (z.y + 1) 1 p' l c' (out.map yO) ∧ out.length = l ∧ ∀ i, i < l → (dty w i).lo ≤ zT out i ∧ zT out i ≤ (dty w i).hi by
  obtain ⟨v, s, h1, h2, out, p', c', rfl, h3, h4⟩ := zI.new hmain (by
   rintro v s s' ⟨out, p', c', e, g1, g2⟩ hle
   exact ⟨out, p', c', e, g1.le hle, g2⟩) (by
   rintro v s hr ⟨out, p', c', rfl, g1, g2⟩
   cases p' with
   | some a => exact Bool.noConfusion (show false = true from hr)
   | none =>
    rcases g1 with g1 | ⟨b, e, _⟩
    ·refine ⟨out, none, c', rfl, ?_, g2⟩
     have hc : out.map yO = [] ∧ l = 0 ∧ c' = 0 := by
      generalize out.map yO = cs at g1 ⊢
      cases g1
      exact ⟨rfl, rfl, rfl⟩
     rw [hc.1, hc.2.1, hc.2.2]
     exact .inl .nil
    ·cases e)
  exact ⟨out, p', c', s, h1, h2, h3, h4⟩
 let Jn : Nat → Option Addr → Nat → Nat → St → Prop := fun j p5 l5 c5 y => ∃ out : List Int, New z.re y ∧ Row y ⟨z.y, 0, none⟩ (wkc w.M p l c q m d w.rest w.run w.j) ∧ Ax y (z.y + 1) 1 p5 l5 c5 (out.map yO) ∧ l5 = j ∧ out.length = j ∧ ∀ i, i < j → (dty w i).lo ≤ zT out i ∧ zT out i ≤ (dty w i).hi
 have hL : zVQ pw lw cw z.y none 0 0 0 t1 (fun p5 l5 c5 y => Jn l p5 l5 c5 y) := by
  refine yIL (Inv := fun k p5 l5 c5 i y => ∃ j : Nat, i = (j : Int) ∧ j + k = l ∧ Jn j p5 l5 c5 y) ?_ l none 0 0 0 t1 ⟨0, rfl, by omega, [], M1, w1, Ax.nil, rfl, rfl, fun y hy => by omega⟩
  rintro k p5 l5 c5 i y ⟨j, rfl, hk, out, J1, J2, J3, rfl, J4, J5⟩
  have h1 : zB Pg y 22 ⟨z.y, 1, none⟩ = some (.slice p l c) := J2.ld zCA rfl
  by_cases hj : l5 < l
  rotate_left
  ·have : l5 = l := by omega
   subst this
   exact yWQ h1 ⟨out, J1, J2, J3, rfl, J4, J5⟩ (by omega)
  have yn : z.y < y.y := J2.lt
  have hy := h.le ((le0 z).trans J1.le)
  obtain ⟨pa, rfl, lo⟩ := xHJ hy hj
  have hd := hs.duty l5 (by omega)
  have step : ∀ x : Int, (dty w l5).lo ≤ x ∧ x ≤ (dty w l5).hi → ∃ p4 c4 s4, zZ Pg 29 29 (.slice p5 l5 c5) (.slice (some ⟨y.y + 1, 0, none⟩) 1 1) (((y.row [iV 0, iV 0] 2).own y.y [iV (dty w l5).lo, iV (dty w l5).hi] 2).row [iV x] 1) = some (.slice p4 (l5 + 1) c4, s4) ∧ ∃ k', k' < k ∧ ∃ j' : Nat, (l5 : Int) + 1 = (j' : Int) ∧ j' + k' = l ∧ Jn j' p4 (l5 + 1) c4 s4 := fun x hx => by
   obtain ⟨t2, ht2⟩ : ∃ t2, t2 = (y.row [iV 0, iV 0] 2).own y.y [iV (dty w l5).lo, iV (dty w l5).hi] 2 := ⟨_, rfl⟩
   have n2 : t2.y = y.y + 1 := by rw [ht2]; rfl
   have M2 : New y t2 := by rw [ht2]; exact (New.row _ _ _).own (Nat.le_refl _)
   obtain ⟨t3, ht3⟩ : ∃ t3, t3 = t2.row [iV x] 1 := ⟨_, rfl⟩
   have M3 : New y t3 := by rw [ht3]; exact M2.row'
   have r3 : Row t3 ⟨y.y + 1, 0, none⟩ [iV x] := by rw [ht3, ← n2]; exact xC _ _ _
   have nx3 := M3.nx
   obtain ⟨p4, c4, s4, ap4, A4, O4, b4⟩ := Ax.append (P := Pg) (k := 1) (m := 1) (n0 := z.y + 1) zDO (J3.le M3.le) (r3.sl rfl) (by omega) rfl (by omega)
   have N4 : New z.re s4 := (J1.trans M3).of_only O4 (fun b hb => by have := (J3.bd b hb).1; show z.y ≤ b; omega)
   have w4 := O4.rw' (J2.le M3.le) (fun hb => by have hb : AtP p5 z.y := hb; have := (J3.bd _ hb).1; omega)
   rw [ht3, ht2] at ap4
   exact ⟨p4, c4, s4, ap4, k - 1, by omega, l5 + 1, by omega, by omega, out ++ [x], N4, w4, by rw [List.map_append]; exact A4, rfl, by simp [J4], fun i hi => by
    unfold zT
    rw [List.getD_eq_getElem?_getD]
    by_cases e : i < l5
    ·rw [List.getElem?_append_left (by omega), ← List.getD_eq_getElem?_getD]; exact J5 i e
    ·have : i = l5 := by omega
     subst this
     rw [List.getElem?_append_right (by omega), J4, Nat.sub_self]; exact hx⟩
  by_cases g1 : 0 < lw
  rotate_left
  ·obtain ⟨p4, c4, s4, ap4, nx⟩ := step (dty w l5).hi ⟨by omega, by omega⟩
   exact yWR h1 lo ap4 nx (by omega) ⟨by omega, by omega⟩ (by omega) ⟨by omega, by omega⟩
  have hw1 : SlV Pg y 5 1 pw lw (ws.map zML) := SlV.le hw ((le0 z).trans J1.le)
  have hmod : l5 % lw < lw := Nat.mod_lt _ g1
  have hw2 : SlV Pg ((y.row [iV 0, iV 0] 2).own y.y [iV (dty w l5).lo, iV (dty w l5).hi] 2) 5 1 pw lw (ws.map zML) := SlV.le hw1 ((New.row _ _ _).own (b := y.y) (Nat.le_refl _)).le
  obtain ⟨aw, rfl, x, hx, ldx⟩ := wU (f := zML) hw2 hmod
  have hxb := hb x (List.mem_of_getElem? hx)
  have eT : (l5 : Int).tmod (lw : Int) = ((l5 % lw : Nat) : Int) := by rw [Int.tmod_eq_emod_of_nonneg (by omega)]; omega
  have rm1 : wW Pg .rem 3 (.tmp 30) (.tmp 32) (iV (l5 : Int)) (iV (lw : Int)) = some (iV ((l5 % lw : Nat) : Int)) := by rw [zSJ (by omega), eT]
  have rm2 : wW Pg .rem 3 (.tmp 36) (.tmp 42) (iV x) (iV ((dty w l5).hi - (dty w l5).lo + 1)) = some (iV (x.tmod ((dty w l5).hi - (dty w l5).lo + 1))) := zSJ (by omega)
  have e2 : x.tmod ((dty w l5).hi - (dty w l5).lo + 1) = x % ((dty w l5).hi - (dty w l5).lo + 1) := Int.tmod_eq_emod_of_nonneg (by omega)
  have e3 := Int.emod_nonneg x (show (dty w l5).hi - (dty w l5).lo + 1 ≠ 0 by omega)
  have e4 := Int.emod_lt_of_pos x (show 0 < (dty w l5).hi - (dty w l5).lo + 1 by omega)
  obtain ⟨p4, c4, s4, ap4, nx⟩ := step ((dty w l5).lo + x.tmod ((dty w l5).hi - (dty w l5).lo + 1)) ⟨by omega, by omega⟩
  exact yWS h1 lo rm1 ldx rm2 ap4 nx (by omega) ⟨by omega, by omega⟩ (by omega) ⟨by omega, by omega⟩ ⟨by omega, by omega⟩ ⟨by omega, by omega⟩ ⟨by omega, by omega⟩ ⟨by omega, by omega⟩ ⟨by omega, by omega⟩
 subst ht1
 refine xDC hL ?_
 rintro p5 l5 c5 y ⟨out, J1, J2, J3, rfl, J4, J5⟩
 exact yIK ⟨J1, out, p5, c5, rfl, J3, J4, J5⟩
end
section
variable {a_0 b:Option Addr} {bf bj b_l b_c:Nat} {Inv:Nat→Int→St→Prop} {Q0 P0:St→Prop} {Qr Q2 P2 Pr:Bool→St→Prop} {bT dI nM nR nS nN nG nH:Int} {σ:St} {Nx:Bool→Int→St→Prop} {a_0_a b_a:Addr} {eh:Bool} {Q:Value→St→Prop}
noncomputable def zVK:Code:=(Code.part [1,0,1,0,0] (zO Pg 14))
def zHI (a_0:Option Addr) (bf bj:Nat) (b:Option Addr) (b_l b_c:Nat) (bT:Int):List (Nat × Value):=[(0,.slice a_0 bf bj),(1,.slice b b_l b_c),(5,iV bT)]
def zZO (a_0:Option Addr) (bf bj:Nat) (b:Option Addr) (b_l b_c:Nat) (Q:Int→St→Prop):Alt:=⟨Int,.normal,fun t=>zHI a_0 bf bj b b_l b_c t,fun t=>[],fun t σ=>Q t σ⟩
def zVJ (a_0:Option Addr) (bf bj:Nat) (b:Option Addr) (b_l b_c:Nat):List (Nat × Value):=[]
def zEV (a_0:Option Addr) (bf bj:Nat) (b:Option Addr) (b_l b_c:Nat) (Q:St→Prop):Alt:=⟨Unit,(.exit 0),fun t=>zVJ a_0 bf bj b b_l b_c,fun t=>[],fun t σ=>Q σ⟩
def zVI (a_0:Option Addr) (bf bj:Nat) (b:Option Addr) (b_l b_c:Nat) (t4_1:Bool):List (Nat × Value):=[(4,.bool t4_1)]
def zEU (a_0:Option Addr) (bf bj:Nat) (b:Option Addr) (b_l b_c:Nat) (Q:Bool→St→Prop):Alt:=⟨Bool,.ret,fun t=>zVI a_0 bf bj b b_l b_c t,fun t=>[],fun t σ=>Q t σ⟩
def zVN (a_0:Option Addr) (bf bj:Nat) (b:Option Addr) (b_l b_c:Nat) (bT:Int) (σ:St) (Nx:Int→St→Prop) (Q0:St→Prop) (Qr:Bool→St→Prop):Prop:=yJ Pg (zS Pg) none zVK 34 (zHI a_0 bf bj b b_l b_c bT) [] [zZO a_0 bf bj b b_l b_c Nx,zEV a_0 bf bj b b_l b_c Q0,zEU a_0 bf bj b b_l b_c Qr] σ
def yIE (a_0:Option Addr) (bf bj:Nat) (b:Option Addr) (b_l b_c:Nat) (bT:Int) (σ:St) (Q0:St→Prop) (Qr:Bool→St→Prop):Prop:=yR Pg (zS Pg) none zVK 34 (zHI a_0 bf bj b b_l b_c bT) [] [zEV a_0 bf bj b b_l b_c Q0,zEU a_0 bf bj b b_l b_c Qr] σ
theorem yIB (hb:∀ k bT σ,Inv k bT σ→zVN a_0 bf bj b b_l b_c bT σ (NX1 Inv k) Q0 Qr):∀ k bT σ,Inv k bT σ→yIE a_0 bf bj b b_l b_c bT σ Q0 Qr :=
 yV (ai (wA 0) (ai zAQ trivial)) hb
noncomputable def yIC:Code:=(Code.part [1,0,1,0,0,1,0,0,1,0,1,0,0] (zO Pg 14))
def zHH (a_0:Option Addr) (bf bj:Nat) (b:Option Addr) (b_l b_c:Nat) (bT:Int) (eh:Bool) (dI:Int):List (Nat × Value):=[(0,.slice a_0 bf bj),(1,.slice b b_l b_c),(5,iV bT),(6,.bool eh),(7,iV dI)]
def yWO (a_0:Option Addr) (bf bj:Nat) (b:Option Addr) (b_l b_c:Nat) (bT:Int) (Q:Bool→Int→St→Prop):Alt:=⟨Bool × Int,.normal,fun t=>zHH a_0 bf bj b b_l b_c bT t.1 t.2,fun t=>[],fun t σ=>Q t.1 t.2 σ⟩
def zVH (a_0:Option Addr) (bf bj:Nat) (b:Option Addr) (b_l b_c:Nat) (bT:Int) (eh:Bool):List (Nat × Value):=[(0,.slice a_0 bf bj),(1,.slice b b_l b_c),(5,iV bT),(6,.bool eh)]
def zKW (a_0:Option Addr) (bf bj:Nat) (b:Option Addr) (b_l b_c:Nat) (bT:Int) (Q:Bool→St→Prop):Alt:=⟨Bool,(.exit 2),fun t=>zVH a_0 bf bj b b_l b_c bT t,fun t=>[],fun t σ=>Q t σ⟩
def zHJ (a_0:Option Addr) (bf bj:Nat) (b:Option Addr) (b_l b_c:Nat) (bT:Int) (eh:Bool) (dI:Int) (σ:St) (Nx:Bool→Int→St→Prop) (Q2:Bool→St→Prop):Prop:=yJ Pg (zS Pg) none yIC 34 (zHH a_0 bf bj b b_l b_c bT eh dI) [] [yWO a_0 bf bj b b_l b_c bT Nx,zKW a_0 bf bj b b_l b_c bT Q2] σ
def yID (a_0:Option Addr) (bf bj:Nat) (b:Option Addr) (b_l b_c:Nat) (bT:Int) (eh:Bool) (dI:Int) (σ:St) (Q2:Bool→St→Prop):Prop:=yR Pg (zS Pg) none yIC 34 (zHH a_0 bf bj b b_l b_c bT eh dI) [] [zKW a_0 bf bj b b_l b_c bT Q2] σ
theorem yIA {Inv:Nat→Bool→Int→St→Prop} (hb:∀ k eh dI σ,Inv k eh dI σ→zHJ a_0 bf bj b b_l b_c bT eh dI σ (NX2 Inv k) Q2):∀ k eh dI σ,Inv k eh dI σ→yID a_0 bf bj b b_l b_c bT eh dI σ Q2 :=
 zNL (ai (wA 2) trivial) hb
theorem yWL (nx:Nx true (dI+1) σ) (u1:dI<((b_l:Nat):Int):=by omega) (u2:I6 (dI+1):=by omega):zHJ a_0 bf bj b b_l b_c bT true dI σ Nx Q2 :=
 kO 0 (true,dI+1) [.g,.g,.g,.b true,.g,.g,.g,.g,.g,.n (dI+1),.g] (fun _ f=>(an2 (zJ u1) (w64 u2) f)) nx
theorem yWK (h1:zB Pg σ 47 (zH a_0_a (Int.toNat bT*3))=some (.agg ⟨rcd nM nR nS⟩)) (h2:zB Pg σ 47 (zH b_a (Int.toNat dI*3))=some (.agg ⟨rcd nN nG nH⟩)) (h3:wW Pg .eql 47 (.tmp 25) (.tmp 29) (.agg ⟨rcd nM nR nS⟩) (.agg ⟨rcd nN nG nH⟩)=some (.bool true)) (nx:Nx true (dI+1) σ) (u1:dI<((b_l:Nat):Int):=by omega) (u2:Ix bT bf:=by omega) (u3:Ix dI b_l:=by omega) (u4:I6 (dI+1):=by omega):zHJ (some a_0_a) bf bj (some b_a) b_l b_c bT false dI σ Nx Q2 :=
 kO 0 (true,dI+1) [.g,.g,.g,.b true,.g,.g,.g,.g,.i,.l (.agg ⟨rcd nM nR nS⟩),.g,.g,.i,.l (.agg ⟨rcd nN nG nH⟩),.v (.bool true),.g,.g,.g,.n (dI+1),.g] (fun _ f=>(ai (zJ u1) (an6 u2 h1 u3 h2 h3 (w64 u4) f))) nx
theorem yWJ (h1:zB Pg σ 47 (zH a_0_a (Int.toNat bT*3))=some (.agg ⟨rcd nM nR nS⟩)) (h2:zB Pg σ 47 (zH b_a (Int.toNat dI*3))=some (.agg ⟨rcd nN nG nH⟩)) (h3:wW Pg .eql 47 (.tmp 25) (.tmp 29) (.agg ⟨rcd nM nR nS⟩) (.agg ⟨rcd nN nG nH⟩)=some (.bool false)) (nx:Nx false (dI+1) σ) (u1:dI<((b_l:Nat):Int):=by omega) (u2:Ix bT bf:=by omega) (u3:Ix dI b_l:=by omega) (u4:I6 (dI+1):=by omega):zHJ (some a_0_a) bf bj (some b_a) b_l b_c bT false dI σ Nx Q2 :=
 kO 0 (false,dI+1) [.g,.g,.g,.b true,.g,.g,.g,.g,.i,.l (.agg ⟨rcd nM nR nS⟩),.g,.g,.i,.l (.agg ⟨rcd nN nG nH⟩),.v (.bool false),.g,.g,.g,.n (dI+1),.g] (fun _ f=>(ai (zJ u1) (an6 u2 h1 u3 h2 h3 (w64 u4) f))) nx
theorem yWI (nx:Q2 eh σ) (u1:¬ dI<((b_l:Nat):Int):=by omega):zHJ a_0 bf bj b b_l b_c bT eh dI σ Nx Q2 :=
 kO 1 eh [.g,.g,.g,.b false] (fun _ f=>(ai (zM u1) f)) nx
def zVL (a_0:Option Addr) (bf bj:Nat) (b:Option Addr) (b_l b_c:Nat) (bT:Int) (eh:Bool) (σ:St) (Nx:Int→St→Prop) (Q0:St→Prop) (Qr:Bool→St→Prop):Prop:=∀ g:Nat→Value,∃ an,Hid (kAt Pg (zS Pg) none zVK [1,0,0,1,0,1,0] (zDP 34 [zZO a_0 bf bj b b_l b_c Nx,zEV a_0 bf bj b b_l b_c Q0,zEU a_0 bf bj b b_l b_c Qr]) (.exit 2) ⟨Fm 34 (ov (zVH a_0 bf bj b b_l b_c bT eh) g),[]⟩ σ an)
theorem yWN {Nx:Int→St→Prop} (hL:yID a_0 bf bj b b_l b_c bT false 0 σ P2) (k2:∀ t6_2' σ',P2 t6_2' σ'→zVL a_0 bf bj b b_l b_c bT t6_2' σ' Nx Q0 Qr) (u1:bT<((bf:Nat):Int):=by omega):zVN a_0 bf bj b b_l b_c bT σ Nx Q0 Qr :=
 zBG [.g,.g,.g,.b true,.g,.g,.lf 34 (zHH a_0 bf bj b b_l b_c bT false 0) [zKW a_0 bf bj b b_l b_c bT P2]] (fun g=>kd (ai (zJ u1) (ai (ai tt (ai (arf (zHH a_0 bf bj b b_l b_c bT false 0)) hL)) (ai (kz1 k2) trivial))))
theorem yWM {Nx:Int→St→Prop} (nx:Q0 σ) (u1:¬ bT<((bf:Nat):Int):=by omega):zVN a_0 bf bj b b_l b_c bT σ Nx Q0 Qr :=
 kO 1 () [.g,.g,.g,.b false] (fun _ f=>(ai (zM u1) f)) nx
theorem yHY {Nx:Int→St→Prop} (nx:Nx (bT+1) σ) (u1:I6 (bT+1):=by omega):zVL a_0 bf bj b b_l b_c bT true σ Nx Q0 Qr :=
 sF 0 (bT+1) [.g,.g,.g,.n (bT+1),.g] (fun _ f=>(ai (w64 u1) f)) nx
def zVM (a_0:Option Addr) (bf bj:Nat) (b:Option Addr) (b_l b_c:Nat) (σ:St) (Q:Value→St→Prop):Prop:=∀ g:Nat→Value,∃ an,Hid (kAt Pg (zS Pg) none (zO Pg 14) [1,0,1,0] (kFn Pg 14 Q) (.exit 0) ⟨Fm 34 (ov (zVJ a_0 bf bj b b_l b_c) g),[]⟩ σ an)
def yOQ (a_0:Option Addr) (bf bj:Nat) (b:Option Addr) (b_l b_c:Nat) (t4_1:Bool) (σ:St) (Q:Value→St→Prop):Prop:=∀ g:Nat→Value,∃ an,Hid (kAt Pg (zS Pg) none (zO Pg 14) [1,0,1,0] (kFn Pg 14 Q) .ret ⟨Fm 34 (ov (zVI a_0 bf bj b b_l b_c t4_1) g),[]⟩ σ an)
theorem xCM (hL:yIE a_0 bf bj b b_l b_c 0 σ P0 Pr) (k0:∀ σ',P0 σ'→zVM a_0 bf bj b b_l b_c σ' Q) (kr:∀ t4_1' σ',Pr t4_1' σ'→yOQ a_0 bf bj b b_l b_c t4_1' σ' Q):zI Pg 14 [.slice a_0 bf bj,.slice b b_l b_c] σ Q :=
 zF [.g,.g,.lf 34 (zHI a_0 bf bj b b_l b_c 0) [zEV a_0 bf bj b b_l b_c P0,zEU a_0 bf bj b b_l b_c Pr]] (kd (ai (ai tt (ai (arf (zHI a_0 bf bj b b_l b_c 0)) hL)) (ai (kz0 k0) (ai (kz1 kr) trivial))))
theorem yHZ (nx:Q (.bool true) σ):zVM a_0 bf bj b b_l b_c σ Q :=
 sK [.g] nx
end
section
variable {P : Program}
theorem yYS {t d : Nat} {f1 f2 f3 : Field} (hu : P.underlying t = some (.struct #[f1, f2, f3])) (hh : P.stoodInHeld t = false) (n1 : f1.name ≠ "_") (n2 : f2.name ≠ "_") (n3 : f3.name ≠ "_") {xs ys : Array Value} {a1 b1 a2 b2 a3 b3 : Value} {r1 r2 r3 : Bool}
  (h1 : zY P (part f1.type xs f1.offset) = some a1) (h2 : zY P (part f1.type ys f1.offset) = some b1) (e1 : zY P (Op.equalIn d f1.type a1 b1) = some r1)
  (h3 : zY P (part f2.type xs f2.offset) = some a2) (h4 : zY P (part f2.type ys f2.offset) = some b2) (e2 : zY P (Op.equalIn d f2.type a2 b2) = some r2)
  (h5 : zY P (part f3.type xs f3.offset) = some a3) (h6 : zY P (part f3.type ys f3.offset) = some b3) (e3 : zY P (Op.equalIn d f3.type a3 b3) = some r3) :
  zY P (Op.equalIn (d + 1) t (.agg xs) (.agg ys)) = some (r1 && (r2 && r3)) := by
 unfold Op.equalIn
 rw [xN, yEO hu]
 simp only [Option.bind_some]
 rw [xN, yPS]
 simp only [Option.bind_some, hh, Bool.false_eq_true, if_false]
 rw [xN, ← Array.forIn_toList]
 show (zY P (forIn [f1, f2, f3] _ _)).bind _ = _
 rw [List.forIn_cons, xN]
 simp only [if_pos n1]
 rw [xN, h1]
 simp only [Option.bind_some]
 rw [xN, h2]
 simp only [Option.bind_some]
 rw [xN, e1]
 simp only [Option.bind_some]
 cases r1 with
 | false => rfl
 | true =>
  simp only [Bool.not_true, Bool.false_eq_true, if_false, yPR, Option.bind_some]
  rw [List.forIn_cons, xN]
  simp only [if_pos n2]
  rw [xN, h3]
  simp only [Option.bind_some]
  rw [xN, h4]
  simp only [Option.bind_some]
  rw [xN, e2]
  simp only [Option.bind_some]
  cases r2 with
  | false => rfl
  | true =>
   simp only [Bool.not_true, Bool.false_eq_true, if_false, yPR, Option.bind_some]
   rw [List.forIn_cons, xN]
   simp only [if_pos n3]
   rw [xN, h5]
   simp only [Option.bind_some]
   rw [xN, h6]
   simp only [Option.bind_some]
   rw [xN, e3]
   simp only [Option.bind_some]
   cases r3 <;> rfl
end
theorem xJR {k a b k' a' b' : Int} {o1 o2 : Operand} : wW Pg .eql 47 o1 o2 (.agg ⟨rcd k a b⟩) (.agg ⟨rcd k' a' b'⟩) = some (.bool ((k == k') && ((a == a') && (b == b')))) := by
 have e : wW Pg .eql 47 o1 o2 (.agg ⟨rcd k a b⟩) (.agg ⟨rcd k' a' b'⟩) = (zY Pg (do eqGuard .eql 47 o1 o2 (.agg ⟨rcd k a b⟩) (.agg ⟨rcd k' a' b'⟩); binOp .eql 47 (.agg ⟨rcd k a b⟩) (.agg ⟨rcd k' a' b'⟩))).filter (zQ RD) := by kernel_rfl
 have e1 : zY Pg (eqGuard .eql 47 o1 o2 (.agg ⟨rcd k a b⟩) (.agg ⟨rcd k' a' b'⟩)) = some () := by kernel_rfl
 have e2 : ∀ x y : List Value, binOp .eql 47 (.agg ⟨x⟩) (.agg ⟨y⟩) = (do let r ← Op.equal 47 (.agg ⟨x⟩) (.agg ⟨y⟩); pure (.bool r)) := fun _ _ => rfl
 have hu : ∃ f1 f2 f3 : Field, Pg.underlying 47 = some (.struct #[f1, f2, f3]) ∧ f1.type = 5 ∧ f1.offset = 0 ∧ f1.name ≠ "_" ∧ f2.type = 3 ∧ f2.offset = 1 ∧ f2.name ≠ "_" ∧ f3.type = 3 ∧ f3.offset = 2 ∧ f3.name ≠ "_" := ⟨_, _, _, Try.underlying47, rfl, rfl, by decide, rfl, rfl, by decide, rfl, rfl, by decide⟩
 obtain ⟨f1, f2, f3, hu, t1, s1, n1, t2, s2, n2, t3, s3, n3⟩ := hu
 have h : zY Pg (Op.equalIn 10000 47 (.agg ⟨rcd k a b⟩) (.agg ⟨rcd k' a' b'⟩)) = some ((k == k') && ((a == a') && (b == b'))) :=
  yYS (d := 9999) (a1 := .int .u8 k) (b1 := .int .u8 k') (a2 := iV a) (b2 := iV a') (a3 := iV b) (b3 := iV b') hu (by kernel_rfl) n1 n2 n3 (by rw [t1, s1]; show _ = _; kernel_rfl) (by rw [t1, s1]; show _ = _; kernel_rfl) (by rw [t1]; exact zEA (d := 9998) (k := .u8) (by kernel_rfl) _ _ _)
   (by rw [t2, s2]; show _ = _; kernel_rfl) (by rw [t2, s2]; show _ = _; kernel_rfl) (by rw [t2]; exact zEA (d := 9998) (k := .i64) (by kernel_rfl) _ _ _)
   (by rw [t3, s3]; show _ = _; kernel_rfl) (by rw [t3, s3]; show _ = _; kernel_rfl) (by rw [t3]; exact zEA (d := 9998) (k := .i64) (by kernel_rfl) _ _ _)
 have h : zY Pg (Op.equal 47 (.agg ⟨rcd k a b⟩) (.agg ⟨rcd k' a' b'⟩)) = some ((k == k') && ((a == a') && (b == b'))) := h
 rw [e, xN, e1]
 simp only [Option.bind_some]
 rw [e2, xN, h]
 rfl
section
variable {σ : St} {p q : Option Addr} {l m c d td : Nat} {A B : List Bch}
theorem xCH (h : SlV Pg σ 47 3 p l (A.map uK)) {i : Nat} (hi : i < l) : ∃ a, p = some a ∧ ∃ b, A[i]? = some b ∧ zB Pg σ 47 (zH a (Int.toNat (i : Int) * 3)) = some (uK b) := by
 obtain ⟨a, rfl, x, hx, hl⟩ := wU (f := uK) h hi
 exact ⟨a, rfl, x, hx, hl⟩
theorem yRH (h1 : SlV Pg σ 47 3 p l (A.map uK)) (h2 : SlV Pg σ 47 3 q m (B.map uK)) (hl : l ≤ 1073741824) (hm : m ≤ 1073741824) (hs : ∀ x ∈ A, x ∈ B) : zD Pg 14 [.slice p l c, .slice q m d] σ (.bool true) σ := by
 have g1 := h1.re
 have g2 := h2.re
 have eB : B.length = m := by have := g2.2.1; simpa using this
 refine (xCM (P0 := fun τ => τ = σ.re) (Pr := fun _ _ => False) (yIB (Inv := fun k i τ => τ = σ.re ∧ ∃ j : Nat, i = (j : Int) ∧ j + k = l) ?_ l 0 σ.re ⟨rfl, 0, rfl, by omega⟩) (fun τ h => yHZ ⟨rfl, by rw [h]; exact Nat.le_refl _⟩) (fun b τ h => h.elim)).pure
 rintro k i τ ⟨rfl, j, rfl, hk⟩
 by_cases hj : j < l
 rotate_left
 ·exact yWM rfl (by omega)
 obtain ⟨a, rfl, x, hx, ldx⟩ := xCH g1 hj
 have hxB := hs x (List.mem_of_getElem? hx)
 refine yWN (P2 := fun t τ => τ = σ.re ∧ t = true) (yIA (Inv := fun k t i τ => τ = σ.re ∧ ∃ s : Nat, i = (s : Int) ∧ s + k = m ∧ (t = true ∨ ∀ u y, u < s → B[u]? = some y → y ≠ x)) ?_ m false 0 σ.re ⟨rfl, 0, rfl, by omega, .inr fun u y hu => by omega⟩) ?_ (by omega)
 ·rintro k2 t i2 τ ⟨rfl, s, rfl, hk2, ht⟩
  by_cases hsm : s < m
  rotate_left
  ·refine yWI ⟨rfl, ?_⟩ (by omega)
   rcases ht with ht | ht
   ·exact ht
   ·obtain ⟨u, hu, he⟩ := List.getElem_of_mem hxB
    exact absurd he (ht u _ (by omega) (List.getElem?_eq_getElem hu))
  cases t with
  | true => exact yWL ⟨k2 - 1, by omega, rfl, s + 1, by omega, by omega, .inl rfl⟩ (by omega) ⟨by omega, by omega⟩
  | false =>
   obtain ⟨b, rfl, y, hy, ldy⟩ := xCH g2 hsm
   have ht : ∀ u y, u < s → B[u]? = some y → y ≠ x := by
    rcases ht with ht | ht
    ·cases ht
    ·exact ht
   have hq := xJR (k := (x.kind : Int)) (a := (x.drv : Int)) (b := (x.dut : Int)) (k' := (y.kind : Int)) (a' := (y.drv : Int)) (b' := (y.dut : Int)) (o1 := .tmp 25) (o2 := .tmp 29)
   by_cases e : y = x
   ·subst e
    simp only [beq_self_eq_true, Bool.and_self] at hq
    exact yWK ldx ldy hq ⟨k2 - 1, by omega, rfl, s + 1, by omega, by omega, .inl rfl⟩ (by omega) ⟨by omega, by omega⟩ ⟨by omega, by omega⟩ ⟨by omega, by omega⟩
   ·have hne : (((x.kind : Int) == (y.kind : Int)) && (((x.drv : Int) == (y.drv : Int)) && ((x.dut : Int) == (y.dut : Int)))) = false := by
     rw [← Bool.not_eq_true, Bool.and_eq_true, Bool.and_eq_true, beq_iff_eq, beq_iff_eq, beq_iff_eq]
     rintro ⟨h1, h2, h3⟩
     apply e
     cases x; cases y
     simp only [Bch.mk.injEq] at h1 h2 h3 ⊢
     omega
    rw [hne] at hq
    exact yWJ ldx ldy hq ⟨k2 - 1, by omega, rfl, s + 1, by omega, by omega, .inr fun u z hu hz => by
     by_cases eu : u = s
     ·subst eu; rw [hy] at hz; cases hz; exact e
     ·exact ht u z (by omega) hz⟩ (by omega) ⟨by omega, by omega⟩ ⟨by omega, by omega⟩ ⟨by omega, by omega⟩
 ·rintro t τ ⟨rfl, rfl⟩
  exact yHY ⟨k - 1, by omega, rfl, j + 1, by omega, by omega⟩ ⟨by omega, by omega⟩
end
section
variable {BA l3 c3 l6 c6 l8 c8 lG cG ac ad aa ab aU aY ends_l zUP lK cK lH cH bl bt lA cD lHB cEB lVB cRB lWB cSB lXB cTB dp dz lIB cFB:Nat} {n2 cl nE ak ar au am day bx nM nN nG nH nJ nBz nB0 nB1 cy nO nKB nZ nLB:Int} {q3 q6 q8 ah ag bu ends qH qE bp qBB qA qPB qQB qRB dv qCB:Option Addr} {Inv:Nat→(Option Addr)→Nat→Nat→Int→St→Prop} {Q0 P0:St→Prop} {bM q8_a qH_a qA_a qE_a:Addr} {σT σ σ4 σ7 σ9 σJ σAC σBC σCC σX σDC σEC σFC σGC:St} {Nx:(Option Addr)→Nat→Nat→Int→St→Prop} {cs5 cs1838 cs1839 cs1848 cs1849:List Value} {Q:Value→St→Prop} {Qr Pr:Bool→St→Prop} {Q2 P2 Q4 P4:(Option Addr)→Nat→Nat→St→Prop}
noncomputable def yGJ:Code:=(Code.part [1,1,1,1,1,0,1,0,0] (zO Pg 3))
def zGR (BA:Nat) (n2:Int) (q3:Option Addr) (l3 c3:Nat) (q6:Option Addr) (l6 c6:Nat) (q8:Option Addr) (l8 c8:Nat) (cl:Int):List (Nat × Value):=[(4,.pointer (some ⟨BA,0,none⟩)),(9,iV n2),(10,.slice q3 l3 c3),(11,.slice q6 l6 c6),(12,.slice q8 l8 c8),(13,iV cl)]
def yVA (BA:Nat) (n2:Int) (q3:Option Addr) (l3 c3:Nat) (q6:Option Addr) (l6 c6:Nat) (q8:Option Addr) (l8 c8:Nat) (Q:Int→St→Prop):Alt:=⟨Int,.normal,fun t=>zGR BA n2 q3 l3 c3 q6 l6 c6 q8 l8 c8 t,fun t=>[],fun t σ=>Q t σ⟩
def zTS (BA:Nat) (n2:Int) (q3:Option Addr) (l3 c3:Nat) (q6:Option Addr) (l6 c6:Nat) (q8:Option Addr) (l8 c8:Nat):List (Nat × Value):=[(4,.pointer (some ⟨BA,0,none⟩)),(9,iV n2),(10,.slice q3 l3 c3),(11,.slice q6 l6 c6),(12,.slice q8 l8 c8)]
def zKK (BA:Nat) (n2:Int) (q3:Option Addr) (l3 c3:Nat) (q6:Option Addr) (l6 c6:Nat) (q8:Option Addr) (l8 c8:Nat) (Q:St→Prop):Alt:=⟨Unit,(.exit 0),fun t=>zTS BA n2 q3 l3 c3 q6 l6 c6 q8 l8 c8,fun t=>[],fun t σ=>Q σ⟩
def zLV (BA:Nat) (n2:Int) (q3:Option Addr) (l3 c3:Nat) (q6:Option Addr) (l6 c6:Nat) (q8:Option Addr) (l8 c8:Nat) (cl:Int) (σ:St) (Nx:Int→St→Prop) (Q0:St→Prop):Prop:=yJ Pg (zDW Pg 7) none yGJ 170 (zGR BA n2 q3 l3 c3 q6 l6 c6 q8 l8 c8 cl) [] [yVA BA n2 q3 l3 c3 q6 l6 c6 q8 l8 c8 Nx,zKK BA n2 q3 l3 c3 q6 l6 c6 q8 l8 c8 Q0] σ
def zTV (BA:Nat) (n2:Int) (q3:Option Addr) (l3 c3:Nat) (q6:Option Addr) (l6 c6:Nat) (q8:Option Addr) (l8 c8:Nat) (cl:Int) (σ:St) (Q0:St→Prop):Prop:=yR Pg (zDW Pg 7) none yGJ 170 (zGR BA n2 q3 l3 c3 q6 l6 c6 q8 l8 c8 cl) [] [zKK BA n2 q3 l3 c3 q6 l6 c6 q8 l8 c8 Q0] σ
theorem zPS {Inv:Nat→Int→St→Prop} (hb:∀ k cl σ,Inv k cl σ→zLV BA n2 q3 l3 c3 q6 l6 c6 q8 l8 c8 cl σ (NX1 Inv k) Q0):∀ k cl σ,Inv k cl σ→zTV BA n2 q3 l3 c3 q6 l6 c6 q8 l8 c8 cl σ Q0 :=
 yV (ai (wA 0) trivial) hb
theorem yUX {Nx:Int→St→Prop} (h1:zB Pg σ 22 ⟨BA,1,none⟩=some (.slice (some bM) lG cG)) (h2:zB Pg σ 3 (zH bM ((Int.toNat cl*5)+0))=some (iV nE)) (h3:zL Pg (evL [.pointer (some (zH q8_a (Int.toNat cl*1))),iV (-1)]) σ (.store 3 (.tmp 0) (.tmp 1))=some (undef,σT)) (nx:Nx (cl+1) σT) (u1:cl<((l8:Nat):Int):=by omega) (u2:Ix cl lG:=by omega) (u3:n2<nE:=by omega) (u4:Ix cl l8:=by omega) (u5:I6 (cl+1):=by omega):zLV BA n2 q3 l3 c3 q6 l6 c6 (some q8_a) l8 c8 cl σ Nx Q0 :=
 kO 0 (cl+1) [.g,.g,.g,.b true,.g,.l (.slice (some bM) lG cG),.g,.i,.g,.l (iV nE),.g,.b true,.g,.g,.i,.e undef σT,.g,.n (cl+1),.g] (fun _ f=>(an2 (zJ u1) h1 (an6 u2 h2 (zJ u3) u4 h3 (w64 u5) f))) nx
theorem yUW {Nx:Int→St→Prop} (h1:zB Pg σ 22 ⟨BA,1,none⟩=some (.slice (some bM) lG cG)) (h2:zB Pg σ 3 (zH bM ((Int.toNat cl*5)+0))=some (iV nE)) (nx:Nx (cl+1) σ) (u1:cl<((l8:Nat):Int):=by omega) (u2:Ix cl lG:=by omega) (u3:¬ n2<nE:=by omega) (u4:I6 (cl+1):=by omega):zLV BA n2 q3 l3 c3 q6 l6 c6 q8 l8 c8 cl σ Nx Q0 :=
 kO 0 (cl+1) [.g,.g,.g,.b true,.g,.l (.slice (some bM) lG cG),.g,.i,.g,.l (iV nE),.g,.b false,.g,.n (cl+1),.g] (fun _ f=>(an6 (zJ u1) h1 u2 h2 (zM u3) (w64 u4) f)) nx
theorem zYA {Nx:Int→St→Prop} (nx:Q0 σ) (u1:¬ cl<((l8:Nat):Int):=by omega):zLV BA n2 q3 l3 c3 q6 l6 c6 q8 l8 c8 cl σ Nx Q0 :=
 kO 1 () [.g,.g,.g,.b false] (fun _ f=>(ai (zM u1) f)) nx
def zEJ (BA:Nat) (n2:Int) (q3:Option Addr) (l3 c3:Nat) (q6:Option Addr) (l6 c6:Nat) (q8:Option Addr) (l8 c8:Nat) (σ:St) (Q:Value→St→Prop):Prop:=∀ g:Nat→Value,∃ an,Hid (kAt Pg (zDW Pg 7) none (zO Pg 3) [1,1,1,1,1,0,1,0] (kFn Pg 3 Q) (.exit 0) ⟨Fm 170 (ov (zTS BA n2 q3 l3 c3 q6 l6 c6 q8 l8 c8) g),[]⟩ σ an)
theorem xAN (h1:zD Pg 6 [.agg ⟨wkc ak ah ac ad ag aa ab ar au am⟩] (σ.row (wkc ak ah ac ad ag aa ab ar au am) 6) (.bool true) (σ.row (wkc ak ah ac ad ag aa ab ar au am) 6)) (h2:wW Pg .rem 3 (.tmp 27) (.tmp 29) (iV day) (iV ak)=some (iV n2)) (h3:zD Pg 8 [.agg ⟨wkc ak ah ac ad ag aa ab ar au am⟩,.slice bu aU aY] (σ.row (wkc ak ah ac ad ag aa ab ar au am) 6) (.slice q3 l3 c3) σ4) (h4:zB Pg σ4 25 ⟨σ.y,0,none⟩=some (.agg ⟨cs5⟩)) (h5:zD Pg 9 [.agg ⟨cs5⟩,.slice ends ends_l zUP] σ4 (.slice q6 l6 c6) σ7) (h6:yA (σ.row (wkc ak ah ac ad ag aa ab ar au am) 6).y [.agg ⟨wkc ak ah ac ad ag aa ab ar au am⟩,.slice bu aU aY]) (h7:yA σ4.y [.pointer (some ⟨σ.y,0,none⟩)]) (h8:yA σ4.y [.agg ⟨cs5⟩,.slice ends ends_l zUP]) (h9:(((⟨σ.y,0,none⟩:Addr).block<(σ.row (wkc ak ah ac ad ag aa ab ar au am) 6).y∧yS RD (.agg ⟨cs5⟩)=true)∧zB Pg (σ.row (wkc ak ah ac ad ag aa ab ar au am) 6) 25 ⟨σ.y,0,none⟩=some (.agg ⟨cs5⟩))) (h10:(((⟨σ.y,0,none⟩:Addr).block<σ4.y∧yS RD (.agg ⟨cs5⟩)=true)∧zB Pg σ4 25 ⟨σ.y,0,none⟩=some (.agg ⟨cs5⟩))) (h11:zD Pg 10 [.slice q3 l3 c3] σ7 (.slice q8 l8 c8) σ9) (hL:zTV σ.y n2 q3 l3 c3 q6 l6 c6 q8 l8 c8 0 σ9 P0) (k0:∀ σ',P0 σ'→zEJ σ.y n2 q3 l3 c3 q6 l6 c6 q8 l8 c8 σ' Q) (u1:I6 day:=by omega):yOW Pg 7 3 [.agg ⟨wkc ak ah ac ad ag aa ab ar au am⟩,.slice bu aU aY,.slice ends ends_l zUP,.int .u8 day] σ Q :=
 let s1:=σ.row (wkc ak ah ac ad ag aa ab ar au am) 6;yPJ [.g,.g,.l (.agg ⟨wkc ak ah ac ad ag aa ab ar au am⟩),.c (.bool true) s1,.g,.g,.n day,.g,.l (iV ak),.v (iV n2),.g,.l (.agg ⟨wkc ak ah ac ad ag aa ab ar au am⟩),.g,.c (.slice q3 l3 c3) σ4,.l (.agg ⟨cs5⟩),.g,.c (.slice q6 l6 c6) σ7,.g,.g,.g,.c (.slice q8 l8 c8) σ9,.g,.g,.lf 170 (zGR σ.y n2 q3 l3 c3 q6 l6 c6 q8 l8 c8 0) [zKK σ.y n2 q3 l3 c3 q6 l6 c6 q8 l8 c8 P0]] (kc (by kernel_rfl) (an4 ((zC _ _ _).rw.ldN zJM zCK (k:=0) rfl rfl (nle rfl):zB Pg s1 25 ⟨σ.y,0,none⟩=some (.agg ⟨wkc ak ah ac ad ag aa ab ar au am⟩)) (zD.top (aw:=7) h1) (w64 u1) ((zC _ _ _).rw.ld zK (k:=0) rfl:zB Pg s1 3 ⟨σ.y,0,none⟩=some (iV ak)) (an6 h2 ((zC _ _ _).rw.ldN zJM zCK (k:=0) rfl rfl (nle rfl):zB Pg s1 25 ⟨σ.y,0,none⟩=some (.agg ⟨wkc ak ah ac ad ag aa ab ar au am⟩)) (zD.top (aw:=7) h3) h4 (zD.top (aw:=7) h5) ((zR (yG (nlt σ.y 0 1 rfl)) zV):yA s1.y [.pointer (some ⟨σ.y,0,none⟩)]) (an6 h6 h7 h8 h9 h10 (zD.top (aw:=7) h11) (ai (ai tt (ai (arf (zGR σ.y n2 q3 l3 c3 q6 l6 c6 q8 l8 c8 0)) hL)) (ai (fun (t:Unit) (g':Nat→Value) (σ':St) (q:P0 σ')=>k0 σ' q g') trivial))))))
theorem xAM (h1:zD Pg 6 [.agg ⟨wkc ak ah ac ad ag aa ab ar au am⟩] (σ.row (wkc ak ah ac ad ag aa ab ar au am) 6) (.bool false) (σ.row (wkc ak ah ac ad ag aa ab ar au am) 6)) (nx:Q (.bool true) (σ.row (wkc ak ah ac ad ag aa ab ar au am) 6)):yOW Pg 7 3 [.agg ⟨wkc ak ah ac ad ag aa ab ar au am⟩,.slice bu aU aY,.slice ends ends_l zUP,.int .u8 day] σ Q :=
 let s1:=σ.row (wkc ak ah ac ad ag aa ab ar au am) 6;yPJ [.g,.g,.l (.agg ⟨wkc ak ah ac ad ag aa ab ar au am⟩),.c (.bool false) s1,.g,.c (.bool true) s1,.g] (kc (by kernel_rfl) (an3 ((zC _ _ _).rw.ldN zJM zCK (k:=0) rfl rfl (nle rfl):zB Pg s1 25 ⟨σ.y,0,none⟩=some (.agg ⟨wkc ak ah ac ad ag aa ab ar au am⟩)) (zD.top (aw:=7) h1) (xJB:zEX (zDW Pg 7) (.func 7) [] s1 (.bool true) s1) nx))
noncomputable def yGI:Code:=(Code.part [1,1,1,1,1,1,1,1,1,1,0,1,0,0] (zO Pg 3))
def zGQ (BA:Nat) (n2:Int) (qH:Option Addr) (lK cK:Nat) (qE:Option Addr) (lH cH:Nat) (bp:Option Addr) (bl bt:Nat) (bx:Int):List (Nat × Value):=[(4,.pointer (some ⟨BA,0,none⟩)),(9,iV n2),(14,.slice qH lK cK),(16,.slice qE lH cH),(18,.slice bp bl bt),(19,.slice none 0 0),(20,iV bx)]
def yUZ (BA:Nat) (n2:Int) (qH:Option Addr) (lK cK:Nat) (qE:Option Addr) (lH cH:Nat) (Q:(Option Addr)→Nat→Nat→Int→St→Prop):Alt:=⟨(Option Addr) × Nat × Nat × Int,.normal,fun t=>zGQ BA n2 qH lK cK qE lH cH t.1 t.2.1 t.2.2.1 t.2.2.2,fun t=>[],fun t σ=>Q t.1 t.2.1 t.2.2.1 t.2.2.2 σ⟩
def zTQ (BA:Nat) (n2:Int) (qH:Option Addr) (lK cK:Nat) (qE:Option Addr) (lH cH:Nat) (t8_2:Bool):List (Nat × Value):=[(8,.bool t8_2)]
def zKI (BA:Nat) (n2:Int) (qH:Option Addr) (lK cK:Nat) (qE:Option Addr) (lH cH:Nat) (Q:Bool→St→Prop):Alt:=⟨Bool,.ret,fun t=>zTQ BA n2 qH lK cK qE lH cH t,fun t=>[],fun t σ=>Q t σ⟩
def zTR (BA:Nat) (n2:Int) (qH:Option Addr) (lK cK:Nat) (qE:Option Addr) (lH cH:Nat) (bp:Option Addr) (bl bt:Nat):List (Nat × Value):=[(16,.slice qE lH cH),(18,.slice bp bl bt),(19,.slice none 0 0)]
def zKJ (BA:Nat) (n2:Int) (qH:Option Addr) (lK cK:Nat) (qE:Option Addr) (lH cH:Nat) (Q:(Option Addr)→Nat→Nat→St→Prop):Alt:=⟨(Option Addr) × Nat × Nat,(.exit 2),fun t=>zTR BA n2 qH lK cK qE lH cH t.1 t.2.1 t.2.2,fun t=>[],fun t σ=>Q t.1 t.2.1 t.2.2 σ⟩
def zDG (BA:Nat) (n2:Int) (qH:Option Addr) (lK cK:Nat) (qE:Option Addr) (lH cH:Nat) (bp:Option Addr) (bl bt:Nat) (bx:Int) (σ:St) (Nx:(Option Addr)→Nat→Nat→Int→St→Prop) (Qr:Bool→St→Prop) (Q2:(Option Addr)→Nat→Nat→St→Prop):Prop:=yJ Pg (zDW Pg 7) none yGI 170 (zGQ BA n2 qH lK cK qE lH cH bp bl bt bx) [] [yUZ BA n2 qH lK cK qE lH cH Nx,zKI BA n2 qH lK cK qE lH cH Qr,zKJ BA n2 qH lK cK qE lH cH Q2] σ
def zTU (BA:Nat) (n2:Int) (qH:Option Addr) (lK cK:Nat) (qE:Option Addr) (lH cH:Nat) (bp:Option Addr) (bl bt:Nat) (bx:Int) (σ:St) (Qr:Bool→St→Prop) (Q2:(Option Addr)→Nat→Nat→St→Prop):Prop:=yR Pg (zDW Pg 7) none yGI 170 (zGQ BA n2 qH lK cK qE lH cH bp bl bt bx) [] [zKI BA n2 qH lK cK qE lH cH Qr,zKJ BA n2 qH lK cK qE lH cH Q2] σ
theorem yGG (hb:∀ k bp bl bt bx σ,Inv k bp bl bt bx σ→zDG BA n2 qH lK cK qE lH cH bp bl bt bx σ (NX4 Inv k) Qr Q2):∀ k bp bl bt bx σ,Inv k bp bl bt bx σ→zTU BA n2 qH lK cK qE lH cH bp bl bt bx σ Qr Q2 :=
 zTO (ai zAQ (ai (wA 2) trivial)) hb
theorem yUV (h1:zB Pg σ 3 (zH qH_a ((Int.toNat bx*3)+2))=some (iV nM)) (h2:zB Pg σ 22 ⟨BA,1,none⟩=some (.slice (some qA_a) lA cD)) (h3:zD Pg 13 [iV nM,iV 0,iV (((lA:Nat):Int)-1)] σ (.bool true) σ) (h4:zB Pg σ 5 (zH qH_a ((Int.toNat bx*3)+0))=some (.int .u8 nN)) (h5:zB Pg σ 3 (zH qA_a ((Int.toNat nM*5)+0))=some (iV nG)) (h6:zB Pg σ 47 (zH qH_a (Int.toNat bx*3))=some (.agg ⟨rcd nH nJ nBz⟩)) (h7:zZ Pg 36 36 (.slice bp bl bt) (.slice (some ⟨σ.y,0,none⟩) 1 1) (σ.row (rcd nH nJ nBz) 3)=some (.slice qBB lHB cEB,σJ)) (nx:Nx qBB lHB cEB (bx+1) σJ) (u1:bx<((lK:Nat):Int):=by omega) (u2:Ix bx lK:=by omega) (u3:I6 (((lA:Nat):Int)-1):=by omega) (u4:¬ nN=5:=by omega) (u5:Ix nM lA:=by omega) (u6:nG≤n2:=by omega) (u7:I6 (bx+1):=by omega):zDG BA n2 (some qH_a) lK cK qE lH cH bp bl bt bx σ Nx Qr Q2 :=
 kO 0 (qBB,lHB,cEB,bx+1) [.g,.g,.g,.b true,.g,.g,.i,.g,.l (iV nM),.g,.l (.slice (some qA_a) lA cD),.g,.n (((lA:Nat):Int)-1),.c (.bool true) σ,.g,.g,.g,.g,.g,.i,.g,.l (.int .u8 nN),.b true,.g,.g,.l (.slice (some qA_a) lA cD),.g,.g,.i,.g,.l (iV nM),.i,.g,.l (iV nG),.g,.b true,.g,.g,.g,.g,.i,.l (.agg ⟨rcd nH nJ nBz⟩),.g,.e (.slice qBB lHB cEB) σJ,.g,.g,.n (bx+1),.g] (fun _ f=>(ai (zJ u1) (an6 u2 h1 h2 (w64 u3) (zD.top (aw:=7) h3) u2 (an6 h4 (zEE u4) h2 u2 h1 u5 (an6 h5 (zX u6) u2 h6 h7 (w64 u7) f))))) nx
theorem yUU (h1:zB Pg σ 3 (zH qH_a ((Int.toNat bx*3)+2))=some (iV nM)) (h2:zB Pg σ 22 ⟨BA,1,none⟩=some (.slice (some qA_a) lA cD)) (h3:zD Pg 13 [iV nM,iV 0,iV (((lA:Nat):Int)-1)] σ (.bool true) σ) (h4:zB Pg σ 5 (zH qH_a ((Int.toNat bx*3)+0))=some (.int .u8 nN)) (h5:zB Pg σ 3 (zH qA_a ((Int.toNat nM*5)+0))=some (iV nG)) (nx:Nx bp bl bt (bx+1) σ) (u1:bx<((lK:Nat):Int):=by omega) (u2:Ix bx lK:=by omega) (u3:I6 (((lA:Nat):Int)-1):=by omega) (u4:¬ nN=5:=by omega) (u5:Ix nM lA:=by omega) (u6:¬ nG≤n2:=by omega) (u7:I6 (bx+1):=by omega):zDG BA n2 (some qH_a) lK cK qE lH cH bp bl bt bx σ Nx Qr Q2 :=
 kO 0 (bp,bl,bt,bx+1) [.g,.g,.g,.b true,.g,.g,.i,.g,.l (iV nM),.g,.l (.slice (some qA_a) lA cD),.g,.n (((lA:Nat):Int)-1),.c (.bool true) σ,.g,.g,.g,.g,.g,.i,.g,.l (.int .u8 nN),.b true,.g,.g,.l (.slice (some qA_a) lA cD),.g,.g,.i,.g,.l (iV nM),.i,.g,.l (iV nG),.g,.b false,.g,.g,.n (bx+1),.g] (fun _ f=>(an4 (zJ u1) u2 h1 h2 (an6 (w64 u3) (zD.top (aw:=7) h3) u2 h4 (zEE u4) h2 (an6 u2 h1 u5 h5 (yB u6) (w64 u7) f)))) nx
theorem yUT (h1:zB Pg σ 3 (zH qH_a ((Int.toNat bx*3)+2))=some (iV nM)) (h2:zB Pg σ 22 ⟨BA,1,none⟩=some (.slice qA lA cD)) (h3:zD Pg 13 [iV nM,iV 0,iV (((lA:Nat):Int)-1)] σ (.bool true) σ) (h4:zB Pg σ 5 (zH qH_a ((Int.toNat bx*3)+0))=some (.int .u8 nN)) (nx:Nx bp bl bt (bx+1) σ) (u1:bx<((lK:Nat):Int):=by omega) (u2:Ix bx lK:=by omega) (u3:I6 (((lA:Nat):Int)-1):=by omega) (u4:nN=5:=by omega) (u5:I6 (bx+1):=by omega):zDG BA n2 (some qH_a) lK cK qE lH cH bp bl bt bx σ Nx Qr Q2 :=
 kO 0 (bp,bl,bt,bx+1) [.g,.g,.g,.b true,.g,.g,.i,.g,.l (iV nM),.g,.l (.slice qA lA cD),.g,.n (((lA:Nat):Int)-1),.c (.bool true) σ,.g,.g,.g,.g,.g,.i,.g,.l (.int .u8 nN),.b false,.g,.g,.g,.n (bx+1),.g] (fun _ f=>(an4 (zJ u1) u2 h1 h2 (an6 (w64 u3) (zD.top (aw:=7) h3) u2 h4 (uF u4) (w64 u5) f))) nx
theorem yUS (h1:zB Pg σ 3 (zH qH_a ((Int.toNat bx*3)+2))=some (iV nM)) (h2:zB Pg σ 22 ⟨BA,1,none⟩=some (.slice qA lA cD)) (h3:zD Pg 13 [iV nM,iV 0,iV (((lA:Nat):Int)-1)] σ (.bool false) σ) (h4:zB Pg σ 5 (zH qH_a ((Int.toNat bx*3)+0))=some (.int .u8 nN)) (nx:Nx bp bl bt (bx+1) σ) (u1:bx<((lK:Nat):Int):=by omega) (u2:Ix bx lK:=by omega) (u3:I6 (((lA:Nat):Int)-1):=by omega) (u4:nN=5:=by omega) (u5:I6 (bx+1):=by omega):zDG BA n2 (some qH_a) lK cK qE lH cH bp bl bt bx σ Nx Qr Q2 :=
 kO 0 (bp,bl,bt,bx+1) [.g,.g,.g,.b true,.g,.g,.i,.g,.l (iV nM),.g,.l (.slice qA lA cD),.g,.n (((lA:Nat):Int)-1),.c (.bool false) σ,.g,.g,.g,.g,.i,.g,.l (.int .u8 nN),.b false,.g,.g,.g,.i,.g,.l (.int .u8 nN),.b false,.g,.g,.g,.n (bx+1),.g] (fun _ f=>(ai (zJ u1) (an6 u2 h1 h2 (w64 u3) (zD.top (aw:=7) h3) u2 (an6 h4 (uF u4) u2 h4 (uF u4) (w64 u5) f)))) nx
theorem yUR (nx:Q2 bp bl bt σ) (u1:¬ bx<((lK:Nat):Int):=by omega):zDG BA n2 qH lK cK qE lH cH bp bl bt bx σ Nx Qr Q2 :=
 kO 2 (bp,bl,bt) [.g,.g,.g,.b false] (fun _ f=>(ai (zM u1) f)) nx
def yMJ (BA:Nat) (n2:Int) (qH:Option Addr) (lK cK:Nat) (qE:Option Addr) (lH cH:Nat) (t8_2:Bool) (σ:St) (Q:Value→St→Prop):Prop:=∀ g:Nat→Value,∃ an,Hid (kAt Pg (zDW Pg 7) none (zO Pg 3) [1,1,1,1,1,1,1,1,1,1,0,1,0] (kFn Pg 3 Q) .ret ⟨Fm 170 (ov (zTQ BA n2 qH lK cK qE lH cH t8_2) g),[]⟩ σ an)
def zTX (BA:Nat) (n2:Int) (qH:Option Addr) (lK cK:Nat) (qE:Option Addr) (lH cH:Nat) (bp:Option Addr) (bl bt:Nat) (σ:St) (Q:Value→St→Prop):Prop:=∀ g:Nat→Value,∃ an,Hid (kAt Pg (zDW Pg 7) none (zO Pg 3) [1,1,1,1,1,1,1,1,1,1,0,1,0] (kFn Pg 3 Q) (.exit 2) ⟨Fm 170 (ov (zTR BA n2 qH lK cK qE lH cH bp bl bt) g),[]⟩ σ an)
theorem yGE (h1:zB Pg σ 25 ⟨BA,0,none⟩=some (.agg ⟨cs1838⟩)) (h2:zD Pg 12 [.agg ⟨cs1838⟩] σ (.agg ⟨cs1839⟩) σAC) (h3:zD Pg 10 [.slice q3 l3 c3] σAC (.slice qPB lVB cRB) σBC) (h4:zD Pg 10 [.slice q6 l6 c6] σBC (.slice qQB lWB cSB) σCC) (h5:zD Pg 11 [.agg ⟨cs1839⟩,.slice qPB lVB cRB,.slice qQB lWB cSB] σCC (.tuple ⟨[.slice qH lK cK,iV nB0]⟩) σX) (h6:zB Pg σX 25 ⟨BA,0,none⟩=some (.agg ⟨cs1848⟩)) (h7:zD Pg 12 [.agg ⟨cs1848⟩] σX (.agg ⟨cs1849⟩) σDC) (h8:zD Pg 10 [.slice q6 l6 c6] σDC (.slice qRB lXB cTB) σEC) (h9:zD Pg 11 [.agg ⟨cs1849⟩,.slice q8 l8 c8,.slice qRB lXB cTB] σEC (.tuple ⟨[.slice qE lH cH,iV nB1]⟩) σFC) (hL:zTU BA n2 qH lK cK qE lH cH none 0 0 0 σFC Pr P2) (kr:∀ t8_2' σ',Pr t8_2' σ'→yMJ BA n2 qH lK cK qE lH cH t8_2' σ' Q) (k2:∀ p18_2' l18_2' c18_2' σ',P2 p18_2' l18_2' c18_2' σ'→zTX BA n2 qH lK cK qE lH cH p18_2' l18_2' c18_2' σ' Q) (u1:nB0=0:=by omega) (u2:nB1=0:=by omega):zEJ BA n2 q3 l3 c3 q6 l6 c6 q8 l8 c8 σ Q :=
 sK [.l (.agg ⟨cs1838⟩),.c (.agg ⟨cs1839⟩) σAC,.g,.c (.slice qPB lVB cRB) σBC,.g,.c (.slice qQB lWB cSB) σCC,.c (.tuple ⟨[.slice qH lK cK,iV nB0]⟩) σX,.g,.g,.g,.g,.g,.l (.agg ⟨cs1848⟩),.c (.agg ⟨cs1849⟩) σDC,.g,.g,.c (.slice qRB lXB cTB) σEC,.c (.tuple ⟨[.slice qE lH cH,iV nB1]⟩) σFC,.g,.g,.g,.g,.g,.g,.b false,.g,.g,.b false,.g,.g,.g,.g,.lf 170 (zGQ BA n2 qH lK cK qE lH cH none 0 0 0) [zKI BA n2 qH lK cK qE lH cH Pr,zKJ BA n2 qH lK cK qE lH cH P2]] (an5 h1 (zD.top (aw:=7) h2) (zD.top (aw:=7) h3) (zD.top (aw:=7) h4) (zD.top (aw:=7) h5) (an6 h6 (zD.top (aw:=7) h7) (zD.top (aw:=7) h8) (zD.top (aw:=7) h9) (uF u1) (uF u2) (ai (ai tt (ai (arf (zGQ BA n2 qH lK cK qE lH cH none 0 0 0)) hL)) (ai (fun (t:Bool) (g':Nat→Value) (σ':St) (q:Pr t σ')=>kr t σ' q g') (ai (fun (t:(Option Addr) × Nat × Nat) (g':Nat→Value) (σ':St) (q:P2 t.1 t.2.1 t.2.2 σ')=>k2 t.1 t.2.1 t.2.2 σ' q g') trivial)))))
noncomputable def yGH:Code:=(Code.part [1,1,1,1,1,1,1,1,1,1,1,0,1,0,0] (zO Pg 3))
def zGP (qE:Option Addr) (lH cH:Nat) (bp:Option Addr) (bl bt:Nat) (dv:Option Addr) (dp dz:Nat) (cy:Int):List (Nat × Value):=[(16,.slice qE lH cH),(18,.slice bp bl bt),(19,.slice dv dp dz),(21,iV cy)]
def yUY (qE:Option Addr) (lH cH:Nat) (bp:Option Addr) (bl bt:Nat) (Q:(Option Addr)→Nat→Nat→Int→St→Prop):Alt:=⟨(Option Addr) × Nat × Nat × Int,.normal,fun t=>zGP qE lH cH bp bl bt t.1 t.2.1 t.2.2.1 t.2.2.2,fun t=>[],fun t σ=>Q t.1 t.2.1 t.2.2.1 t.2.2.2 σ⟩
def zTP (qE:Option Addr) (lH cH:Nat) (bp:Option Addr) (bl bt:Nat) (dv:Option Addr) (dp dz:Nat):List (Nat × Value):=[(18,.slice bp bl bt),(19,.slice dv dp dz)]
def zKH (qE:Option Addr) (lH cH:Nat) (bp:Option Addr) (bl bt:Nat) (Q:(Option Addr)→Nat→Nat→St→Prop):Alt:=⟨(Option Addr) × Nat × Nat,(.exit 4),fun t=>zTP qE lH cH bp bl bt t.1 t.2.1 t.2.2,fun t=>[],fun t σ=>Q t.1 t.2.1 t.2.2 σ⟩
def zLU (qE:Option Addr) (lH cH:Nat) (bp:Option Addr) (bl bt:Nat) (dv:Option Addr) (dp dz:Nat) (cy:Int) (σ:St) (Nx:(Option Addr)→Nat→Nat→Int→St→Prop) (Q4:(Option Addr)→Nat→Nat→St→Prop):Prop:=yJ Pg (zDW Pg 7) none yGH 170 (zGP qE lH cH bp bl bt dv dp dz cy) [] [yUY qE lH cH bp bl bt Nx,zKH qE lH cH bp bl bt Q4] σ
def zTT (qE:Option Addr) (lH cH:Nat) (bp:Option Addr) (bl bt:Nat) (dv:Option Addr) (dp dz:Nat) (cy:Int) (σ:St) (Q4:(Option Addr)→Nat→Nat→St→Prop):Prop:=yR Pg (zDW Pg 7) none yGH 170 (zGP qE lH cH bp bl bt dv dp dz cy) [] [zKH qE lH cH bp bl bt Q4] σ
theorem yGF (hb:∀ k dv dp dz cy σ,Inv k dv dp dz cy σ→zLU qE lH cH bp bl bt dv dp dz cy σ (NX4 Inv k) Q4):∀ k dv dp dz cy σ,Inv k dv dp dz cy σ→zTT qE lH cH bp bl bt dv dp dz cy σ Q4 :=
 zTO (ai (wA 4) trivial) hb
theorem yUQ (h1:zB Pg σ 5 (zH qE_a ((Int.toNat cy*3)+0))=some (.int .u8 nO)) (h2:zB Pg σ 47 (zH qE_a (Int.toNat cy*3))=some (.agg ⟨rcd nKB nZ nLB⟩)) (h3:zZ Pg 36 36 (.slice dv dp dz) (.slice (some ⟨σ.y,0,none⟩) 1 1) (σ.row (rcd nKB nZ nLB) 3)=some (.slice qCB lIB cFB,σGC)) (nx:Nx qCB lIB cFB (cy+1) σGC) (u1:cy<((lH:Nat):Int):=by omega) (u2:Ix cy lH:=by omega) (u3:¬ nO=5:=by omega) (u4:I6 (cy+1):=by omega):zLU (some qE_a) lH cH bp bl bt dv dp dz cy σ Nx Q4 :=
 kO 0 (qCB,lIB,cFB,cy+1) [.g,.g,.g,.b true,.g,.g,.i,.g,.l (.int .u8 nO),.b true,.g,.g,.g,.i,.l (.agg ⟨rcd nKB nZ nLB⟩),.g,.e (.slice qCB lIB cFB) σGC,.g,.g,.n (cy+1),.g] (fun _ f=>(an2 (zJ u1) u2 (an6 h1 (zEE u3) u2 h2 h3 (w64 u4) f))) nx
theorem yUP (h1:zB Pg σ 5 (zH qE_a ((Int.toNat cy*3)+0))=some (.int .u8 nO)) (nx:Nx dv dp dz (cy+1) σ) (u1:cy<((lH:Nat):Int):=by omega) (u2:Ix cy lH:=by omega) (u3:nO=5:=by omega) (u4:I6 (cy+1):=by omega):zLU (some qE_a) lH cH bp bl bt dv dp dz cy σ Nx Q4 :=
 kO 0 (dv,dp,dz,cy+1) [.g,.g,.g,.b true,.g,.g,.i,.g,.l (.int .u8 nO),.b false,.g,.n (cy+1),.g] (fun _ f=>(an5 (zJ u1) u2 h1 (uF u3) (w64 u4) f)) nx
theorem yUO (nx:Q4 dv dp dz σ) (u1:¬ cy<((lH:Nat):Int):=by omega):zLU qE lH cH bp bl bt dv dp dz cy σ Nx Q4 :=
 kO 1 (dv,dp,dz) [.g,.g,.g,.b false] (fun _ f=>(ai (zM u1) f)) nx
def zTW (qE:Option Addr) (lH cH:Nat) (bp:Option Addr) (bl bt:Nat) (dv:Option Addr) (dp dz:Nat) (σ:St) (Q:Value→St→Prop):Prop:=∀ g:Nat→Value,∃ an,Hid (kAt Pg (zDW Pg 7) none (zO Pg 3) [1,1,1,1,1,1,1,1,1,1,1,0,1,0] (kFn Pg 3 Q) (.exit 4) ⟨Fm 170 (ov (zTP qE lH cH bp bl bt dv dp dz) g),[]⟩ σ an)
theorem yGD (hL:zTT qE lH cH bp bl bt none 0 0 0 σ P4) (k4:∀ p19_3' l19_3' c19_3' σ',P4 p19_3' l19_3' c19_3' σ'→zTW qE lH cH bp bl bt p19_3' l19_3' c19_3' σ' Q):zTX BA n2 qH lK cK qE lH cH bp bl bt σ Q :=
 sK [.g,.lf 170 (zGP qE lH cH bp bl bt none 0 0 0) [zKH qE lH cH bp bl bt P4]] (ai (ai tt (ai (arf (zGP qE lH cH bp bl bt none 0 0 0)) hL)) (ai (fun (t:(Option Addr) × Nat × Nat) (g':Nat→Value) (σ':St) (q:P4 t.1 t.2.1 t.2.2 σ')=>k4 t.1 t.2.1 t.2.2 σ' q g') trivial))
theorem yGC (h1:zD Pg 14 [.slice bp bl bt,.slice dv dp dz] σ (.bool true) σ) (h2:zD Pg 14 [.slice dv dp dz,.slice bp bl bt] σ (.bool true) σ) (nx:Q (.bool true) σ) (u1:((bl:Nat):Int)=((dp:Nat):Int):=by omega):zTW qE lH cH bp bl bt dv dp dz σ Q :=
 sK [.g,.g,.g,.g,.b true,.g,.g,.g,.c (.bool true) σ,.g,.g,.g,.g,.c (.bool true) σ,.g,.g,.c (.bool true) σ,.g,.g] (an4 (wJ u1) (zD.top (aw:=7) h1) (zD.top (aw:=7) h2) (xJB:zEX (zDW Pg 7) (.func 7) [] σ (.bool true) σ) nx)
end
section
variable {w : Wk} {ros ros' tru : Nat → Int} {m n : Nat}
def xF (w : Wk) (n : Nat) (b : Bch) : Bool := decide (b.kind ≠ 5) && decide ((dty w b.dut).day ≤ (n : Int))
def vB (b : Bch) : Bool := decide (b.kind ≠ 5)
theorem zUR (hd : ∀ i, i < w.N.length → 0 ≤ (dty w i).day) (hr : ∀ i, i < w.N.length → ros' i = if (dty w i).day ≤ (n : Int) then ros i else -1) {b : Bch} : b ∈ (zAR w ros tru m).filter (xF w n) ↔ b ∈ (zAR w ros' tru m).filter vB := by
 rw [List.mem_filter, List.mem_filter, zLK, zLK]
 unfold xF vB
 rw [Bool.and_eq_true, decide_eq_true_iff, decide_eq_true_iff]
 constructor
 ·rintro ⟨⟨h1, h2, h3⟩, h4, h5⟩
  rcases h1 with ⟨h6, h7⟩ | ⟨h6, _⟩
  ·exact ⟨⟨.inl ⟨h6, h7⟩, h2, by rw [zPZ hd hr h6 h7, h3, decide_eq_true h5]; rfl⟩, h4⟩
  ·exact absurd h6 h4
 ·rintro ⟨⟨h1, h2, h3⟩, h4⟩
  rcases h1 with ⟨h6, h7⟩ | ⟨h6, _⟩
  ·rw [zPZ hd hr h6 h7, Bool.and_eq_true, decide_eq_true_iff] at h3
   exact ⟨⟨.inl ⟨h6, h7⟩, h2, h3.2⟩, h4, h3.1⟩
  ·exact absurd h6 h4
theorem zWU {f : Bch → Bool} : ((zAR w ros tru m).filter f).Nodup := by
 refine ((yAK (w := w) (ros := ros) (tru := tru) (k := m)).filter f).imp fun {a b} h e => ?_
 subst e
 unfold Bch.lt at h
 omega
theorem xBZ (hd : ∀ i, i < w.N.length → 0 ≤ (dty w i).day) (hr : ∀ i, i < w.N.length → ros' i = if (dty w i).day ≤ (n : Int) then ros i else -1) : ((zAR w ros tru m).filter (xF w n)).length = ((zAR w ros' tru m).filter vB).length :=
 ((List.perm_ext_iff_of_nodup zWU zWU).2 fun b => zUR hd hr).length_eq
end
theorem xAK {σ : St} {p : Option Addr} {l c : Nat} {xs : List Int} (h : yP σ p l xs) (hl : l ≤ 1073741824) (h0 : 0 < l) :
  ∃ a c' σ', zD Pg 10 [.slice p l c] σ (.slice (some a) l c') σ' ∧ New σ σ' ∧ App σ' σ.y 1 (.slice (some a) l c') l (xs.map yO) := by
 have hc : (xS (xs.map yO)).all cellB = true := by rw [zAD xs .i64]; simp [List.all_eq_true]; intro a _; rfl
 have o := zC σ.re [] 1
 obtain ⟨p', c', s', h1, h2, h3, h4⟩ := Ap.append (k := c) (n0 := σ.re.y) zDO (.inr ⟨σ.re.y, rfl, rfl, rfl, rfl, o, Nat.le_refl _⟩ : Ap (σ.re.row [] 1) σ.re.y 1 (some ⟨σ.re.y, 0, none⟩) 0 0 []) ((SlV.le h ((le0 σ).trans (Le.row _ [] 1))).1) (by omega) hc (by simp)
 rw [Nat.zero_add] at h1 h2
 rw [List.nil_append, zAD xs .i64] at h2
 obtain ⟨a, rfl, ha⟩ := xIR h2 h0
 have N1 : New σ.re s' := (New.row _ _ _).of_only h3 (by rintro b ⟨a, e, rfl⟩; cases e; exact Nat.le_refl _)
 obtain ⟨v, s, k1, k2, a', c2, rfl, k3⟩ := zI.new (Q := fun v s => ∃ a c', v = .slice (some a) l c' ∧ App s σ.y 1 (.slice (some a) l c') l (xs.map yO)) (yQL h1 ⟨N1, a, c', rfl, ha⟩) (by
  rintro v s s' ⟨a, c', rfl, g⟩ hle; exact ⟨a, c', rfl, g.keep hle⟩) (by
  rintro v s hr ⟨a, c', rfl, g⟩
  exact Bool.noConfusion (show false = true from hr))
 exact ⟨a', c2, s, k1, k2, k3⟩
theorem yRD {z y : St} {p5 : Option Addr} {l5 c5 : Nat} {E : List Bch} (b : Bch) (J1 : New z y) (J3 : Ax y z.y 3 p5 l5 c5 (xS (E.map uK))) (hl : l5 ≤ 100000) :
  ∃ p4 c4 s4, zZ Pg 36 36 (.slice p5 l5 c5) (.slice (some ⟨y.y, 0, none⟩) 1 1) (y.row (rcd b.kind b.drv b.dut) 3) = some (.slice p4 (l5 + 1) c4, s4) ∧ New z s4 ∧ Ax s4 z.y 3 p4 (l5 + 1) c4 (xS ((E ++ [b]).map uK)) := by
 obtain ⟨t3, ht3⟩ : ∃ t3, t3 = y.row (rcd b.kind b.drv b.dut) 3 := ⟨_, rfl⟩
 have M3 : New y t3 := by rw [ht3]; exact New.row _ _ _
 have r3 : Row t3 ⟨y.y, 0, none⟩ (rcd b.kind b.drv b.dut) := by rw [ht3]; exact xC _ _ _
 have nx3 := M3.nx
 have nx1 := J1.nx
 obtain ⟨p4, c4, s4, ap4, A4, O4, b4⟩ := Ax.append (P := Pg) (k := 1) (m := 1) (n0 := z.y) yHX (J3.le M3.le) (r3.sl rfl) (by omega) rfl (by omega)
 have N4 : New z s4 := (J1.trans M3).of_only O4 (fun b hb => (J3.bd b hb).1)
 rw [ht3] at ap4
 refine ⟨p4, c4, s4, ap4, N4, ?_⟩
 rw [List.map_append, zGT]; exact A4
theorem yCO {y : St} {qa : Addr} {A : List Bch} {j : Nat} {b : Bch} (h : SlV Pg y 47 3 (some qa) A.length (A.map uK)) (hb : A[j]? = some b) {k t : Nat} {v : Value} (hk : k < 3) (hv : (rcd b.kind b.drv b.dut)[k]? = some v) (ht : wK Pg t = some false) : zB Pg y t (zH qa (Int.toNat (j : Int) * 3 + k)) = some v := by
 have hj := (List.getElem?_eq_some_iff.1 hb).1
 obtain ⟨a, ea, hr⟩ := h.some hj
 cases ea
 rw [Int.toNat_natCast]
 exact hr.load1 ht (zUL (F := uK) (fun _ => rfl) hk hv hb)
section
variable {σ t1 z : St} {w : Wk} {p q pw pe : Option Addr} {l m c d lw cw le ce : Nat} {ws es : List Int}
theorem xCI {y : St} {n0 l5 c5 : Nat} {p5 : Option Addr} {E : List Bch} (h : Ax y n0 3 p5 l5 c5 (xS (E.map uK))) (hl : E.length = l5) : SlV Pg y 47 3 p5 l5 (E.map uK) :=
 h.slv (by simpa using hl) fun v hv => by obtain ⟨b, _, rfl⟩ := List.mem_map.1 hv; exact yHF b
theorem yNF {n : Nat} {A B : List Bch} {pA pB : Option Addr} {cA lB cB : Nat} (h : WkP t1 35 70 w p l q m) (w1 : Row t1 ⟨σ.y, 0, none⟩ (wkc w.M p l c q m d w.rest w.run w.j)) (hl12 : l ≤ 12) (Lz : Le t1 z) (hA : SlV Pg z 47 3 pA A.length (A.map uK)) (hAl : A.length ≤ 1000)
  (hm : ∀ b ∈ A, b.kind < 5 ∧ b.dut < l ∨ b.kind = 5 ∧ b.dut = 0) :
  zTU σ.y (n : Int) pA A.length cA pB lB cB none 0 0 0 z (fun _ _ => False) (fun p5 l5 c5 y => New z y ∧ Ax y z.y 3 p5 l5 c5 (xS ((A.filter (xF w n)).map uK)) ∧ (A.filter (xF w n)).length = l5) := by
 refine yGG (Inv := fun k p5 l5 c5 i y => ∃ j : Nat, i = (j : Int) ∧ j + k = A.length ∧ New z y ∧ Ax y z.y 3 p5 l5 c5 (xS (((A.take j).filter (xF w n)).map uK)) ∧ ((A.take j).filter (xF w n)).length = l5) ?_ A.length none 0 0 0 z ⟨0, rfl, by omega, New.refl _, Ax.nil, rfl⟩
 rintro k p5 l5 c5 i y ⟨j, rfl, hk, J1, J3, rfl⟩
 by_cases hj : j < A.length
 rotate_left
 ·have e : A.take j = A := List.take_of_length_le (by omega)
  rw [e] at J3 ⊢
  exact yUR ⟨J1, J3, rfl⟩ (by omega)
 have hb : A[j]? = some A[j] := List.getElem?_eq_getElem hj
 have hmb := hm A[j] (List.getElem_mem hj)
 generalize A[j] = b at hb hmb
 have hy : SlV Pg y 47 3 pA A.length (A.map uK) := hA.le J1.le
 obtain ⟨qa, rfl, _⟩ := hy.some hj
 have etk := vI hb
 have hll : ((A.take j).filter (xF w n)).length ≤ 1000 := by
  have := List.length_filter_le (xF w n) (A.take j)
  rw [List.length_take] at this; omega
 have ld0 := yCO hy hb (k := 0) (t := 5) (by omega) rfl yWP
 have ld2 := yCO hy hb (k := 2) (t := 3) (by omega) rfl zK
 have ldr : zB Pg y 47 (zH qa (Int.toNat (j : Int) * 3)) = some (.agg ⟨rcd b.kind b.drv b.dut⟩) := hy.at rfl (by simp [hb])
 have ldd : zB Pg y 22 ⟨σ.y, 1, none⟩ = some (.slice p l c) := (w1.le (Lz.trans J1.le)).ld zCA rfl
 have cin := yYN (σ := y) (n := (b.dut : Int)) (lo := 0) (hi := (l : Int) - 1)
 rcases hmb with ⟨h5, hdl⟩ | ⟨h5, hd0⟩
 ·have hin : inB (b.dut : Int) 0 ((l : Int) - 1) = true := wV.2 (by omega)
  rw [hin] at cin
  obtain ⟨pa, rfl, ldy⟩ := (h.le (Lz.trans J1.le)).dld (k := 0) hdl (by omega) rfl
  by_cases g : (dty w b.dut).day ≤ (n : Int)
  ·obtain ⟨p4, c4, s4, ap, N4, A4⟩ := yRD b J1 J3 (by omega)
   have ef : (A.take (j + 1)).filter (xF w n) = (A.take j).filter (xF w n) ++ [b] := by
    rw [etk, List.filter_append]
    congr 1
    have : xF w n b = true := by unfold xF; rw [decide_eq_true (by omega : b.kind ≠ 5), decide_eq_true g]; rfl
    simp [this]
   exact yUV ld2 ldd cin ld0 ldy ldr ap ⟨k - 1, by omega, j + 1, by omega, by omega, N4, by rw [ef]; exact A4, by rw [ef]; simp⟩ (by omega) ⟨by omega, by omega⟩ ⟨by omega, by omega⟩ (by omega) ⟨by omega, by omega⟩ g ⟨by omega, by omega⟩
  ·have ef : (A.take (j + 1)).filter (xF w n) = (A.take j).filter (xF w n) := by
    rw [etk, List.filter_append]
    have : xF w n b = false := by unfold xF; rw [decide_eq_false g, Bool.and_false]
    simp [this]
   exact yUU ld2 ldd cin ld0 ldy ⟨k - 1, by omega, j + 1, by omega, by omega, J1, by rw [ef]; exact J3, by rw [ef]⟩ (by omega) ⟨by omega, by omega⟩ ⟨by omega, by omega⟩ (by omega) ⟨by omega, by omega⟩ g ⟨by omega, by omega⟩
 ·have ef : (A.take (j + 1)).filter (xF w n) = (A.take j).filter (xF w n) := by
   rw [etk, List.filter_append]
   have : xF w n b = false := by unfold xF; rw [decide_eq_false (by omega), Bool.false_and]
   simp [this]
  have nx : ∃ k', k' < k ∧ ∃ j' : Nat, (j : Int) + 1 = (j' : Int) ∧ j' + k' = A.length ∧ New z y ∧ Ax y z.y 3 p5 ((A.take j).filter (xF w n)).length c5 (xS (((A.take j').filter (xF w n)).map uK)) ∧ ((A.take j').filter (xF w n)).length = ((A.take j).filter (xF w n)).length := ⟨k - 1, by omega, j + 1, by omega, by omega, J1, by rw [ef]; exact J3, by rw [ef]⟩
  cases e : inB (b.dut : Int) 0 ((l : Int) - 1) with
  | true =>
   rw [e] at cin
   exact yUT ld2 ldd cin ld0 nx (by omega) ⟨by omega, by omega⟩ ⟨by omega, by omega⟩ (by omega) ⟨by omega, by omega⟩
  | false =>
   rw [e] at cin
   exact yUS ld2 ldd cin ld0 nx (by omega) ⟨by omega, by omega⟩ ⟨by omega, by omega⟩ (by omega) ⟨by omega, by omega⟩
theorem yMY {B : List Bch} {pB p8 : Option Addr} {cB l8 c8 : Nat} (hB : SlV Pg z 47 3 pB B.length (B.map uK)) (hBl : B.length ≤ 1000) :
  zTT pB B.length cB p8 l8 c8 none 0 0 0 z (fun p5 l5 c5 y => New z y ∧ Ax y z.y 3 p5 l5 c5 (xS ((B.filter vB).map uK)) ∧ (B.filter vB).length = l5) := by
 refine yGF (Inv := fun k p5 l5 c5 i y => ∃ j : Nat, i = (j : Int) ∧ j + k = B.length ∧ New z y ∧ Ax y z.y 3 p5 l5 c5 (xS (((B.take j).filter vB).map uK)) ∧ ((B.take j).filter vB).length = l5) ?_ B.length none 0 0 0 z ⟨0, rfl, by omega, New.refl _, Ax.nil, rfl⟩
 rintro k p5 l5 c5 i y ⟨j, rfl, hk, J1, J3, rfl⟩
 by_cases hj : j < B.length
 rotate_left
 ·have e : B.take j = B := List.take_of_length_le (by omega)
  rw [e] at J3 ⊢
  exact yUO ⟨J1, J3, rfl⟩ (by omega)
 have hb : B[j]? = some B[j] := List.getElem?_eq_getElem hj
 generalize B[j] = b at hb
 have hy : SlV Pg y 47 3 pB B.length (B.map uK) := hB.le J1.le
 obtain ⟨qa, rfl, _⟩ := hy.some hj
 have etk := vI hb
 have hll : ((B.take j).filter vB).length ≤ 1000 := by
  have := List.length_filter_le vB (B.take j)
  rw [List.length_take] at this; omega
 have ld0 := yCO hy hb (k := 0) (t := 5) (by omega) rfl yWP
 have ldr : zB Pg y 47 (zH qa (Int.toNat (j : Int) * 3)) = some (.agg ⟨rcd b.kind b.drv b.dut⟩) := hy.at rfl (by simp [hb])
 by_cases h5 : b.kind = 5
 ·have ef : (B.take (j + 1)).filter vB = (B.take j).filter vB := by
   rw [etk, List.filter_append]
   have : vB b = false := by unfold vB; rw [decide_eq_false (by omega)]
   simp [this]
  exact yUP ld0 ⟨k - 1, by omega, j + 1, by omega, by omega, J1, by rw [ef]; exact J3, by rw [ef]⟩ (by omega) ⟨by omega, by omega⟩ (by omega) ⟨by omega, by omega⟩
 ·obtain ⟨p4, c4, s4, ap, N4, A4⟩ := yRD b J1 J3 (by omega)
  have ef : (B.take (j + 1)).filter vB = (B.take j).filter vB ++ [b] := by
   rw [etk, List.filter_append]
   congr 1
   have : vB b = true := by unfold vB; rw [decide_eq_true h5]
   simp [this]
  exact yUQ ld0 ldr ap ⟨k - 1, by omega, j + 1, by omega, by omega, N4, by rw [ef]; exact A4, by rw [ef]; simp⟩ (by omega) ⟨by omega, by omega⟩ (by omega) ⟨by omega, by omega⟩
end
section
variable {σ t1 z : St} {w : Wk} {p q pw pe : Option Addr} {l m c d lw cw le ce : Nat} {ws es : List Int}
theorem zSK (hl : w.N.length ≤ 12) (hm : m ≤ 6) {ros tru : Nat → Int} : (zAR w ros tru m).length ≤ 1000 := by
 have := yYI (w := w) (ros := ros) (tru := tru) (k := m)
 have h2 : m * (5 * w.N.length + 1) ≤ 6 * (5 * 12 + 1) := Nat.mul_le_mul hm (by omega)
 omega
structure FewP (w : Wk) (n l : Nat) (out ys : List Int) : Prop where
 len : ys.length = l
 at_ : ∀ i, i < l → zT ys i = if (dty w i).day ≤ (n : Int) then zT out i else -1
theorem xJM {n cq ct : Nat} {s7 : St} {p3 p6 : Option Addr} {out : List Int} (h : WkP t1 35 70 w p l q m) (w1 : Row t1 ⟨σ.y, 0, none⟩ (wkc w.M p l c q m d w.rest w.run w.j)) (hl : l ≤ 12) (L7 : Le t1 s7) (i3 : yP s7 p3 l out) :
  ∃ q8 c8 s9, zD Pg 10 [.slice p3 l cq] s7 (.slice q8 l c8) s9 ∧ New s7 s9 ∧ zTV σ.y (n : Int) p3 l cq p6 l ct q8 l c8 0 s9 (fun y => New s7 y ∧ ∃ ys, FewP w n l out ys ∧ yP y q8 l ys) := by
 have eol := i3.len
 by_cases h0 : l = 0
 ·subst h0
  obtain ⟨q8, c8, s9, k, N, i8, _⟩ := zKG (c := cq) i3 (by omega)
  refine ⟨q8, c8, s9, k, N, ?_⟩
  refine zPS (Inv := fun k i y => k = 0 ∧ i = 0 ∧ New s7 y ∧ yP y q8 0 out) ?_ 0 0 s9 ⟨rfl, rfl, N, i8⟩
  rintro k i y ⟨rfl, rfl, g1, g2⟩
  exact zYA ⟨g1, out, ⟨eol, fun i hi => absurd hi (Nat.not_lt_zero _)⟩, g2⟩ (by omega)
 obtain ⟨a, c8, s9, k, N, A⟩ := xAK (c := cq) i3 (by omega) (by omega)
 refine ⟨some a, c8, s9, k, N, ?_⟩
 refine zPS (Inv := fun k i y => ∃ j : Nat, i = (j : Int) ∧ j + k = l ∧ ∃ ys : List Int, New s7 y ∧ App y s7.y 1 (.slice (some a) l c8) l (ys.map yO) ∧ ys.length = l ∧ ∀ i, i < l → zT ys i = if i < j ∧ (n : Int) < (dty w i).day then -1 else zT out i) ?_ l 0 s9 ⟨0, rfl, by omega, out, N, A, eol, fun i hi => by rw [if_neg (by omega)]⟩
 rintro k i y ⟨j, rfl, hk, ys, J1, J2, J3, J4⟩
 by_cases hj : j < l
 rotate_left
 ·refine zYA ⟨J1, ys, ⟨J3, fun i hi => ?_⟩, xKE J2 J3⟩ (by omega)
  rw [J4 i hi]
  by_cases g : (n : Int) < (dty w i).day
  ·rw [if_pos ⟨by omega, g⟩, if_neg (by omega)]
  ·rw [if_neg (by omega), if_pos (by omega)]
 have Ly := L7.trans J1.le
 have ldd : zB Pg y 22 ⟨σ.y, 1, none⟩ = some (.slice p l c) := (w1.le Ly).ld zCA rfl
 obtain ⟨pa, rfl, ldy⟩ := (h.le Ly).dld (k := 0) hj (by omega) rfl
 by_cases g : (n : Int) < (dty w j).day
 ·obtain ⟨τ, st, A2, O2⟩ := xIQ (t := 3) (v := yO (-1)) J2 rfl zEZ rfl hj
  have hge := J2.ge a rfl
  refine yUX ldd ldy st ⟨k - 1, by omega, j + 1, by omega, by omega, ys.set j (-1), J1.of_only O2 (by rintro b rfl; exact hge), by rw [List.map_set]; exact A2, by simpa using J3, fun i hi => ?_⟩ (by omega) ⟨by omega, by omega⟩ g ⟨by omega, by omega⟩ ⟨by omega, by omega⟩
  rw [yXZ (by omega)]
  by_cases e : i = j
  ·subst e
   rw [if_pos rfl, if_pos ⟨by omega, g⟩]
  ·rw [if_neg e, J4 i hi]
   by_cases g2 : i < j ∧ (n : Int) < (dty w i).day
   ·rw [if_pos g2, if_pos ⟨by omega, g2.2⟩]
   ·rw [if_neg g2, if_neg (by omega)]
 ·refine yUW ldd ldy ⟨k - 1, by omega, j + 1, by omega, by omega, ys, J1, J2, J3, fun i hi => ?_⟩ (by omega) ⟨by omega, by omega⟩ g ⟨by omega, by omega⟩
  rw [J4 i hi]
  by_cases e : i = j
  ·subst e
   rw [if_neg (by omega), if_neg (by omega)]
  ·by_cases g2 : i < j ∧ (n : Int) < (dty w i).day
   ·rw [if_pos g2, if_pos ⟨by omega, g2.2⟩]
   ·rw [if_neg g2, if_neg (by omega)]
theorem yVO {n cq ct c8 : Nat} {p3 p6 q8 : Option Addr} {out tru ys : List Int} (h : WkP t1 35 70 w p l q m) (w1 : Row t1 ⟨σ.y, 0, none⟩ (wkc w.M p l c q m d w.rest w.run w.j)) (hsh : zFD w) (hf : yY w = 0) (hs : Sane w l m) (hln : w.N.length = l) (hm : w.L.length = m) (Lz : Le t1 z)
  (i3 : yP z p3 l out) (i6 : yP z p6 l tru) (i8 : yP z q8 l ys) (F : FewP w n l out ys) (hor : Ros w (zT out)) (htr : ∀ i, i < l → (dty w i).lo ≤ zT tru i ∧ zT tru i ≤ (dty w i).hi) :
  zEJ σ.y (n : Int) p3 l cq p6 l ct q8 l c8 z (fun v _ => v = .bool true) := by
 have h12 := hs.l12
 have h6 := hs.m6
 have eol := i3.len
 have etl := i6.len
 have ldw : ∀ s, Le z s → zB Pg s 25 ⟨σ.y, 0, none⟩ = some (.agg ⟨wkc w.M p l c q m d w.rest w.run w.j⟩) := fun s hs => (w1.le (Lz.trans hs)).ldN zJM zCK (k := 0) rfl rfl (nle rfl)
 have hz := h.le Lz
 have hyr : Ros w (zT ys) := ⟨fun i hi => by
  rw [F.at_ i (by omega)]
  have := hor.ros i hi
  split <;> omega⟩
 have hit : zDH w tru = true := zYB.2 ⟨by omega, fun i hi => htr i (by omega)⟩
 have hbz : ∀ {rs : List Int}, rs.length = l → Ros w (zT rs) → zMN w rs tru = 0 := fun {rs} h1 h2 => by
  unfold zMN
  rw [if_neg (by omega), zYC.2 ⟨by omega, fun i hi => h2.ros i (by omega)⟩, hit]; rfl
 obtain ⟨pa, ca, qa, da, s1, k2, N1, wa⟩ := xCZ (c := c) (d := d) hz (by omega) (by omega) hsh
 obtain ⟨pb, cb, s2, k3, N2, ib, _⟩ := zKG (c := cq) (SlV.le i3 N1.le) (by omega)
 obtain ⟨pc, cc, s3, k4, N3, ic, _⟩ := zKG (c := ct) (SlV.le i6 (N1.le.trans N2.le)) (by omega)
 obtain ⟨pA, cA, s4, k5, N4, iA, _⟩ := zVY (c := ca) (d := da) (rc := cb) (tc := cc) ((wa.le N2.le).le N3.le) hsh (SlV.le ib N3.le) ic (by omega) (by omega) (hbz eol hor)
 have L4 : Le z s4 := N1.le.trans (N2.le.trans (N3.le.trans N4.le))
 obtain ⟨pd, cd, qd, dd, s5, k7, N5, wd⟩ := xCZ (c := c) (d := d) (hz.le L4) (by omega) (by omega) hsh
 have L5 := L4.trans N5.le
 obtain ⟨pe, ce, s6, k8, N6, ie, _⟩ := zKG (c := ct) (SlV.le i6 L5) (by omega)
 have L6 := L5.trans N6.le
 obtain ⟨pB, cB, s7, k9, N7, iB, _⟩ := zVY (c := cd) (d := dd) (rc := c8) (tc := ce) (wd.le N6.le) hsh (SlV.le i8 L6) ie (by omega) (by omega) (hbz F.len hyr)
 have L7 := L6.trans N7.le
 have hAl := zSK (w := w) (ros := zT out) (tru := zT tru) (by omega) h6
 have hBl := zSK (w := w) (ros := zT ys) (tru := zT tru) (by omega) h6
 have iA7 := SlV.le iA (N5.le.trans (N6.le.trans N7.le))
 have hL := yNF (σ := σ) (n := n) (pB := pB) (lB := (zAR w (zT ys) (zT tru) m).length) (cB := cB) (cA := cA) (B := []) h w1 h12 (Lz.trans L7) iA7 hAl (fun b hb => by
  have := (zLK.1 hb).1
  rw [hln] at this; exact this)
 have hd : ∀ i, i < w.N.length → 0 ≤ (dty w i).day := fun i hi => (hs.duty i (by omega)).1
 have hr : ∀ i, i < w.N.length → zT ys i = if (dty w i).day ≤ (n : Int) then zT out i else -1 := fun i hi => F.at_ i (by omega)
 refine yGE (ldw z (Le.refl _)) k2 k3 k4 k5 (ldw s4 L4) k7 k8 k9 hL (fun b y hh => hh.elim) ?_ rfl rfl
 rintro p5 l5 c5 y ⟨J1, J3, e5⟩
 have iE := xCI J3 e5
 refine yGD (yMY (SlV.le iB J1.le) hBl) ?_
 rintro p9 l9 c9 y2 ⟨K1, K3, e9⟩
 have iF := xCI K3 e9
 have iE2 := SlV.le iE K1.le
 have hlen := xBZ (w := w) (ros := zT out) (ros' := zT ys) (tru := zT tru) (m := m) hd hr
 have hE : ((zAR w (zT out) (zT tru) m).filter (xF w n)).length ≤ 1000 := Nat.le_trans (List.length_filter_le _ _) hAl
 have g1 := yRH (c := c5) (d := c9) iE2 iF (by omega) (by omega) (fun b hb => (zUR hd hr).1 hb)
 have g2 := yRH (c := c9) (d := c5) iF iE2 (by omega) (by omega) (fun b hb => (zUR hd hr).2 hb)
 exact yGC g1 g2 rfl (by omega)
theorem yUN {dt : Int} (h : WkP σ 35 70 w p l q m) (hw : SlV Pg σ 5 1 pw lw (ws.map zML)) (hb : ∀ x ∈ ws, 0 ≤ x ∧ x ≤ 255) (he : SlV Pg σ 5 1 pe le (es.map zML)) (hbe : ∀ x ∈ es, 0 ≤ x ∧ x ≤ 255) (hdt : 0 ≤ dt ∧ dt ≤ 255) :
  yOW Pg 7 3 [.agg ⟨wkc w.M p l c q m d w.rest w.run w.j⟩, .slice pw lw cw, .slice pe le ce, .int .u8 dt] σ fun v _ => v = .bool true := by
 have hln := h.len.1
 have hm := h.len.2
 obtain ⟨t1, ht1⟩ : ∃ t1, t1 = σ.row (wkc w.M p l c q m d w.rest w.run w.j) 6 := ⟨_, rfl⟩
 have L1 : Le σ t1 := by rw [ht1]; exact Le.row _ _ _
 have w1 : Row t1 ⟨σ.y, 0, none⟩ (wkc w.M p l c q m d w.rest w.run w.j) := by rw [ht1]; exact xC _ _ _
 have hnx : σ.y < t1.y := w1.lt
 have k1 := xDZ (c := c) (d := d) (h.le L1)
 cases b0 : yAL w with
 | false =>
  rw [b0] at k1
  subst ht1
  exact xAM k1 rfl
 | true =>
 rw [b0] at k1
 have hr := b0
 unfold yAL at hr
 rw [Bool.and_eq_true, decide_eq_true_iff] at hr
 have hsh := (zRS hr.1).1
 have hf := hr.2
 have hs := Sane.of hf hsh hln hm
 have hdy := (zKP (zGW hf).2.2.1).1
 have h12 := hs.l12
 have h6 := hs.m6
 have ldw : ∀ s, Le t1 s → zB Pg s 25 ⟨σ.y, 0, none⟩ = some (.agg ⟨wkc w.M p l c q m d w.rest w.run w.j⟩) := fun s hs => (w1.le hs).ldN zJM zCK (k := 0) rfl rfl (nle rfl)
 have bn : ∀ s, Le t1 s → σ.y < s.y := fun s hs => by have := hs.y; omega
 have pab : ∀ s, Le t1 s → ∀ a, p = some a → a.block < s.y := fun s hs => vN ((h.le L1).le hs).dty
 have qab : ∀ s, Le t1 s → ∀ a, q = some a → a.block < s.y := fun s hs => by obtain ⟨vs, g, _⟩ := ((h.le L1).le hs).drv; exact vN g
 obtain ⟨n, en⟩ : ∃ n : Nat, dt.tmod w.M = (n : Int) := by
  have e2 : dt.tmod w.M = dt % w.M := Int.tmod_eq_emod_of_nonneg (by omega)
  have e3 := Int.emod_nonneg dt (show w.M ≠ 0 by omega)
  exact ⟨(dt % w.M).toNat, by omega⟩
 have rm : wW Pg .rem 3 (.tmp 27) (.tmp 29) (iV dt) (iV w.M) = some (iV (n : Int)) := by rw [zSJ (by omega), en]
 obtain ⟨out, p3, c3, s4, k3, N3, i3, hout⟩ := xGL (c := c) (d := d) (cw := cw) (h.le L1) (SlV.le hw L1) hb h12 h6
 have L4 : Le t1 s4 := N3.le
 have eol := i3.len
 have hor : Ros w (zT out) := (xDX (by omega)).2 (by rw [hm]; exact hout)
 obtain ⟨tru, p6, c6, s7, k5, N5, A5, etl, htr⟩ := xGJ (c := c) (d := d) (cw := ce) ((h.le L1).le L4) hs (SlV.le he (L1.trans L4)) hbe h12
 have i6 : yP s7 p6 l tru := Ax.slv (by rw [zAD _ .i64]; exact A5) (by simp [etl]) (fun v hv => by obtain ⟨x, _, rfl⟩ := List.mem_map.1 hv; exact zDJ x)
 have L7 : Le t1 s7 := L4.trans N5.le
 obtain ⟨q8, c8, s9, k11, N9, hL⟩ := xJM (σ := σ) (n := n) (cq := c3) (ct := c6) (p6 := p6) (h.le L1) w1 h12 L7 (SlV.le i3 N5.le)
 have b6 : yA t1.y [.agg ⟨wkc w.M p l c q m d w.rest w.run w.j⟩, .slice pw lw cw] := zR (zZN (pab t1 (Le.refl _)) (qab t1 (Le.refl _))) (zR (zAI (vN (SlV.le hw L1))) zV)
 have b7 : yA s4.y [.pointer (some ⟨σ.y, 0, none⟩)] := zR (yG (bn s4 L4)) zV
 have b8 : yA s4.y [.agg ⟨wkc w.M p l c q m d w.rest w.run w.j⟩, .slice pe le ce] := zR (zZN (pab s4 L4) (qab s4 L4)) (zR (zAI (vN (SlV.le he (L1.trans L4)))) zV)
 have e9 : ((⟨σ.y, 0, none⟩ : Addr).block < t1.y ∧ yS RD (.agg ⟨wkc w.M p l c q m d w.rest w.run w.j⟩) = true) ∧ zB Pg t1 25 ⟨σ.y, 0, none⟩ = some (.agg ⟨wkc w.M p l c q m d w.rest w.run w.j⟩) := ⟨⟨hnx, rfl⟩, ldw t1 (Le.refl _)⟩
 have e10 : ((⟨σ.y, 0, none⟩ : Addr).block < s4.y ∧ yS RD (.agg ⟨wkc w.M p l c q m d w.rest w.run w.j⟩) = true) ∧ zB Pg s4 25 ⟨σ.y, 0, none⟩ = some (.agg ⟨wkc w.M p l c q m d w.rest w.run w.j⟩) := ⟨⟨bn s4 L4, rfl⟩, ldw s4 L4⟩
 have k0 : ∀ y, (New s7 y ∧ ∃ ys, FewP w n l out ys ∧ yP y q8 l ys) → zEJ σ.y (n : Int) p3 l c3 p6 l c6 q8 l c8 y (fun v _ => v = .bool true) := by
  rintro y ⟨Ny, ys, F, i8⟩
  exact yVO (h.le L1) w1 hsh hf hs hln hm (L7.trans Ny.le) (SlV.le i3 (N5.le.trans Ny.le)) (SlV.le i6 Ny.le) i8 F hor htr
 have e4 := ldw s4 L4
 subst ht1
 exact xAN k1 rm k3 e4 k5 b6 b7 b8 e9 e10 k11 hL k0 ⟨by omega, by omega⟩
end
section
variable {σ : St}
theorem uQ {n : Nat} {cs : List Value} (h : WT Pg σ (n + 1) 3 cs) : ∃ i, cs = [yO i] := by
 unfold WT at h
 simp only [Try.underlying3] at h
 obtain ⟨i, h, _⟩ := h
 exact ⟨i, h⟩
theorem zLA {n : Nat} {t e : TypeId} {cs : List Value} {k : Nat} (hu : Pg.underlying t = some (.slice e)) (hk : Pg.cellsOf e = k) (h : WT Pg σ (n + 1) t cs) :
  ∃ p len cap rs, cs = [.slice p len cap] ∧ len ≤ maxLen ∧ SlP σ k p len rs ∧ rs.length = len * k ∧ ∀ i, i < len → WT Pg σ n e ((rs.drop (i * k)).take k) := by
 unfold WT at h
 simp only [hu, hk] at h
 rcases h with rfl | ⟨b, len, cap, rs, rfl, h1, h2, h3, h4, h5, h6⟩
 ·exact ⟨none, 0, 0, [], rfl, by decide, SlP.nil _ _, by simp, fun i hi => by omega⟩
 ·refine ⟨_, len, cap, rs, rfl, h1, ⟨h3, ?_, h5⟩, h3, h6⟩
  simp only [yH, h4, zU, wE, Nat.zero_add, List.drop_zero, List.take_length]
  show (bif Nat.ble rs.length rs.length then some rs else none) = some rs
  rw [show Nat.ble rs.length rs.length = true from by simp]; rfl
theorem zSO {α : Type} {k : Nat} {Q : List Value → Prop} {f : α → List Value} (hq : ∀ cs, Q cs → ∃ x, cs = f x) : ∀ (len : Nat) (rs : List Value), rs.length = len * k → (∀ i, i < len → Q ((rs.drop (i * k)).take k)) → ∃ xs : List α, xs.length = len ∧ rs = xs.flatMap f
 | 0, rs, hl, _ => ⟨[], rfl, by simpa using hl⟩
 | len + 1, rs, hl, h => by
  obtain ⟨x, hx⟩ := hq _ (h 0 (by omega))
  obtain ⟨xs, h1, h2⟩ := zSO (k := k) hq len (rs.drop k) (by simp [hl, Nat.add_mul]) (fun i hi => by
   have := h (i + 1) (by omega)
   rwa [Nat.add_mul, Nat.one_mul, Nat.add_comm (i * k), ← List.drop_drop] at this)
  refine ⟨x :: xs, by simp [h1], ?_⟩
  simp only [List.flatMap_cons, ← h2, ← hx]
  simp
theorem zYZ {α : Type} (f : α → List Value) (xs : List α) : xS (xs.map fun x => .agg ⟨f x⟩) = xs.flatMap f := by
 induction xs with
 | nil => rfl
 | cons x xs ih => rw [List.map_cons, List.flatMap_cons, ← ih]; simp [xS, Value.cells]
theorem xBM (xs : List Int) : xS (xs.map yO) = xs.flatMap fun x => [yO x] := by
 induction xs with
 | nil => rfl
 | cons x xs ih => rw [List.map_cons, List.flatMap_cons, ← ih]; rfl
theorem xGM {n : Nat} {cs : List Value} (h : WT Pg σ (n + 1) 5 cs) : ∃ i : Int, cs = [.int .u8 i] ∧ 0 ≤ i ∧ i ≤ 255 := by
 unfold WT at h
 simp only [Try.underlying5] at h
 obtain ⟨i, h, hk⟩ := h
 refine ⟨i, h, ?_⟩
 rw [show IntKind.u8.min = 0 by decide, show IntKind.u8.max = 255 by decide] at hk; exact hk
theorem yIZ {n : Nat} {t e : TypeId} {p : Option Addr} {l c k : Nat} (hu : Pg.underlying t = some (.slice e)) (hk : Pg.cellsOf e = k) (h : WT Pg σ (n + 1) t [.slice p l c]) : zOQ σ k p l c := by
 unfold WT at h
 simp only [hu, hk] at h
 rcases h with h | ⟨b, len, cap, rs, h1, h2, h3, h4, h5, h6, h7⟩
 ·obtain ⟨rfl, rfl, rfl⟩ : p = none ∧ l = 0 ∧ c = 0 := by simpa using h
  exact .inl ⟨rfl, rfl, rfl⟩
 ·obtain ⟨rfl, rfl, rfl⟩ : p = some ⟨b, 0, none⟩ ∧ l = len ∧ c = cap := by simpa using h1
  exact .inr ⟨b, rs, 1, true, rfl, by rw [← zOD h3.2]; exact h3.1, h3.2, h5, h4, h6⟩
theorem yAD {n : Nat} {cs : List Value} (h : WT Pg σ (n + 2) 29 cs) : ∃ p l c xs, cs = [.slice p l c] ∧ yP σ p l xs ∧ zOQ σ 1 p l c := by
 obtain ⟨p, l, c, rs, e1, _, s1, l1, w1⟩ := zLA Try.underlying29 (k := 1) (by kernel_rfl) h
 subst e1
 have ha := yIZ Try.underlying29 (k := 1) (by kernel_rfl) h
 obtain ⟨xs, n1, rfl⟩ := zSO (f := fun x : Int => [yO x]) (fun cs h => uQ h) l rs l1 w1
 refine ⟨p, l, c, xs, rfl, ⟨by rw [xBM]; exact s1, by simpa using n1, fun v hv => ?_⟩, ha⟩
 obtain ⟨x, _, rfl⟩ := List.mem_map.1 hv
 exact zDJ x
theorem yDG {n : Nat} {cs : List Value} (h : WT Pg σ (n + 2) 26 cs) : ∃ p l c, ∃ xs : List Int, cs = [.slice p l c] ∧ SlV Pg σ 5 1 p l (xs.map fun x => .int .u8 x) ∧ ∀ x ∈ xs, 0 ≤ x ∧ x ≤ 255 := by
 obtain ⟨p, l, c, rs, e1, _, s1, l1, w1⟩ := zLA Try.underlying26 (k := 1) (by kernel_rfl) h
 obtain ⟨xs, n1, rfl⟩ := zSO (f := fun x : {x : Int // 0 ≤ x ∧ x ≤ 255} => [Value.int .u8 x.1]) (fun cs h => by
  obtain ⟨i, e, h⟩ := xGM h
  exact ⟨⟨i, h⟩, e⟩) l rs l1 w1
 have hf : xS ((xs.map (·.1)).map fun x => Value.int .u8 x) = xs.flatMap fun x => [Value.int .u8 x.1] := by
  clear n1 s1 l1 w1
  induction xs with
  | nil => rfl
  | cons x xs ih => rw [List.map_cons, List.map_cons, List.flatMap_cons, ← ih]; rfl
 refine ⟨p, l, c, xs.map (·.1), e1, ⟨by rw [hf]; exact s1, by simpa using n1, fun v hv => ?_⟩, fun x hx => ?_⟩
 ·obtain ⟨x, _, rfl⟩ := List.mem_map.1 hv
  exact .inl ⟨yWP, rfl, rfl⟩
 ·obtain ⟨x, _, rfl⟩ := List.mem_map.1 hx
  exact x.2
theorem xHH {n : Nat} {cs : List Value} (h : WT Pg σ (n + 3) 35 cs) : ∃ x : Dty, cs = zE x.day x.on x.lo x.hi x.route := by
 unfold WT at h
 simp only [Try.underlying35] at h
 obtain ⟨hl, h⟩ := h
 have hl : cs.length = 5 := hl.trans (by kernel_rfl)
 obtain ⟨c1, c2, c3, c4, c5, rfl⟩ : ∃ c1 c2 c3 c4 c5, cs = [c1, c2, c3, c4, c5] := by
  match cs, hl with
  | [c1, c2, c3, c4, c5], _ => exact ⟨_, _, _, _, _, rfl⟩
 have k3 : Pg.cellsOf 3 = 1 := by kernel_rfl
 have k90 : Pg.cellsOf 33 = 2 := by kernel_rfl
 simp only [List.mem_cons, List.not_mem_nil, or_false, forall_eq_or_imp, forall_eq, k3, k90] at h
 obtain ⟨⟨_, h1⟩, ⟨_, h2⟩, ⟨_, h3⟩, ⟨_, h5⟩⟩ := h
 obtain ⟨x1, h1⟩ := uQ h1
 obtain ⟨x2, h2⟩ := uQ h2
 obtain ⟨x5, h5⟩ := uQ h5
 unfold WT at h3
 simp only [Try.underlying33] at h3
 obtain ⟨_, h3⟩ := h3
 simp only [List.mem_cons, List.not_mem_nil, or_false, forall_eq_or_imp, forall_eq, k3] at h3
 obtain ⟨⟨_, h3⟩, ⟨_, h4⟩⟩ := h3
 obtain ⟨x3, h3⟩ := uQ h3
 obtain ⟨x4, h4⟩ := uQ h4
 obtain rfl : c1 = yO x1 := by simpa using h1
 obtain rfl : c2 = yO x2 := by simpa using h2
 obtain rfl : c3 = yO x3 := by simpa using h3
 obtain rfl : c4 = yO x4 := by simpa using h4
 obtain rfl : c5 = yO x5 := by simpa using h5
 exact ⟨⟨x1, x2, x3, x4, x5⟩, rfl⟩
theorem xDQ {n : Nat} {cs : List Value} (h : WT Pg σ (n + 4) 22 cs) : ∃ p l c xs, cs = [.slice p l c] ∧ yIT σ 35 p l xs ∧ zOQ σ 5 p l c := by
 obtain ⟨p, l, c, rs, e1, _, s1, l1, w1⟩ := zLA Try.underlying22 (k := 5) (by kernel_rfl) h
 subst e1
 have ha := yIZ Try.underlying22 (k := 5) (by kernel_rfl) h
 obtain ⟨xs, n1, rfl⟩ := zSO (f := fun x : Dty => zE x.day x.on x.lo x.hi x.route) (fun cs h => xHH h) l rs l1 w1
 refine ⟨p, l, c, xs, rfl, ⟨?_, by simpa using n1, fun v hv => ?_⟩, ha⟩
 ·rw [zYZ fun x : Dty => zE x.day x.on x.lo x.hi x.route]; exact s1
 ·obtain ⟨x, _, rfl⟩ := List.mem_map.1 hv
  exact .inr ⟨xKH, zFQ, _, rfl, rfl⟩
def xIZ (σ : St) (v : Value) (x : Drv) : Prop := ∃ p l c q m d r n e, v = .agg ⟨zG p l c q m d r n e x.off x.row x.used⟩ ∧ (yP σ p l x.J ∧ zOQ σ 1 p l c) ∧ (yP σ q m x.qa ∧ zOQ σ 1 q m d) ∧ yP σ r n x.qb
theorem xIZ.v {v : Value} {x : Drv} (h : xIZ σ v x) : zQM σ v x := by
 obtain ⟨p, l, c, q, m, d, r, n, e, h1, h2, h3, h4⟩ := h
 exact ⟨p, l, c, q, m, d, r, n, e, h1, h2.1, h3.1, h4⟩
theorem xHI {n : Nat} {cs : List Value} (h : WT Pg σ (n + 3) 70 cs) : ∃ (x : Drv) (p q r : Option Addr) (l c m d j e : Nat), cs = zG p l c q m d r j e x.off x.row x.used ∧ (yP σ p l x.J ∧ zOQ σ 1 p l c) ∧ (yP σ q m x.qa ∧ zOQ σ 1 q m d) ∧ yP σ r j x.qb := by
 unfold WT at h
 simp only [Try.underlying70] at h
 obtain ⟨hl, h⟩ := h
 have hl : cs.length = 6 := hl.trans (by kernel_rfl)
 obtain ⟨c1, c2, c3, c4, c5, c6, rfl⟩ : ∃ c1 c2 c3 c4 c5 c6, cs = [c1, c2, c3, c4, c5, c6] := by
  match cs, hl with
  | [c1, c2, c3, c4, c5, c6], _ => exact ⟨_, _, _, _, _, _, rfl⟩
 have k3 : Pg.cellsOf 3 = 1 := by kernel_rfl
 have k26 : Pg.cellsOf 29 = 1 := by kernel_rfl
 simp only [List.mem_cons, List.not_mem_nil, or_false, forall_eq_or_imp, forall_eq, k3, k26] at h
 obtain ⟨⟨_, h1⟩, ⟨_, h2⟩, ⟨_, h3⟩, ⟨_, h4⟩, ⟨_, h5⟩, ⟨_, h6⟩⟩ := h
 obtain ⟨p1, l1, e1, x1, h1, i1, a1⟩ := yAD h1
 obtain ⟨p2, l2, e2, x2, h2, i2, a2⟩ := yAD h2
 obtain ⟨p3, l3, e3, x3, h3, i3, _⟩ := yAD h3
 obtain ⟨x4, h4⟩ := uQ h4
 obtain ⟨x5, h5⟩ := uQ h5
 obtain ⟨x6, h6⟩ := uQ h6
 obtain rfl : c1 = .slice p1 l1 e1 := by simpa using h1
 obtain rfl : c2 = .slice p2 l2 e2 := by simpa using h2
 obtain rfl : c3 = .slice p3 l3 e3 := by simpa using h3
 obtain rfl : c4 = yO x4 := by simpa using h4
 obtain rfl : c5 = yO x5 := by simpa using h5
 obtain rfl : c6 = yO x6 := by simpa using h6
 exact ⟨⟨x1, x2, x3, x4, x5, x6⟩, p1, p2, p3, l1, e1, l2, e2, l3, e3, rfl, ⟨i1, a1⟩, ⟨i2, a2⟩, i3⟩
structure DrvsA (σ : St) (p : Option Addr) (l c : Nat) (xs : List Drv) : Prop where
 vs : ∃ vs : List Value, SlV Pg σ 70 6 p l vs ∧ xs.length = l ∧ ∀ (i : Nat) (x : Drv), xs[i]? = some x → ∃ v, vs[i]? = some v ∧ xIZ σ v x
 arg : zOQ σ 6 p l c
theorem DrvsA.p {p : Option Addr} {l c : Nat} {xs : List Drv} (h : DrvsA σ p l c xs) : zQJ σ 70 p l xs := by
 obtain ⟨vs, h1, h2, h3⟩ := h.vs
 exact ⟨vs, h1, h2, fun i x hx => by obtain ⟨v, g1, g2⟩ := h3 i x hx; exact ⟨v, g1, g2.v⟩⟩
theorem xDR {n : Nat} {cs : List Value} (h : WT Pg σ (n + 4) 23 cs) : ∃ p l c xs, cs = [.slice p l c] ∧ DrvsA σ p l c xs := by
 obtain ⟨p, l, c, rs, e1, _, s1, l1, w1⟩ := zLA Try.underlying23 (k := 6) (by kernel_rfl) h
 subst e1
 have ha := yIZ Try.underlying23 (k := 6) (by kernel_rfl) h
 obtain ⟨xs, n1, rfl⟩ := zSO (f := fun x : {x : List Value × Drv // ∃ p q r l c m d j e, x.1 = zG p l c q m d r j e x.2.off x.2.row x.2.used ∧ (yP σ p l x.2.J ∧ zOQ σ 1 p l c) ∧ (yP σ q m x.2.qa ∧ zOQ σ 1 q m d) ∧ yP σ r j x.2.qb} => x.1.1) (fun cs h => by
  obtain ⟨x, p, q, r, l, c, m, d, j, e, h1, h2⟩ := xHI h
  exact ⟨⟨⟨cs, x⟩, p, q, r, l, c, m, d, j, e, h1, h2⟩, rfl⟩) l rs l1 w1
 refine ⟨p, l, c, xs.map fun x => x.1.2, rfl, ⟨⟨xs.map fun x => .agg ⟨x.1.1⟩, ⟨?_, by simpa using n1, fun v hv => ?_⟩, by simpa using n1, fun i x hx => ?_⟩, ha⟩⟩
 ·have : xS (xs.map fun x => Value.agg ⟨x.1.1⟩) = xs.flatMap fun x => x.1.1 := zYZ (fun x : {x : List Value × Drv // ∃ p q r l c m d j e, x.1 = zG p l c q m d r j e x.2.off x.2.row x.2.used ∧ (yP σ p l x.2.J ∧ zOQ σ 1 p l c) ∧ (yP σ q m x.2.qa ∧ zOQ σ 1 q m d) ∧ yP σ r j x.2.qb} => x.1.1) xs
  rw [this]; exact s1
 ·obtain ⟨x, _, rfl⟩ := List.mem_map.1 hv
  obtain ⟨p, q, r, l, c, m, d, j, e, h1, _⟩ := x.2
  exact .inr ⟨xCT, vS, _, rfl, by rw [h1]; rfl⟩
 ·rw [List.getElem?_map] at hx
  cases hy : xs[i]? with
  | none => rw [hy] at hx; cases hx
  | some y =>
   rw [hy] at hx
   obtain rfl : y.1.2 = x := by simpa using hx
   obtain ⟨p, q, r, l, c, m, d, j, e, h1, h2⟩ := y.2
   exact ⟨.agg ⟨y.1.1⟩, by rw [List.getElem?_map, hy]; rfl, p, l, c, q, m, d, r, j, e, by rw [h1], h2⟩
theorem xDP {n : Nat} {cs : List Value} (h : WT Pg σ (n + 5) 25 cs) : ∃ (w : Wk) (p q : Option Addr) (l c m d : Nat), cs = wkc w.M p l c q m d w.rest w.run w.j ∧ WkP σ 35 70 w p l q m ∧ zOQ σ 5 p l c ∧ DrvsA σ q m d w.L := by
 unfold WT at h
 simp only [Try.underlying25] at h
 obtain ⟨hl, h⟩ := h
 have hl : cs.length = 6 := hl.trans (by kernel_rfl)
 obtain ⟨c1, c2, c3, c4, c5, c6, rfl⟩ : ∃ c1 c2 c3 c4 c5 c6, cs = [c1, c2, c3, c4, c5, c6] := by
  match cs, hl with
  | [c1, c2, c3, c4, c5, c6], _ => exact ⟨_, _, _, _, _, _, rfl⟩
 have k3 : Pg.cellsOf 3 = 1 := by kernel_rfl
 have k22 : Pg.cellsOf 22 = 1 := by kernel_rfl
 have k23 : Pg.cellsOf 23 = 1 := by kernel_rfl
 simp only [List.mem_cons, List.not_mem_nil, or_false, forall_eq_or_imp, forall_eq, k3, k22, k23] at h
 obtain ⟨⟨_, h1⟩, ⟨_, h2⟩, ⟨_, h3⟩, ⟨_, h4⟩, ⟨_, h5⟩, ⟨_, h6⟩⟩ := h
 obtain ⟨x1, h1⟩ := uQ h1
 obtain ⟨p, l, c, xs, h2, i2, a2⟩ := xDQ h2
 obtain ⟨q, m, d, ys, h3, i3⟩ := xDR h3
 obtain ⟨x4, h4⟩ := uQ h4
 obtain ⟨x5, h5⟩ := uQ h5
 obtain ⟨x6, h6⟩ := uQ h6
 obtain rfl : c1 = yO x1 := by simpa using h1
 obtain rfl : c2 = .slice p l c := by simpa using h2
 obtain rfl : c3 = .slice q m d := by simpa using h3
 obtain rfl : c4 = yO x4 := by simpa using h4
 obtain rfl : c5 = yO x5 := by simpa using h5
 obtain rfl : c6 = yO x6 := by simpa using h6
 exact ⟨⟨x1, xs, ys, x4, x5, x6⟩, p, q, l, c, m, d, rfl, ⟨i2, i3.p⟩, a2, i3⟩
theorem yBM {ι : Inj} {av v : Value} (h : VR ι av v) (hv : ∀ cs, v ≠ .agg cs) : ∀ cs, av ≠ .agg cs := by
 rintro cs rfl
 cases h with
 | atom h => simp [vF] at h
 | agg _ _ => exact hv _ rfl
theorem yXV {W : World} {t e : TypeId} {v : Value} (hu : Pg.underlying t = some (.slice e)) (h : Value.okWide Pg W .any 0 t v) : ∀ cs, v ≠ .agg cs := by
 rintro cs rfl
 unfold Value.okWide at h
 rw [hu] at h
 simp [Cell.okWide, Cell.ok, hu] at h
theorem xFA {W : World} {t : TypeId} {k : IntKind} {v : Value} (hu : Pg.underlying t = some (.int k)) (h : Value.okWide Pg W .any 0 t v) : ∀ cs, v ≠ .agg cs := by
 rintro cs rfl
 unfold Value.okWide at h
 rw [hu] at h
 simp [Cell.okWide, Cell.ok, hu] at h
theorem zPV {v : Value} {p : Option Addr} {l c : Nat} (h : v.cells.toList = [.slice p l c]) (hn : ∀ cs, v ≠ .agg cs) : v = .slice p l c := by
 cases v with
 | agg cs => exact absurd rfl (hn cs)
 | _ => first | (simp [Value.cells] at h; done) | simpa [Value.cells] using h
theorem yVU {v : Value} {k : IntKind} {x : Int} (h : v.cells.toList = [.int k x]) (hn : ∀ cs, v ≠ .agg cs) : v = .int k x := by
 cases v with
 | agg cs => exact absurd rfl (hn cs)
 | _ => first | (simp [Value.cells] at h; done) | simpa [Value.cells] using h
end
end Go.Proofs.Ytgfiniccfpfplaa
