import Derived.Test.YtgfiniccfpfplaaXA
import Derived.Test.YtgfiniccfpfplaaPE
import Derived.Test.YtgfiniccfpfplaaTy
import Derived.Sort.AssemblyPlain
set_option linter.unusedVariables false
set_option linter.unusedSimpArgs false
set_option maxRecDepth 20000
namespace Go.Proofs.Ytgfiniccfpfplaa
open Go Go.Lay
open Try renaming prog → Pg
theorem zDO : AppT Pg 29 29 3 1 := zRE (by kernel_rfl)
theorem zDJ (x : Int) : zIQ Pg 3 1 (yO x) := .inl ⟨zK, rfl, rfl⟩
abbrev yP (σ : St) (p : Option Addr) (l : Nat) (xs : List Int) : Prop := SlV Pg σ 3 1 p l (xs.map yO)
theorem yP.len {σ : St} {p : Option Addr} {l : Nat} {xs : List Int} (h : yP σ p l xs) : xs.length = l := by have := h.2.1; simpa using this
theorem wU {σ : St} {α : Type} {t n len i : Nat} {p : Option Addr} {xs : List α} {f : α → Value} (h : SlV Pg σ t n p len (xs.map f)) (hi : i < len) : ∃ a, p = some a ∧ ∃ x, xs[i]? = some x ∧ zB Pg σ t (zH a (Int.toNat (i : Int) * n)) = some (f x) := by
 obtain ⟨a, rfl, _⟩ := h.some hi
 have hl : i < xs.length := by have := h.2.1; simp at this; omega
 exact ⟨a, rfl, xs[i], by simp, h.at rfl (by simp [hl])⟩
abbrev vC (d : Dty) : Value := .agg ⟨zE d.day d.on d.lo d.hi d.route⟩
abbrev yIT (σ : St) (t : Nat) (p : Option Addr) (l : Nat) (xs : List Dty) : Prop := SlV Pg σ t 5 p l (xs.map vC)
def zQM (σ : St) (v : Value) (x : Drv) : Prop := ∃ p l c q m d r n e, v = .agg ⟨zG p l c q m d r n e x.off x.row x.used⟩ ∧ yP σ p l x.J ∧ yP σ q m x.qa ∧ yP σ r n x.qb
def zQJ (σ : St) (t : Nat) (p : Option Addr) (l : Nat) (xs : List Drv) : Prop := ∃ vs : List Value, SlV Pg σ t 6 p l vs ∧ xs.length = l ∧ ∀ (i : Nat) (x : Drv), xs[i]? = some x → ∃ v, vs[i]? = some v ∧ zQM σ v x
section
variable {σ σ' : St} {td tv : Nat} {p q : Option Addr} {l m c d : Nat} {w : Wk}
theorem zQM.le {v : Value} {x : Drv} (h : zQM σ v x) (k : Le σ σ') : zQM σ' v x := by
 obtain ⟨p, l, c, q, m, d, r, n, e, h1, h2, h3, h4⟩ := h
 exact ⟨p, l, c, q, m, d, r, n, e, h1, h2.le k, h3.le k, h4.le k⟩
theorem zQJ.le {xs : List Drv} (h : zQJ σ tv p l xs) (k : Le σ σ') : zQJ σ' tv p l xs := by
 obtain ⟨vs, h1, h2, h3⟩ := h
 exact ⟨vs, h1.le k, h2, fun i x hi => by obtain ⟨v, g1, g2⟩ := h3 i x hi; exact ⟨v, g1, g2.le k⟩⟩
structure WkP (σ : St) (td tv : Nat) (w : Wk) (p : Option Addr) (l : Nat) (q : Option Addr) (m : Nat) : Prop where
 dty : yIT σ td p l w.N
 drv : zQJ σ tv q m w.L
theorem WkP.le (h : WkP σ td tv w p l q m) (k : Le σ σ') : WkP σ' td tv w p l q m := ⟨h.dty.le k, h.drv.le k⟩
theorem WkP.len (h : WkP σ td tv w p l q m) : w.N.length = l ∧ w.L.length = m := by
 have h1 := h.dty.2.1
 exact ⟨by simpa using h1, h.drv.choose_spec.2.1⟩
theorem zUL {α : Type} {F : α → Value} {n k : Nat} {x : α} {v : Value} (hn : ∀ y, (F y).cells.toList.length = n) (hk : k < n) (hv : (F x).cells.toList[k]? = some v) : ∀ {xs : List α} {i : Nat}, xs[i]? = some x → (xS (xs.map F))[i * n + k]? = some v
 | [], i, h => by simp at h
 | y :: ys, 0, h => by
  have : y = x := by simpa using h
  subst this
  have hl := hn y
  simp only [xS, List.map_cons, List.flatMap_cons, Nat.zero_mul, Nat.zero_add]
  rw [List.getElem?_append_left (by omega)]; exact hv
 | y :: ys, i + 1, h => by
  have ih := zUL hn hk hv (xs := ys) (i := i) (by simpa using h)
  have hl := hn y
  have e : (i + 1) * n + k = (F y).cells.toList.length + (i * n + k) := by rw [hl, Nat.add_mul, Nat.one_mul]; omega
  simp only [xS, List.map_cons, List.flatMap_cons] at ih ⊢
  rw [e, List.getElem?_append_right (by omega), Nat.add_sub_cancel_left]
  exact ih
theorem zYY {n k : Nat} {x v : Value} (hk : k < n) (hv : x.cells.toList[k]? = some v) : ∀ {vs : List Value} {i : Nat}, (∀ y ∈ vs, y.cells.toList.length = n) → vs[i]? = some x → (xS vs)[i * n + k]? = some v
 | [], i, _, h => by simp at h
 | y :: ys, 0, hn, h => by
  have : y = x := by simpa using h
  subst this
  have hl := hn y List.mem_cons_self
  simp only [xS, List.flatMap_cons, Nat.zero_mul, Nat.zero_add]
  rw [List.getElem?_append_left (by omega)]; exact hv
 | y :: ys, i + 1, hn, h => by
  have ih := zYY hk hv (vs := ys) (i := i) (fun z hz => hn z (List.mem_cons_of_mem _ hz)) (by simpa using h)
  have hl := hn y List.mem_cons_self
  have e : (i + 1) * n + k = y.cells.toList.length + (i * n + k) := by rw [hl, Nat.add_mul, Nat.one_mul]; omega
  simp only [xS, List.flatMap_cons] at ih ⊢
  rw [e, List.getElem?_append_right (by omega), Nat.add_sub_cancel_left]
  exact ih
theorem WkP.dld (h : WkP σ td tv w p l q m) {i k : Nat} {n : Int} (hi : i < l) (hk : k < 5) (hv : [(Go.Proofs.Ytgfiniccfpfplaa.dty w i).day, (Go.Proofs.Ytgfiniccfpfplaa.dty w i).on, (Go.Proofs.Ytgfiniccfpfplaa.dty w i).lo, (Go.Proofs.Ytgfiniccfpfplaa.dty w i).hi, (Go.Proofs.Ytgfiniccfpfplaa.dty w i).route][k]? = some n) : ∃ a, p = some a ∧ zB Pg σ 3 (zH a (Int.toNat (i : Int) * 5 + k)) = some (yO n) := by
 obtain ⟨a, rfl, hr⟩ := h.dty.some hi
 have hl := h.len.1
 have hx : w.N[i]? = some (Go.Proofs.Ytgfiniccfpfplaa.dty w i) := by
  unfold Go.Proofs.Ytgfiniccfpfplaa.dty
  rw [List.getD_eq_getElem?_getD, List.getElem?_eq_getElem (by omega)]; rfl
 refine ⟨a, rfl, ?_⟩
 rw [Int.toNat_natCast]
 refine hr.load1 zK ?_
 refine zUL (F := vC) (fun _ => rfl) hk ?_ hx
 match k, hk with
 | 0, _ => exact congrArg (Option.map yO) hv
 | 1, _ => exact congrArg (Option.map yO) hv
 | 2, _ => exact congrArg (Option.map yO) hv
 | 3, _ => exact congrArg (Option.map yO) hv
 | 4, _ => exact congrArg (Option.map yO) hv
theorem WkP.vld (h : WkP σ td tv w p l q m) (ht : wK Pg tv = some true) (hs : yN Pg tv = some 6) {i : Nat} (hi : i < m) : ∃ a, q = some a ∧ ∃ p l c r n d s j e, zB Pg σ tv (zH a (Int.toNat (i : Int) * 6)) = some (.agg ⟨zG p l c r n d s j e (Go.Proofs.Ytgfiniccfpfplaa.drv w i).off (Go.Proofs.Ytgfiniccfpfplaa.drv w i).row (Go.Proofs.Ytgfiniccfpfplaa.drv w i).used⟩) ∧
  yP σ p l (Go.Proofs.Ytgfiniccfpfplaa.drv w i).J ∧ yP σ r n (Go.Proofs.Ytgfiniccfpfplaa.drv w i).qa ∧ yP σ s j (Go.Proofs.Ytgfiniccfpfplaa.drv w i).qb ∧
  ∀ (k : Nat) (v : Value), (zG p l c r n d s j e (Go.Proofs.Ytgfiniccfpfplaa.drv w i).off (Go.Proofs.Ytgfiniccfpfplaa.drv w i).row (Go.Proofs.Ytgfiniccfpfplaa.drv w i).used)[k]? = some v → ∀ t, wK Pg t = some false → zB Pg σ t (zH a (Int.toNat (i : Int) * 6 + k)) = some v := by
 obtain ⟨vs, h1, h2, h3⟩ := h.drv
 obtain ⟨a, rfl, hr⟩ := h1.some hi
 have hx : w.L[i]? = some (Go.Proofs.Ytgfiniccfpfplaa.drv w i) := by
  unfold Go.Proofs.Ytgfiniccfpfplaa.drv
  rw [List.getD_eq_getElem?_getD, List.getElem?_eq_getElem (by omega)]; rfl
 obtain ⟨v, g1, p, l, c, r, n, d, s, j, e, rfl, g2, g3, g4⟩ := h3 i _ hx
 refine ⟨a, rfl, p, l, c, r, n, d, s, j, e, h1.at rfl g1, g2, g3, g4, ?_⟩
 intro k v hk t htt
 rw [Int.toNat_natCast]
 refine hr.load1 htt ?_
 have hk6 : k < 6 := by
  rcases Nat.lt_or_ge k 6 with h | h
  ·exact h
  ·rw [List.getElem?_eq_none (by simpa using h)] at hk; cases hk
 exact zYY hk6 (by exact hk) (fun y hy => (h1.2.2 y hy).len) g1
theorem zCQ {n lo hi : Int} : zD Pg 30 [iV n, iV lo, iV hi] σ (.bool (inB n lo hi)) σ := by
 by_cases h1 : lo ≤ n <;> by_cases h2 : n ≤ hi
 ·exact (yRS ⟨by simp [inB, h1, h2], Nat.le_refl _⟩).pure
 ·exact (yRR ⟨by simp [inB, h1, h2], Nat.le_refl _⟩).pure
 ·exact (zWO ⟨by simp [inB, h1], Nat.le_refl _⟩).pure
 ·exact (zWO ⟨by simp [inB, h1], Nat.le_refl _⟩).pure
theorem yYN {n lo hi : Int} : zD Pg 13 [iV n, iV lo, iV hi] σ (.bool (inB n lo hi)) σ := by
 by_cases h1 : lo ≤ n <;> by_cases h2 : n ≤ hi
 ·exact (xHU ⟨by simp [inB, h1, h2], Nat.le_refl _⟩).pure
 ·exact (xHT ⟨by simp [inB, h1, h2], Nat.le_refl _⟩).pure
 ·exact (yYM ⟨by simp [inB, h1], Nat.le_refl _⟩).pure
 ·exact (yYM ⟨by simp [inB, h1], Nat.le_refl _⟩).pure
def xY (xs : List Int) (lo hi : Int) : Bool := (List.range xs.length).all fun i => inB (xs.getD i 0) lo hi && (i == 0 || decide (xs.getD (i - 1) 0 < xs.getD i 0))
theorem yD {xs : List Int} {i : Nat} {x : Int} (h : xs[i]? = some x) : xs.getD i 0 = x := by rw [List.getD_eq_getElem?_getD, h]; rfl
theorem zHY {f : Nat → Bool} {n : Nat} : (List.range n).all f = true ↔ ∀ i, i < n → f i = true := by simp
theorem zSM {xs : List Int} {lo hi : Int} (h : yP σ p l xs) (hl : l ≤ 1073741824) : zD Pg 42 [.slice p l c, iV lo, iV hi] σ (.bool (xY xs lo hi)) σ := by
 have h1 := h.re
 have e1 := h.len
 have no : ∀ j, j < l → (inB (xs.getD j 0) lo hi && (j == 0 || decide (xs.getD (j - 1) 0 < xs.getD j 0))) = false → xY xs lo hi = false := by
  intro j hj hf
  cases hr : xY xs lo hi with
  | false => rfl
  | true => rw [zHY.1 hr j (by omega)] at hf; cases hf
 refine (ySQ (yAQ (Inv := fun k i τ => τ = σ.re ∧ ∃ j : Nat, i = j ∧ j + k = l ∧ ∀ i, i < j → (inB (xs.getD i 0) lo hi && (i == 0 || decide (xs.getD (i - 1) 0 < xs.getD i 0))) = true) (Qr := fun b τ => τ = σ.re ∧ b = false ∧ xY xs lo hi = false) (Q0 := fun τ => τ = σ.re ∧ xY xs lo hi = true) ?_ l 0 σ.re ⟨rfl, 0, rfl, by omega, fun i h => by omega⟩) ?_ ?_).pure
 ·rintro k i τ ⟨rfl, j, rfl, hk, he⟩
  by_cases hj : j < l
  ·obtain ⟨a, rfl, x, hx, l1⟩ := wU h1 hj
   have cin := yYN (σ := σ.re) (n := x) (lo := lo) (hi := hi)
   have gx := yD hx
   cases hb : inB x lo hi with
   | false =>
    rw [hb] at cin
    exact yKE l1 cin ⟨rfl, rfl, no j hj (by rw [gx, hb]; rfl)⟩
   | true =>
    rw [hb] at cin
    by_cases h0 : 0 < j
    ·obtain ⟨a', ea, y, hy, l2⟩ := wU h1 (show j - 1 < l by omega)
     cases ea
     have gy := yD hy
     have e : ((j : Int) - 1) = ((j - 1 : Nat) : Int) := by omega
     rw [← e] at l2
     by_cases hxy : x ≤ y
     ·exact yKH l1 cin l2 ⟨rfl, rfl, no j hj (by rw [gx, gy, hb]; simp; omega)⟩
     ·refine yKG l1 cin l2 ⟨k - 1, by omega, rfl, j + 1, by omega, by omega, ?_⟩
      intro i hi2
      by_cases e2 : i = j
      ·subst e2; rw [gx, gy, hb]; simp; omega
      ·exact he i (by omega)
    ·refine yKF l1 cin ⟨k - 1, by omega, rfl, j + 1, by omega, by omega, ?_⟩
     intro i hi2
     have e2 : i = j := by omega
     subst e2
     have : i = 0 := by omega
     rw [gx, hb, this]; rfl
  ·exact yKD ⟨rfl, zHY.2 fun i hi2 => he i (by omega)⟩
 ·rintro b τ ⟨rfl, rfl, hn⟩
  exact yAO ⟨by rw [hn], Nat.le_refl _⟩
 ·rintro τ ⟨rfl, hn⟩
  exact yAP ⟨by rw [hn], Nat.le_refl _⟩
theorem yAI {xs : List Int} {lo hi : Int} (h : yP σ p l xs) (hl : l ≤ 1073741824) : zD Pg 60 [.slice p l c, iV lo, iV hi] σ (.bool (xY xs lo hi)) σ := by
 have h1 := h.re
 have e1 := h.len
 have no : ∀ j, j < l → (inB (xs.getD j 0) lo hi && (j == 0 || decide (xs.getD (j - 1) 0 < xs.getD j 0))) = false → xY xs lo hi = false := by
  intro j hj hf
  cases hr : xY xs lo hi with
  | false => rfl
  | true => rw [zHY.1 hr j (by omega)] at hf; cases hf
 refine (yYB (yEG (Inv := fun k i τ => τ = σ.re ∧ ∃ j : Nat, i = j ∧ j + k = l ∧ ∀ i, i < j → (inB (xs.getD i 0) lo hi && (i == 0 || decide (xs.getD (i - 1) 0 < xs.getD i 0))) = true) (Qr := fun b τ => τ = σ.re ∧ b = false ∧ xY xs lo hi = false) (Q0 := fun τ => τ = σ.re ∧ xY xs lo hi = true) ?_ l 0 σ.re ⟨rfl, 0, rfl, by omega, fun i h => by omega⟩) ?_ ?_).pure
 ·rintro k i τ ⟨rfl, j, rfl, hk, he⟩
  by_cases hj : j < l
  ·obtain ⟨a, rfl, x, hx, l1⟩ := wU h1 hj
   have cin := zCQ (σ := σ.re) (n := x) (lo := lo) (hi := hi)
   have gx := yD hx
   cases hb : inB x lo hi with
   | false =>
    rw [hb] at cin
    exact ySK l1 cin ⟨rfl, rfl, no j hj (by rw [gx, hb]; rfl)⟩
   | true =>
    rw [hb] at cin
    by_cases h0 : 0 < j
    ·obtain ⟨a', ea, y, hy, l2⟩ := wU h1 (show j - 1 < l by omega)
     cases ea
     have gy := yD hy
     have e : ((j : Int) - 1) = ((j - 1 : Nat) : Int) := by omega
     rw [← e] at l2
     by_cases hxy : x ≤ y
     ·exact ySN l1 cin l2 ⟨rfl, rfl, no j hj (by rw [gx, gy, hb]; simp; omega)⟩
     ·refine ySM l1 cin l2 ⟨k - 1, by omega, rfl, j + 1, by omega, by omega, ?_⟩
      intro i hi2
      by_cases e2 : i = j
      ·subst e2; rw [gx, gy, hb]; simp; omega
      ·exact he i (by omega)
    ·refine ySL l1 cin ⟨k - 1, by omega, rfl, j + 1, by omega, by omega, ?_⟩
     intro i hi2
     have e2 : i = j := by omega
     subst e2
     have : i = 0 := by omega
     rw [gx, hb, this]; rfl
  ·exact ySJ ⟨rfl, zHY.2 fun i hi2 => he i (by omega)⟩
 ·rintro b τ ⟨rfl, rfl, hn⟩
  exact yEE ⟨by rw [hn], Nat.le_refl _⟩
 ·rintro τ ⟨rfl, hn⟩
  exact yEF ⟨by rw [hn], Nat.le_refl _⟩
end
section
variable {ak ar au am bg nE nA nB nD nF nK aJ di nG nH nJ nP nGC i2_2:Int} {ah ag qD qA qB qC qI:Option Addr} {ac ad aa ab BA lG cG lL cL lA cD lE cE lF cF:Nat} {σ:St} {Q:Value→St→Prop} {Inv:Nat→Int→St→Prop} {Qr Nx Pr:Int→St→Prop} {Q0 P0 Q2 P2:St→Prop} {bM dK:Addr}
theorem ySX (nx:Q (iV 3) (σ.row (wkc ak ah ac ad ag aa ab ar au am) 6)) (u1:12<((ac:Nat):Int):=by omega):zI Pg 25 [.agg ⟨wkc ak ah ac ad ag aa ab ar au am⟩] σ Q :=
 zF [.g,.g,.g,.l (.slice ah ac ad),.g,.b true,.g,.g,.g] (kd (an2 ((zC _ _ _).rw.ld zCA (k:=1) rfl:zB Pg (σ.row (wkc ak ah ac ad ag aa ab ar au am) 6) 22 ⟨σ.y,1,none⟩=some (.slice ah ac ad)) (zJ u1) nx))
theorem ySW (nx:Q (iV 3) (σ.row (wkc ak ah ac ad ag aa ab ar au am) 6)) (u1:¬ 12<((ac:Nat):Int):=by omega) (u2:6<((aa:Nat):Int):=by omega):zI Pg 25 [.agg ⟨wkc ak ah ac ad ag aa ab ar au am⟩] σ Q :=
 let s1:=σ.row (wkc ak ah ac ad ag aa ab ar au am) 6;zF [.g,.g,.g,.l (.slice ah ac ad),.g,.b false,.g,.g,.l (.slice ag aa ab),.g,.b true,.g,.g] (kd (an4 ((zC _ _ _).rw.ld zCA (k:=1) rfl:zB Pg s1 22 ⟨σ.y,1,none⟩=some (.slice ah ac ad)) (zM u1) ((zC _ _ _).rw.ld zHK (k:=2) rfl:zB Pg s1 23 ⟨σ.y,2,none⟩=some (.slice ag aa ab)) (zJ u2) nx))
noncomputable def zWZ:Code:=(Code.part [1,1,1,0,1,0,0] (zO Pg 25))
def zCX (BA:Nat) (bg:Int):List (Nat × Value):=[(1,.pointer (some ⟨BA,0,none⟩)),(3,iV bg)]
def yKZ (BA:Nat) (Q:Int→St→Prop):Alt:=⟨Int,.normal,fun t=>zCX BA t,fun t=>[],fun t σ=>Q t σ⟩
def zPD (BA:Nat) (aJ:Int):List (Nat × Value):=[(2,iV aJ)]
def zGD (BA:Nat) (Q:Int→St→Prop):Alt:=⟨Int,.ret,fun t=>zPD BA t,fun t=>[],fun t σ=>Q t σ⟩
def zPE (BA:Nat):List (Nat × Value):=[(1,.pointer (some ⟨BA,0,none⟩))]
def zGE (BA:Nat) (Q:St→Prop):Alt:=⟨Unit,(.exit 0),fun t=>zPE BA,fun t=>[],fun t σ=>Q σ⟩
def vX (BA:Nat) (bg:Int) (σ:St) (Nx:Int→St→Prop) (Qr:Int→St→Prop) (Q0:St→Prop):Prop:=yJ Pg (zS Pg) none zWZ 145 (zCX BA bg) [] [yKZ BA Nx,zGD BA Qr,zGE BA Q0] σ
def zXB (BA:Nat) (bg:Int) (σ:St) (Qr:Int→St→Prop) (Q0:St→Prop):Prop:=yR Pg (zS Pg) none zWZ 145 (zCX BA bg) [] [zGD BA Qr,zGE BA Q0] σ
theorem yAW (hb:∀ k bg σ,Inv k bg σ→vX BA bg σ (NX1 Inv k) Qr Q0):∀ k bg σ,Inv k bg σ→zXB BA bg σ Qr Q0 :=
 yV (ai zAQ (ai (wA 0) trivial)) hb
theorem yKX (h1:zB Pg σ 22 ⟨BA,1,none⟩=some (.slice (some bM) lG cG)) (h2:zB Pg σ 35 (zH bM (Int.toNat bg*5))=some (.agg ⟨zE nE nA nB nD nF⟩)) (h3:zB Pg ((σ.row (zE 0 0 0 0 0) 5).own σ.y (zE nE nA nB nD nF) 5) 3 ⟨BA,0,none⟩=some (iV nK)) (h4:zD Pg 13 [iV nE,iV 0,iV (nK-1)] ((σ.row (zE 0 0 0 0 0) 5).own σ.y (zE nE nA nB nD nF) 5) (.bool true) ((σ.row (zE 0 0 0 0 0) 5).own σ.y (zE nE nA nB nD nF) 5)) (h5:zD Pg 13 [iV nA,iV 0,iV 1439] ((σ.row (zE 0 0 0 0 0) 5).own σ.y (zE nE nA nB nD nF) 5) (.bool true) ((σ.row (zE 0 0 0 0 0) 5).own σ.y (zE nE nA nB nD nF) 5)) (h6:zD Pg 13 [iV nB,iV nA,iV nD] ((σ.row (zE 0 0 0 0 0) 5).own σ.y (zE nE nA nB nD nF) 5) (.bool true) ((σ.row (zE 0 0 0 0 0) 5).own σ.y (zE nE nA nB nD nF) 5)) (nx:Qr (1:Int) ((σ.row (zE 0 0 0 0 0) 5).own σ.y (zE nE nA nB nD nF) 5)) (u1:bg<((lG:Nat):Int):=by omega) (u2:Ix bg lG:=by omega) (u3:I6 (nK-1):=by omega) (u4:I6 (nA+1440):=by omega) (u5:(nA+1440)<nD:=by omega):vX BA bg σ Nx Qr Q0 :=
 let s1:=σ.row (zE 0 0 0 0 0) 5;let s2:=s1.own σ.y (zE nE nA nB nD nF) 5;kO 1 (1:Int) [.g,.g,.l (.slice (some bM) lG cG),.g,.b true,.g,.l (.slice (some bM) lG cG),.g,.i,.l (.agg ⟨zE nE nA nB nD nF⟩),.g,.e undef s2,.g,.l (iV nE),.g,.l (iV nK),.n (nK-1),.c (.bool true) s2,.g,.g,.g,.l (iV nA),.c (.bool true) s2,.g,.g,.g,.g,.g,.l (iV nB),.g,.l (iV nA),.g,.g,.l (iV nD),.c (.bool true) s2,.g,.g,.g,.g,.g,.l (iV nD),.g,.l (iV nA),.n (nA+1440),.b true,.g,.g,.g,.g] (fun _ f=>(an2 h1 (zJ u1) (an6 h1 u2 h2 ((zC _ _ _).store (vs:=(zE nE nA nB nD nF)) rfl zFQ rfl (nle rfl) rfl:zL Pg (evL [.pointer (some ⟨σ.y,0,none⟩),.agg ⟨zE nE nA nB nD nF⟩]) s1 (.store 35 (.tmp 0) (.tmp 1))=some (undef,s2)) ((zC _ _ _).put.rw.ld zK (k:=0) rfl:zB Pg s2 3 ⟨σ.y,0,none⟩=some (iV nE)) h3 (an6 (w64 u3) h4 ((zC _ _ _).put.rw.ld zK (k:=1) rfl:zB Pg s2 3 ⟨σ.y,1,none⟩=some (iV nA)) h5 ((zC _ _ _).put.rw.ld zK (k:=2) rfl:zB Pg s2 3 ⟨σ.y,2,none⟩=some (iV nB)) ((zC _ _ _).put.rw.ld zK (k:=1) rfl:zB Pg s2 3 ⟨σ.y,1,none⟩=some (iV nA)) (an6 ((zC _ _ _).put.rw.ld zK (k:=3) rfl:zB Pg s2 3 ⟨σ.y,3,none⟩=some (iV nD)) h6 ((zC _ _ _).put.rw.ld zK (k:=3) rfl:zB Pg s2 3 ⟨σ.y,3,none⟩=some (iV nD)) ((zC _ _ _).put.rw.ld zK (k:=1) rfl:zB Pg s2 3 ⟨σ.y,1,none⟩=some (iV nA)) (w64 u4) (zJ u5) f))))) nx
theorem yKW (h1:zB Pg σ 22 ⟨BA,1,none⟩=some (.slice (some bM) lG cG)) (h2:zB Pg σ 35 (zH bM (Int.toNat bg*5))=some (.agg ⟨zE nE nA nB nD nF⟩)) (h3:zB Pg ((σ.row (zE 0 0 0 0 0) 5).own σ.y (zE nE nA nB nD nF) 5) 3 ⟨BA,0,none⟩=some (iV nK)) (h4:zD Pg 13 [iV nE,iV 0,iV (nK-1)] ((σ.row (zE 0 0 0 0 0) 5).own σ.y (zE nE nA nB nD nF) 5) (.bool true) ((σ.row (zE 0 0 0 0 0) 5).own σ.y (zE nE nA nB nD nF) 5)) (h5:zD Pg 13 [iV nA,iV 0,iV 1439] ((σ.row (zE 0 0 0 0 0) 5).own σ.y (zE nE nA nB nD nF) 5) (.bool true) ((σ.row (zE 0 0 0 0 0) 5).own σ.y (zE nE nA nB nD nF) 5)) (h6:zD Pg 13 [iV nB,iV nA,iV nD] ((σ.row (zE 0 0 0 0 0) 5).own σ.y (zE nE nA nB nD nF) 5) (.bool true) ((σ.row (zE 0 0 0 0 0) 5).own σ.y (zE nE nA nB nD nF) 5)) (h7:zD Pg 13 [iV nF,iV 0,iV 15] ((σ.row (zE 0 0 0 0 0) 5).own σ.y (zE nE nA nB nD nF) 5) (.bool true) ((σ.row (zE 0 0 0 0 0) 5).own σ.y (zE nE nA nB nD nF) 5)) (nx:Nx (bg+1) ((σ.row (zE 0 0 0 0 0) 5).own σ.y (zE nE nA nB nD nF) 5)) (u1:bg<((lG:Nat):Int):=by omega) (u2:Ix bg lG:=by omega) (u3:I6 (nK-1):=by omega) (u4:I6 (nA+1440):=by omega) (u5:¬ (nA+1440)<nD:=by omega) (u6:I6 (bg+1):=by omega):vX BA bg σ Nx Qr Q0 :=
 let s1:=σ.row (zE 0 0 0 0 0) 5;let s2:=s1.own σ.y (zE nE nA nB nD nF) 5;kO 0 (bg+1) [.g,.g,.l (.slice (some bM) lG cG),.g,.b true,.g,.l (.slice (some bM) lG cG),.g,.i,.l (.agg ⟨zE nE nA nB nD nF⟩),.g,.e undef s2,.g,.l (iV nE),.g,.l (iV nK),.n (nK-1),.c (.bool true) s2,.g,.g,.g,.l (iV nA),.c (.bool true) s2,.g,.g,.g,.g,.g,.l (iV nB),.g,.l (iV nA),.g,.g,.l (iV nD),.c (.bool true) s2,.g,.g,.g,.g,.g,.l (iV nD),.g,.l (iV nA),.n (nA+1440),.b false,.g,.g,.g,.l (iV nF),.c (.bool true) s2,.g,.g,.g,.n (bg+1),.g] (fun _ f=>(an5 h1 (zJ u1) h1 u2 h2 (an6 ((zC _ _ _).store (vs:=(zE nE nA nB nD nF)) rfl zFQ rfl (nle rfl) rfl:zL Pg (evL [.pointer (some ⟨σ.y,0,none⟩),.agg ⟨zE nE nA nB nD nF⟩]) s1 (.store 35 (.tmp 0) (.tmp 1))=some (undef,s2)) ((zC _ _ _).put.rw.ld zK (k:=0) rfl:zB Pg s2 3 ⟨σ.y,0,none⟩=some (iV nE)) h3 (w64 u3) h4 ((zC _ _ _).put.rw.ld zK (k:=1) rfl:zB Pg s2 3 ⟨σ.y,1,none⟩=some (iV nA)) (an6 h5 ((zC _ _ _).put.rw.ld zK (k:=2) rfl:zB Pg s2 3 ⟨σ.y,2,none⟩=some (iV nB)) ((zC _ _ _).put.rw.ld zK (k:=1) rfl:zB Pg s2 3 ⟨σ.y,1,none⟩=some (iV nA)) ((zC _ _ _).put.rw.ld zK (k:=3) rfl:zB Pg s2 3 ⟨σ.y,3,none⟩=some (iV nD)) h6 ((zC _ _ _).put.rw.ld zK (k:=3) rfl:zB Pg s2 3 ⟨σ.y,3,none⟩=some (iV nD)) (an6 ((zC _ _ _).put.rw.ld zK (k:=1) rfl:zB Pg s2 3 ⟨σ.y,1,none⟩=some (iV nA)) (w64 u4) (zM u5) ((zC _ _ _).put.rw.ld zK (k:=4) rfl:zB Pg s2 3 ⟨σ.y,4,none⟩=some (iV nF)) h7 (w64 u6) f))))) nx
theorem yKV (h1:zB Pg σ 22 ⟨BA,1,none⟩=some (.slice (some bM) lG cG)) (h2:zB Pg σ 35 (zH bM (Int.toNat bg*5))=some (.agg ⟨zE nE nA nB nD nF⟩)) (h3:zB Pg ((σ.row (zE 0 0 0 0 0) 5).own σ.y (zE nE nA nB nD nF) 5) 3 ⟨BA,0,none⟩=some (iV nK)) (h4:zD Pg 13 [iV nE,iV 0,iV (nK-1)] ((σ.row (zE 0 0 0 0 0) 5).own σ.y (zE nE nA nB nD nF) 5) (.bool true) ((σ.row (zE 0 0 0 0 0) 5).own σ.y (zE nE nA nB nD nF) 5)) (h5:zD Pg 13 [iV nA,iV 0,iV 1439] ((σ.row (zE 0 0 0 0 0) 5).own σ.y (zE nE nA nB nD nF) 5) (.bool true) ((σ.row (zE 0 0 0 0 0) 5).own σ.y (zE nE nA nB nD nF) 5)) (h6:zD Pg 13 [iV nB,iV nA,iV nD] ((σ.row (zE 0 0 0 0 0) 5).own σ.y (zE nE nA nB nD nF) 5) (.bool true) ((σ.row (zE 0 0 0 0 0) 5).own σ.y (zE nE nA nB nD nF) 5)) (h7:zD Pg 13 [iV nF,iV 0,iV 15] ((σ.row (zE 0 0 0 0 0) 5).own σ.y (zE nE nA nB nD nF) 5) (.bool false) ((σ.row (zE 0 0 0 0 0) 5).own σ.y (zE nE nA nB nD nF) 5)) (nx:Qr (1:Int) ((σ.row (zE 0 0 0 0 0) 5).own σ.y (zE nE nA nB nD nF) 5)) (u1:bg<((lG:Nat):Int):=by omega) (u2:Ix bg lG:=by omega) (u3:I6 (nK-1):=by omega) (u4:I6 (nA+1440):=by omega) (u5:¬ (nA+1440)<nD:=by omega):vX BA bg σ Nx Qr Q0 :=
 let s1:=σ.row (zE 0 0 0 0 0) 5;let s2:=s1.own σ.y (zE nE nA nB nD nF) 5;kO 1 (1:Int) [.g,.g,.l (.slice (some bM) lG cG),.g,.b true,.g,.l (.slice (some bM) lG cG),.g,.i,.l (.agg ⟨zE nE nA nB nD nF⟩),.g,.e undef s2,.g,.l (iV nE),.g,.l (iV nK),.n (nK-1),.c (.bool true) s2,.g,.g,.g,.l (iV nA),.c (.bool true) s2,.g,.g,.g,.g,.g,.l (iV nB),.g,.l (iV nA),.g,.g,.l (iV nD),.c (.bool true) s2,.g,.g,.g,.g,.g,.l (iV nD),.g,.l (iV nA),.n (nA+1440),.b false,.g,.g,.g,.l (iV nF),.c (.bool false) s2,.g,.g,.g] (fun _ f=>(an4 h1 (zJ u1) h1 u2 (an6 h2 ((zC _ _ _).store (vs:=(zE nE nA nB nD nF)) rfl zFQ rfl (nle rfl) rfl:zL Pg (evL [.pointer (some ⟨σ.y,0,none⟩),.agg ⟨zE nE nA nB nD nF⟩]) s1 (.store 35 (.tmp 0) (.tmp 1))=some (undef,s2)) ((zC _ _ _).put.rw.ld zK (k:=0) rfl:zB Pg s2 3 ⟨σ.y,0,none⟩=some (iV nE)) h3 (w64 u3) h4 (an6 ((zC _ _ _).put.rw.ld zK (k:=1) rfl:zB Pg s2 3 ⟨σ.y,1,none⟩=some (iV nA)) h5 ((zC _ _ _).put.rw.ld zK (k:=2) rfl:zB Pg s2 3 ⟨σ.y,2,none⟩=some (iV nB)) ((zC _ _ _).put.rw.ld zK (k:=1) rfl:zB Pg s2 3 ⟨σ.y,1,none⟩=some (iV nA)) ((zC _ _ _).put.rw.ld zK (k:=3) rfl:zB Pg s2 3 ⟨σ.y,3,none⟩=some (iV nD)) h6 (an6 ((zC _ _ _).put.rw.ld zK (k:=3) rfl:zB Pg s2 3 ⟨σ.y,3,none⟩=some (iV nD)) ((zC _ _ _).put.rw.ld zK (k:=1) rfl:zB Pg s2 3 ⟨σ.y,1,none⟩=some (iV nA)) (w64 u4) (zM u5) ((zC _ _ _).put.rw.ld zK (k:=4) rfl:zB Pg s2 3 ⟨σ.y,4,none⟩=some (iV nF)) h7 f))))) nx
theorem yKU (h1:zB Pg σ 22 ⟨BA,1,none⟩=some (.slice (some bM) lG cG)) (h2:zB Pg σ 35 (zH bM (Int.toNat bg*5))=some (.agg ⟨zE nE nA nB nD nF⟩)) (h3:zB Pg ((σ.row (zE 0 0 0 0 0) 5).own σ.y (zE nE nA nB nD nF) 5) 3 ⟨BA,0,none⟩=some (iV nK)) (h4:zD Pg 13 [iV nE,iV 0,iV (nK-1)] ((σ.row (zE 0 0 0 0 0) 5).own σ.y (zE nE nA nB nD nF) 5) (.bool true) ((σ.row (zE 0 0 0 0 0) 5).own σ.y (zE nE nA nB nD nF) 5)) (h5:zD Pg 13 [iV nA,iV 0,iV 1439] ((σ.row (zE 0 0 0 0 0) 5).own σ.y (zE nE nA nB nD nF) 5) (.bool true) ((σ.row (zE 0 0 0 0 0) 5).own σ.y (zE nE nA nB nD nF) 5)) (h6:zD Pg 13 [iV nB,iV nA,iV nD] ((σ.row (zE 0 0 0 0 0) 5).own σ.y (zE nE nA nB nD nF) 5) (.bool false) ((σ.row (zE 0 0 0 0 0) 5).own σ.y (zE nE nA nB nD nF) 5)) (nx:Qr (1:Int) ((σ.row (zE 0 0 0 0 0) 5).own σ.y (zE nE nA nB nD nF) 5)) (u1:bg<((lG:Nat):Int):=by omega) (u2:Ix bg lG:=by omega) (u3:I6 (nK-1):=by omega):vX BA bg σ Nx Qr Q0 :=
 let s1:=σ.row (zE 0 0 0 0 0) 5;let s2:=s1.own σ.y (zE nE nA nB nD nF) 5;kO 1 (1:Int) [.g,.g,.l (.slice (some bM) lG cG),.g,.b true,.g,.l (.slice (some bM) lG cG),.g,.i,.l (.agg ⟨zE nE nA nB nD nF⟩),.g,.e undef s2,.g,.l (iV nE),.g,.l (iV nK),.n (nK-1),.c (.bool true) s2,.g,.g,.g,.l (iV nA),.c (.bool true) s2,.g,.g,.g,.g,.g,.l (iV nB),.g,.l (iV nA),.g,.g,.l (iV nD),.c (.bool false) s2,.g,.g,.g,.g,.g,.g,.g] (fun _ f=>(an4 h1 (zJ u1) h1 u2 (an6 h2 ((zC _ _ _).store (vs:=(zE nE nA nB nD nF)) rfl zFQ rfl (nle rfl) rfl:zL Pg (evL [.pointer (some ⟨σ.y,0,none⟩),.agg ⟨zE nE nA nB nD nF⟩]) s1 (.store 35 (.tmp 0) (.tmp 1))=some (undef,s2)) ((zC _ _ _).put.rw.ld zK (k:=0) rfl:zB Pg s2 3 ⟨σ.y,0,none⟩=some (iV nE)) h3 (w64 u3) h4 (an6 ((zC _ _ _).put.rw.ld zK (k:=1) rfl:zB Pg s2 3 ⟨σ.y,1,none⟩=some (iV nA)) h5 ((zC _ _ _).put.rw.ld zK (k:=2) rfl:zB Pg s2 3 ⟨σ.y,2,none⟩=some (iV nB)) ((zC _ _ _).put.rw.ld zK (k:=1) rfl:zB Pg s2 3 ⟨σ.y,1,none⟩=some (iV nA)) ((zC _ _ _).put.rw.ld zK (k:=3) rfl:zB Pg s2 3 ⟨σ.y,3,none⟩=some (iV nD)) h6 f)))) nx
theorem yKT (h1:zB Pg σ 22 ⟨BA,1,none⟩=some (.slice (some bM) lG cG)) (h2:zB Pg σ 35 (zH bM (Int.toNat bg*5))=some (.agg ⟨zE nE nA nB nD nF⟩)) (h3:zB Pg ((σ.row (zE 0 0 0 0 0) 5).own σ.y (zE nE nA nB nD nF) 5) 3 ⟨BA,0,none⟩=some (iV nK)) (h4:zD Pg 13 [iV nE,iV 0,iV (nK-1)] ((σ.row (zE 0 0 0 0 0) 5).own σ.y (zE nE nA nB nD nF) 5) (.bool true) ((σ.row (zE 0 0 0 0 0) 5).own σ.y (zE nE nA nB nD nF) 5)) (h5:zD Pg 13 [iV nA,iV 0,iV 1439] ((σ.row (zE 0 0 0 0 0) 5).own σ.y (zE nE nA nB nD nF) 5) (.bool false) ((σ.row (zE 0 0 0 0 0) 5).own σ.y (zE nE nA nB nD nF) 5)) (nx:Qr (1:Int) ((σ.row (zE 0 0 0 0 0) 5).own σ.y (zE nE nA nB nD nF) 5)) (u1:bg<((lG:Nat):Int):=by omega) (u2:Ix bg lG:=by omega) (u3:I6 (nK-1):=by omega):vX BA bg σ Nx Qr Q0 :=
 let s1:=σ.row (zE 0 0 0 0 0) 5;let s2:=s1.own σ.y (zE nE nA nB nD nF) 5;kO 1 (1:Int) [.g,.g,.l (.slice (some bM) lG cG),.g,.b true,.g,.l (.slice (some bM) lG cG),.g,.i,.l (.agg ⟨zE nE nA nB nD nF⟩),.g,.e undef s2,.g,.l (iV nE),.g,.l (iV nK),.n (nK-1),.c (.bool true) s2,.g,.g,.g,.l (iV nA),.c (.bool false) s2,.g,.g,.g,.g,.g,.g,.g,.g,.g] (fun _ f=>(an6 h1 (zJ u1) h1 u2 h2 ((zC _ _ _).store (vs:=(zE nE nA nB nD nF)) rfl zFQ rfl (nle rfl) rfl:zL Pg (evL [.pointer (some ⟨σ.y,0,none⟩),.agg ⟨zE nE nA nB nD nF⟩]) s1 (.store 35 (.tmp 0) (.tmp 1))=some (undef,s2)) (an6 ((zC _ _ _).put.rw.ld zK (k:=0) rfl:zB Pg s2 3 ⟨σ.y,0,none⟩=some (iV nE)) h3 (w64 u3) h4 ((zC _ _ _).put.rw.ld zK (k:=1) rfl:zB Pg s2 3 ⟨σ.y,1,none⟩=some (iV nA)) h5 f))) nx
theorem yKS (h1:zB Pg σ 22 ⟨BA,1,none⟩=some (.slice (some bM) lG cG)) (h2:zB Pg σ 35 (zH bM (Int.toNat bg*5))=some (.agg ⟨zE nE nA nB nD nF⟩)) (h3:zB Pg ((σ.row (zE 0 0 0 0 0) 5).own σ.y (zE nE nA nB nD nF) 5) 3 ⟨BA,0,none⟩=some (iV nK)) (h4:zD Pg 13 [iV nE,iV 0,iV (nK-1)] ((σ.row (zE 0 0 0 0 0) 5).own σ.y (zE nE nA nB nD nF) 5) (.bool false) ((σ.row (zE 0 0 0 0 0) 5).own σ.y (zE nE nA nB nD nF) 5)) (nx:Qr (1:Int) ((σ.row (zE 0 0 0 0 0) 5).own σ.y (zE nE nA nB nD nF) 5)) (u1:bg<((lG:Nat):Int):=by omega) (u2:Ix bg lG:=by omega) (u3:I6 (nK-1):=by omega):vX BA bg σ Nx Qr Q0 :=
 let s1:=σ.row (zE 0 0 0 0 0) 5;let s2:=s1.own σ.y (zE nE nA nB nD nF) 5;kO 1 (1:Int) [.g,.g,.l (.slice (some bM) lG cG),.g,.b true,.g,.l (.slice (some bM) lG cG),.g,.i,.l (.agg ⟨zE nE nA nB nD nF⟩),.g,.e undef s2,.g,.l (iV nE),.g,.l (iV nK),.n (nK-1),.c (.bool false) s2,.g,.g,.g,.g,.g,.g,.g,.g,.g,.g] (fun _ f=>(an4 h1 (zJ u1) h1 u2 (an6 h2 ((zC _ _ _).store (vs:=(zE nE nA nB nD nF)) rfl zFQ rfl (nle rfl) rfl:zL Pg (evL [.pointer (some ⟨σ.y,0,none⟩),.agg ⟨zE nE nA nB nD nF⟩]) s1 (.store 35 (.tmp 0) (.tmp 1))=some (undef,s2)) ((zC _ _ _).put.rw.ld zK (k:=0) rfl:zB Pg s2 3 ⟨σ.y,0,none⟩=some (iV nE)) h3 (w64 u3) h4 f))) nx
theorem yKR (h1:zB Pg σ 22 ⟨BA,1,none⟩=some (.slice qD lG cG)) (nx:Q0 σ) (u1:¬ bg<((lG:Nat):Int):=by omega):vX BA bg σ Nx Qr Q0 :=
 kO 2 () [.g,.g,.l (.slice qD lG cG),.g,.b false] (fun _ f=>(an2 h1 (zM u1) f)) nx
def zPH (BA:Nat) (aJ:Int) (σ:St) (Q:Value→St→Prop):Prop:=∀ g:Nat→Value,∃ an,Hid (kAt Pg (zS Pg) none (zO Pg 25) [1,1,1,0,1,0] (kFn Pg 25 Q) .ret ⟨Fm 145 (ov (zPD BA aJ) g),[]⟩ σ an)
def zPI (BA:Nat) (σ:St) (Q:Value→St→Prop):Prop:=∀ g:Nat→Value,∃ an,Hid (kAt Pg (zS Pg) none (zO Pg 25) [1,1,1,0,1,0] (kFn Pg 25 Q) (.exit 0) ⟨Fm 145 (ov (zPE BA) g),[]⟩ σ an)
theorem ySV (h1:zD Pg 13 [iV ak,iV 1,iV 7] (σ.row (wkc ak ah ac ad ag aa ab ar au am) 6) (.bool true) (σ.row (wkc ak ah ac ad ag aa ab ar au am) 6)) (h2:zD Pg 13 [iV ar,iV 0,iV 3000] (σ.row (wkc ak ah ac ad ag aa ab ar au am) 6) (.bool true) (σ.row (wkc ak ah ac ad ag aa ab ar au am) 6)) (h3:zD Pg 13 [iV au,iV 1,iV 14] (σ.row (wkc ak ah ac ad ag aa ab ar au am) 6) (.bool true) (σ.row (wkc ak ah ac ad ag aa ab ar au am) 6)) (h4:zD Pg 13 [iV am,iV 0,iV 20000] (σ.row (wkc ak ah ac ad ag aa ab ar au am) 6) (.bool true) (σ.row (wkc ak ah ac ad ag aa ab ar au am) 6)) (hL:zXB σ.y 0 (σ.row (wkc ak ah ac ad ag aa ab ar au am) 6) Pr P0) (kr:∀ i2_1' σ',Pr i2_1' σ'→zPH σ.y i2_1' σ' Q) (k0:∀ σ',P0 σ'→zPI σ.y σ' Q) (u1:¬ 12<((ac:Nat):Int):=by omega) (u2:¬ 6<((aa:Nat):Int):=by omega):zI Pg 25 [.agg ⟨wkc ak ah ac ad ag aa ab ar au am⟩] σ Q :=
 let s1:=σ.row (wkc ak ah ac ad ag aa ab ar au am) 6;zF [.g,.g,.g,.l (.slice ah ac ad),.g,.b false,.g,.g,.l (.slice ag aa ab),.g,.b false,.g,.g,.l (iV ak),.c (.bool true) s1,.g,.g,.g,.l (iV ar),.c (.bool true) s1,.g,.g,.g,.g,.l (iV au),.c (.bool true) s1,.g,.g,.g,.g,.l (iV am),.c (.bool true) s1,.g,.g,.g,.lf 145 (zCX σ.y 0) [zGD σ.y Pr,zGE σ.y P0]] (kd (an6 ((zC _ _ _).rw.ld zCA (k:=1) rfl:zB Pg s1 22 ⟨σ.y,1,none⟩=some (.slice ah ac ad)) (zM u1) ((zC _ _ _).rw.ld zHK (k:=2) rfl:zB Pg s1 23 ⟨σ.y,2,none⟩=some (.slice ag aa ab)) (zM u2) ((zC _ _ _).rw.ld zK (k:=0) rfl:zB Pg s1 3 ⟨σ.y,0,none⟩=some (iV ak)) h1 (an6 ((zC _ _ _).rw.ld zK (k:=3) rfl:zB Pg s1 3 ⟨σ.y,3,none⟩=some (iV ar)) h2 ((zC _ _ _).rw.ld zK (k:=4) rfl:zB Pg s1 3 ⟨σ.y,4,none⟩=some (iV au)) h3 ((zC _ _ _).rw.ld zK (k:=5) rfl:zB Pg s1 3 ⟨σ.y,5,none⟩=some (iV am)) h4 (ai (ai tt (ai (arf (zCX σ.y 0)) hL)) (ai (kz1 kr) (ai (kz0 k0) trivial))))))
theorem ySU (h1:zD Pg 13 [iV ak,iV 1,iV 7] (σ.row (wkc ak ah ac ad ag aa ab ar au am) 6) (.bool true) (σ.row (wkc ak ah ac ad ag aa ab ar au am) 6)) (h2:zD Pg 13 [iV ar,iV 0,iV 3000] (σ.row (wkc ak ah ac ad ag aa ab ar au am) 6) (.bool true) (σ.row (wkc ak ah ac ad ag aa ab ar au am) 6)) (h3:zD Pg 13 [iV au,iV 1,iV 14] (σ.row (wkc ak ah ac ad ag aa ab ar au am) 6) (.bool true) (σ.row (wkc ak ah ac ad ag aa ab ar au am) 6)) (h4:zD Pg 13 [iV am,iV 0,iV 20000] (σ.row (wkc ak ah ac ad ag aa ab ar au am) 6) (.bool false) (σ.row (wkc ak ah ac ad ag aa ab ar au am) 6)) (nx:Q (iV 1) (σ.row (wkc ak ah ac ad ag aa ab ar au am) 6)) (u1:¬ 12<((ac:Nat):Int):=by omega) (u2:¬ 6<((aa:Nat):Int):=by omega):zI Pg 25 [.agg ⟨wkc ak ah ac ad ag aa ab ar au am⟩] σ Q :=
 let s1:=σ.row (wkc ak ah ac ad ag aa ab ar au am) 6;zF [.g,.g,.g,.l (.slice ah ac ad),.g,.b false,.g,.g,.l (.slice ag aa ab),.g,.b false,.g,.g,.l (iV ak),.c (.bool true) s1,.g,.g,.g,.l (iV ar),.c (.bool true) s1,.g,.g,.g,.g,.l (iV au),.c (.bool true) s1,.g,.g,.g,.g,.l (iV am),.c (.bool false) s1,.g,.g,.g] (kd (an6 ((zC _ _ _).rw.ld zCA (k:=1) rfl:zB Pg s1 22 ⟨σ.y,1,none⟩=some (.slice ah ac ad)) (zM u1) ((zC _ _ _).rw.ld zHK (k:=2) rfl:zB Pg s1 23 ⟨σ.y,2,none⟩=some (.slice ag aa ab)) (zM u2) ((zC _ _ _).rw.ld zK (k:=0) rfl:zB Pg s1 3 ⟨σ.y,0,none⟩=some (iV ak)) h1 (an6 ((zC _ _ _).rw.ld zK (k:=3) rfl:zB Pg s1 3 ⟨σ.y,3,none⟩=some (iV ar)) h2 ((zC _ _ _).rw.ld zK (k:=4) rfl:zB Pg s1 3 ⟨σ.y,4,none⟩=some (iV au)) h3 ((zC _ _ _).rw.ld zK (k:=5) rfl:zB Pg s1 3 ⟨σ.y,5,none⟩=some (iV am)) h4 nx)))
theorem yST (h1:zD Pg 13 [iV ak,iV 1,iV 7] (σ.row (wkc ak ah ac ad ag aa ab ar au am) 6) (.bool true) (σ.row (wkc ak ah ac ad ag aa ab ar au am) 6)) (h2:zD Pg 13 [iV ar,iV 0,iV 3000] (σ.row (wkc ak ah ac ad ag aa ab ar au am) 6) (.bool true) (σ.row (wkc ak ah ac ad ag aa ab ar au am) 6)) (h3:zD Pg 13 [iV au,iV 1,iV 14] (σ.row (wkc ak ah ac ad ag aa ab ar au am) 6) (.bool false) (σ.row (wkc ak ah ac ad ag aa ab ar au am) 6)) (nx:Q (iV 1) (σ.row (wkc ak ah ac ad ag aa ab ar au am) 6)) (u1:¬ 12<((ac:Nat):Int):=by omega) (u2:¬ 6<((aa:Nat):Int):=by omega):zI Pg 25 [.agg ⟨wkc ak ah ac ad ag aa ab ar au am⟩] σ Q :=
 let s1:=σ.row (wkc ak ah ac ad ag aa ab ar au am) 6;zF [.g,.g,.g,.l (.slice ah ac ad),.g,.b false,.g,.g,.l (.slice ag aa ab),.g,.b false,.g,.g,.l (iV ak),.c (.bool true) s1,.g,.g,.g,.l (iV ar),.c (.bool true) s1,.g,.g,.g,.g,.l (iV au),.c (.bool false) s1,.g,.g,.g,.g,.g] (kd (an4 ((zC _ _ _).rw.ld zCA (k:=1) rfl:zB Pg s1 22 ⟨σ.y,1,none⟩=some (.slice ah ac ad)) (zM u1) ((zC _ _ _).rw.ld zHK (k:=2) rfl:zB Pg s1 23 ⟨σ.y,2,none⟩=some (.slice ag aa ab)) (zM u2) (an6 ((zC _ _ _).rw.ld zK (k:=0) rfl:zB Pg s1 3 ⟨σ.y,0,none⟩=some (iV ak)) h1 ((zC _ _ _).rw.ld zK (k:=3) rfl:zB Pg s1 3 ⟨σ.y,3,none⟩=some (iV ar)) h2 ((zC _ _ _).rw.ld zK (k:=4) rfl:zB Pg s1 3 ⟨σ.y,4,none⟩=some (iV au)) h3 nx)))
theorem ySS (h1:zD Pg 13 [iV ak,iV 1,iV 7] (σ.row (wkc ak ah ac ad ag aa ab ar au am) 6) (.bool true) (σ.row (wkc ak ah ac ad ag aa ab ar au am) 6)) (h2:zD Pg 13 [iV ar,iV 0,iV 3000] (σ.row (wkc ak ah ac ad ag aa ab ar au am) 6) (.bool false) (σ.row (wkc ak ah ac ad ag aa ab ar au am) 6)) (nx:Q (iV 1) (σ.row (wkc ak ah ac ad ag aa ab ar au am) 6)) (u1:¬ 12<((ac:Nat):Int):=by omega) (u2:¬ 6<((aa:Nat):Int):=by omega):zI Pg 25 [.agg ⟨wkc ak ah ac ad ag aa ab ar au am⟩] σ Q :=
 let s1:=σ.row (wkc ak ah ac ad ag aa ab ar au am) 6;zF [.g,.g,.g,.l (.slice ah ac ad),.g,.b false,.g,.g,.l (.slice ag aa ab),.g,.b false,.g,.g,.l (iV ak),.c (.bool true) s1,.g,.g,.g,.l (iV ar),.c (.bool false) s1,.g,.g,.g,.g,.g,.g,.g] (kd (an2 ((zC _ _ _).rw.ld zCA (k:=1) rfl:zB Pg s1 22 ⟨σ.y,1,none⟩=some (.slice ah ac ad)) (zM u1) (an6 ((zC _ _ _).rw.ld zHK (k:=2) rfl:zB Pg s1 23 ⟨σ.y,2,none⟩=some (.slice ag aa ab)) (zM u2) ((zC _ _ _).rw.ld zK (k:=0) rfl:zB Pg s1 3 ⟨σ.y,0,none⟩=some (iV ak)) h1 ((zC _ _ _).rw.ld zK (k:=3) rfl:zB Pg s1 3 ⟨σ.y,3,none⟩=some (iV ar)) h2 nx)))
theorem ySR (h1:zD Pg 13 [iV ak,iV 1,iV 7] (σ.row (wkc ak ah ac ad ag aa ab ar au am) 6) (.bool false) (σ.row (wkc ak ah ac ad ag aa ab ar au am) 6)) (nx:Q (iV 1) (σ.row (wkc ak ah ac ad ag aa ab ar au am) 6)) (u1:¬ 12<((ac:Nat):Int):=by omega) (u2:¬ 6<((aa:Nat):Int):=by omega):zI Pg 25 [.agg ⟨wkc ak ah ac ad ag aa ab ar au am⟩] σ Q :=
 let s1:=σ.row (wkc ak ah ac ad ag aa ab ar au am) 6;zF [.g,.g,.g,.l (.slice ah ac ad),.g,.b false,.g,.g,.l (.slice ag aa ab),.g,.b false,.g,.g,.l (iV ak),.c (.bool false) s1,.g,.g,.g,.g,.g,.g,.g,.g] (kd (an6 ((zC _ _ _).rw.ld zCA (k:=1) rfl:zB Pg s1 22 ⟨σ.y,1,none⟩=some (.slice ah ac ad)) (zM u1) ((zC _ _ _).rw.ld zHK (k:=2) rfl:zB Pg s1 23 ⟨σ.y,2,none⟩=some (.slice ag aa ab)) (zM u2) ((zC _ _ _).rw.ld zK (k:=0) rfl:zB Pg s1 3 ⟨σ.y,0,none⟩=some (iV ak)) h1 nx))
theorem yAT (nx:Q (iV aJ) σ):zPH BA aJ σ Q :=
 sK [] nx
noncomputable def zWY:Code:=(Code.part [1,1,1,1,0,1,0,0] (zO Pg 25))
def zCW (BA:Nat) (di:Int):List (Nat × Value):=[(1,.pointer (some ⟨BA,0,none⟩)),(5,iV di)]
def yKY (BA:Nat) (Q:Int→St→Prop):Alt:=⟨Int,.normal,fun t=>zCW BA t,fun t=>[],fun t σ=>Q t σ⟩
def zPB (BA:Nat) (i2_2:Int):List (Nat × Value):=[(2,iV i2_2)]
def zGB (BA:Nat) (Q:Int→St→Prop):Alt:=⟨Int,.ret,fun t=>zPB BA t,fun t=>[],fun t σ=>Q t σ⟩
def zPC (BA:Nat):List (Nat × Value):=[]
def zGC (BA:Nat) (Q:St→Prop):Alt:=⟨Unit,(.exit 2),fun t=>zPC BA,fun t=>[],fun t σ=>Q σ⟩
def vK (BA:Nat) (di:Int) (σ:St) (Nx:Int→St→Prop) (Qr:Int→St→Prop) (Q2:St→Prop):Prop:=yJ Pg (zS Pg) none zWY 145 (zCW BA di) [] [yKY BA Nx,zGB BA Qr,zGC BA Q2] σ
def zXA (BA:Nat) (di:Int) (σ:St) (Qr:Int→St→Prop) (Q2:St→Prop):Prop:=yR Pg (zS Pg) none zWY 145 (zCW BA di) [] [zGB BA Qr,zGC BA Q2] σ
theorem yAV (hb:∀ k di σ,Inv k di σ→vK BA di σ (NX1 Inv k) Qr Q2):∀ k di σ,Inv k di σ→zXA BA di σ Qr Q2 :=
 yV (ai zAQ (ai (wA 2) trivial)) hb
theorem yKQ (h1:zB Pg σ 23 ⟨BA,2,none⟩=some (.slice (some dK) lL cL)) (h2:zB Pg σ 70 (zH dK (Int.toNat di*6))=some (.agg ⟨zG qA lA cD qB lE cE qC lF cF nG nH nJ⟩)) (h3:zD Pg 42 [.slice qA lA cD,iV 0,iV 15] ((σ.row (zG none 0 0 none 0 0 none 0 0 0 0 0) 6).own σ.y (zG qA lA cD qB lE cE qC lF cF nG nH nJ) 6) (.bool true) ((σ.row (zG none 0 0 none 0 0 none 0 0 0 0 0) 6).own σ.y (zG qA lA cD qB lE cE qC lF cF nG nH nJ) 6)) (h4:zB Pg ((σ.row (zG none 0 0 none 0 0 none 0 0 0 0 0) 6).own σ.y (zG qA lA cD qB lE cE qC lF cF nG nH nJ) 6) 3 ⟨BA,0,none⟩=some (iV nP)) (h5:zD Pg 42 [.slice qB lE cE,iV 0,iV (nP-1)] ((σ.row (zG none 0 0 none 0 0 none 0 0 0 0 0) 6).own σ.y (zG qA lA cD qB lE cE qC lF cF nG nH nJ) 6) (.bool true) ((σ.row (zG none 0 0 none 0 0 none 0 0 0 0 0) 6).own σ.y (zG qA lA cD qB lE cE qC lF cF nG nH nJ) 6)) (h6:zD Pg 42 [.slice qC lF cF,iV 0,iV (nP-1)] ((σ.row (zG none 0 0 none 0 0 none 0 0 0 0 0) 6).own σ.y (zG qA lA cD qB lE cE qC lF cF nG nH nJ) 6) (.bool true) ((σ.row (zG none 0 0 none 0 0 none 0 0 0 0 0) 6).own σ.y (zG qA lA cD qB lE cE qC lF cF nG nH nJ) 6)) (h7:zD Pg 13 [iV nG,iV (-10080),iV 1440] ((σ.row (zG none 0 0 none 0 0 none 0 0 0 0 0) 6).own σ.y (zG qA lA cD qB lE cE qC lF cF nG nH nJ) 6) (.bool true) ((σ.row (zG none 0 0 none 0 0 none 0 0 0 0 0) 6).own σ.y (zG qA lA cD qB lE cE qC lF cF nG nH nJ) 6)) (h8:zD Pg 13 [iV nH,iV 0,iV 14] ((σ.row (zG none 0 0 none 0 0 none 0 0 0 0 0) 6).own σ.y (zG qA lA cD qB lE cE qC lF cF nG nH nJ) 6) (.bool true) ((σ.row (zG none 0 0 none 0 0 none 0 0 0 0 0) 6).own σ.y (zG qA lA cD qB lE cE qC lF cF nG nH nJ) 6)) (h9:zB Pg ((σ.row (zG none 0 0 none 0 0 none 0 0 0 0 0) 6).own σ.y (zG qA lA cD qB lE cE qC lF cF nG nH nJ) 6) 3 ⟨BA,5,none⟩=some (iV nGC)) (h10:zD Pg 13 [iV nJ,iV 0,iV nGC] ((σ.row (zG none 0 0 none 0 0 none 0 0 0 0 0) 6).own σ.y (zG qA lA cD qB lE cE qC lF cF nG nH nJ) 6) (.bool true) ((σ.row (zG none 0 0 none 0 0 none 0 0 0 0 0) 6).own σ.y (zG qA lA cD qB lE cE qC lF cF nG nH nJ) 6)) (nx:Nx (di+1) ((σ.row (zG none 0 0 none 0 0 none 0 0 0 0 0) 6).own σ.y (zG qA lA cD qB lE cE qC lF cF nG nH nJ) 6)) (u1:di<((lL:Nat):Int):=by omega) (u2:Ix di lL:=by omega) (u3:I6 (nP-1):=by omega) (u4:I6 (di+1):=by omega):vK BA di σ Nx Qr Q2 :=
 let s1:=σ.row (zG none 0 0 none 0 0 none 0 0 0 0 0) 6;let s2:=s1.own σ.y (zG qA lA cD qB lE cE qC lF cF nG nH nJ) 6;kO 0 (di+1) [.g,.g,.l (.slice (some dK) lL cL),.g,.b true,.g,.l (.slice (some dK) lL cL),.g,.i,.l (.agg ⟨zG qA lA cD qB lE cE qC lF cF nG nH nJ⟩),.g,.e undef s2,.g,.l (.slice qA lA cD),.c (.bool true) s2,.g,.g,.g,.l (.slice qB lE cE),.g,.l (iV nP),.n (nP-1),.c (.bool true) s2,.g,.g,.g,.g,.l (.slice qC lF cF),.g,.l (iV nP),.n (nP-1),.c (.bool true) s2,.g,.g,.g,.g,.l (iV nG),.c (.bool true) s2,.g,.g,.g,.g,.l (iV nH),.c (.bool true) s2,.g,.g,.g,.g,.l (iV nJ),.g,.l (iV nGC),.c (.bool true) s2,.g,.g,.g,.n (di+1),.g] (fun _ f=>(an6 h1 (zJ u1) h1 u2 h2 ((zC _ _ _).store (vs:=(zG qA lA cD qB lE cE qC lF cF nG nH nJ)) rfl vS rfl (nle rfl) rfl:zL Pg (evL [.pointer (some ⟨σ.y,0,none⟩),.agg ⟨zG qA lA cD qB lE cE qC lF cF nG nH nJ⟩]) s1 (.store 70 (.tmp 0) (.tmp 1))=some (undef,s2)) (an6 ((zC _ _ _).put.rw.ld yT (k:=0) rfl:zB Pg s2 29 ⟨σ.y,0,none⟩=some (.slice qA lA cD)) h3 ((zC _ _ _).put.rw.ld yT (k:=1) rfl:zB Pg s2 29 ⟨σ.y,1,none⟩=some (.slice qB lE cE)) h4 (w64 u3) h5 (an6 ((zC _ _ _).put.rw.ld yT (k:=2) rfl:zB Pg s2 29 ⟨σ.y,2,none⟩=some (.slice qC lF cF)) h4 (w64 u3) h6 ((zC _ _ _).put.rw.ld zK (k:=3) rfl:zB Pg s2 3 ⟨σ.y,3,none⟩=some (iV nG)) h7 (an6 ((zC _ _ _).put.rw.ld zK (k:=4) rfl:zB Pg s2 3 ⟨σ.y,4,none⟩=some (iV nH)) h8 ((zC _ _ _).put.rw.ld zK (k:=5) rfl:zB Pg s2 3 ⟨σ.y,5,none⟩=some (iV nJ)) h9 h10 (w64 u4) f))))) nx
theorem yKP (h1:zB Pg σ 23 ⟨BA,2,none⟩=some (.slice (some dK) lL cL)) (h2:zB Pg σ 70 (zH dK (Int.toNat di*6))=some (.agg ⟨zG qA lA cD qB lE cE qC lF cF nG nH nJ⟩)) (h3:zD Pg 42 [.slice qA lA cD,iV 0,iV 15] ((σ.row (zG none 0 0 none 0 0 none 0 0 0 0 0) 6).own σ.y (zG qA lA cD qB lE cE qC lF cF nG nH nJ) 6) (.bool true) ((σ.row (zG none 0 0 none 0 0 none 0 0 0 0 0) 6).own σ.y (zG qA lA cD qB lE cE qC lF cF nG nH nJ) 6)) (h4:zB Pg ((σ.row (zG none 0 0 none 0 0 none 0 0 0 0 0) 6).own σ.y (zG qA lA cD qB lE cE qC lF cF nG nH nJ) 6) 3 ⟨BA,0,none⟩=some (iV nP)) (h5:zD Pg 42 [.slice qB lE cE,iV 0,iV (nP-1)] ((σ.row (zG none 0 0 none 0 0 none 0 0 0 0 0) 6).own σ.y (zG qA lA cD qB lE cE qC lF cF nG nH nJ) 6) (.bool true) ((σ.row (zG none 0 0 none 0 0 none 0 0 0 0 0) 6).own σ.y (zG qA lA cD qB lE cE qC lF cF nG nH nJ) 6)) (h6:zD Pg 42 [.slice qC lF cF,iV 0,iV (nP-1)] ((σ.row (zG none 0 0 none 0 0 none 0 0 0 0 0) 6).own σ.y (zG qA lA cD qB lE cE qC lF cF nG nH nJ) 6) (.bool true) ((σ.row (zG none 0 0 none 0 0 none 0 0 0 0 0) 6).own σ.y (zG qA lA cD qB lE cE qC lF cF nG nH nJ) 6)) (h7:zD Pg 13 [iV nG,iV (-10080),iV 1440] ((σ.row (zG none 0 0 none 0 0 none 0 0 0 0 0) 6).own σ.y (zG qA lA cD qB lE cE qC lF cF nG nH nJ) 6) (.bool true) ((σ.row (zG none 0 0 none 0 0 none 0 0 0 0 0) 6).own σ.y (zG qA lA cD qB lE cE qC lF cF nG nH nJ) 6)) (h8:zD Pg 13 [iV nH,iV 0,iV 14] ((σ.row (zG none 0 0 none 0 0 none 0 0 0 0 0) 6).own σ.y (zG qA lA cD qB lE cE qC lF cF nG nH nJ) 6) (.bool true) ((σ.row (zG none 0 0 none 0 0 none 0 0 0 0 0) 6).own σ.y (zG qA lA cD qB lE cE qC lF cF nG nH nJ) 6)) (h9:zB Pg ((σ.row (zG none 0 0 none 0 0 none 0 0 0 0 0) 6).own σ.y (zG qA lA cD qB lE cE qC lF cF nG nH nJ) 6) 3 ⟨BA,5,none⟩=some (iV nGC)) (h10:zD Pg 13 [iV nJ,iV 0,iV nGC] ((σ.row (zG none 0 0 none 0 0 none 0 0 0 0 0) 6).own σ.y (zG qA lA cD qB lE cE qC lF cF nG nH nJ) 6) (.bool false) ((σ.row (zG none 0 0 none 0 0 none 0 0 0 0 0) 6).own σ.y (zG qA lA cD qB lE cE qC lF cF nG nH nJ) 6)) (nx:Qr (1:Int) ((σ.row (zG none 0 0 none 0 0 none 0 0 0 0 0) 6).own σ.y (zG qA lA cD qB lE cE qC lF cF nG nH nJ) 6)) (u1:di<((lL:Nat):Int):=by omega) (u2:Ix di lL:=by omega) (u3:I6 (nP-1):=by omega):vK BA di σ Nx Qr Q2 :=
 let s1:=σ.row (zG none 0 0 none 0 0 none 0 0 0 0 0) 6;let s2:=s1.own σ.y (zG qA lA cD qB lE cE qC lF cF nG nH nJ) 6;kO 1 (1:Int) [.g,.g,.l (.slice (some dK) lL cL),.g,.b true,.g,.l (.slice (some dK) lL cL),.g,.i,.l (.agg ⟨zG qA lA cD qB lE cE qC lF cF nG nH nJ⟩),.g,.e undef s2,.g,.l (.slice qA lA cD),.c (.bool true) s2,.g,.g,.g,.l (.slice qB lE cE),.g,.l (iV nP),.n (nP-1),.c (.bool true) s2,.g,.g,.g,.g,.l (.slice qC lF cF),.g,.l (iV nP),.n (nP-1),.c (.bool true) s2,.g,.g,.g,.g,.l (iV nG),.c (.bool true) s2,.g,.g,.g,.g,.l (iV nH),.c (.bool true) s2,.g,.g,.g,.g,.l (iV nJ),.g,.l (iV nGC),.c (.bool false) s2,.g,.g,.g] (fun _ f=>(an5 h1 (zJ u1) h1 u2 h2 (an6 ((zC _ _ _).store (vs:=(zG qA lA cD qB lE cE qC lF cF nG nH nJ)) rfl vS rfl (nle rfl) rfl:zL Pg (evL [.pointer (some ⟨σ.y,0,none⟩),.agg ⟨zG qA lA cD qB lE cE qC lF cF nG nH nJ⟩]) s1 (.store 70 (.tmp 0) (.tmp 1))=some (undef,s2)) ((zC _ _ _).put.rw.ld yT (k:=0) rfl:zB Pg s2 29 ⟨σ.y,0,none⟩=some (.slice qA lA cD)) h3 ((zC _ _ _).put.rw.ld yT (k:=1) rfl:zB Pg s2 29 ⟨σ.y,1,none⟩=some (.slice qB lE cE)) h4 (w64 u3) (an6 h5 ((zC _ _ _).put.rw.ld yT (k:=2) rfl:zB Pg s2 29 ⟨σ.y,2,none⟩=some (.slice qC lF cF)) h4 (w64 u3) h6 ((zC _ _ _).put.rw.ld zK (k:=3) rfl:zB Pg s2 3 ⟨σ.y,3,none⟩=some (iV nG)) (an6 h7 ((zC _ _ _).put.rw.ld zK (k:=4) rfl:zB Pg s2 3 ⟨σ.y,4,none⟩=some (iV nH)) h8 ((zC _ _ _).put.rw.ld zK (k:=5) rfl:zB Pg s2 3 ⟨σ.y,5,none⟩=some (iV nJ)) h9 h10 f))))) nx
theorem yKO (h1:zB Pg σ 23 ⟨BA,2,none⟩=some (.slice (some dK) lL cL)) (h2:zB Pg σ 70 (zH dK (Int.toNat di*6))=some (.agg ⟨zG qA lA cD qB lE cE qC lF cF nG nH nJ⟩)) (h3:zD Pg 42 [.slice qA lA cD,iV 0,iV 15] ((σ.row (zG none 0 0 none 0 0 none 0 0 0 0 0) 6).own σ.y (zG qA lA cD qB lE cE qC lF cF nG nH nJ) 6) (.bool true) ((σ.row (zG none 0 0 none 0 0 none 0 0 0 0 0) 6).own σ.y (zG qA lA cD qB lE cE qC lF cF nG nH nJ) 6)) (h4:zB Pg ((σ.row (zG none 0 0 none 0 0 none 0 0 0 0 0) 6).own σ.y (zG qA lA cD qB lE cE qC lF cF nG nH nJ) 6) 3 ⟨BA,0,none⟩=some (iV nP)) (h5:zD Pg 42 [.slice qB lE cE,iV 0,iV (nP-1)] ((σ.row (zG none 0 0 none 0 0 none 0 0 0 0 0) 6).own σ.y (zG qA lA cD qB lE cE qC lF cF nG nH nJ) 6) (.bool true) ((σ.row (zG none 0 0 none 0 0 none 0 0 0 0 0) 6).own σ.y (zG qA lA cD qB lE cE qC lF cF nG nH nJ) 6)) (h6:zD Pg 42 [.slice qC lF cF,iV 0,iV (nP-1)] ((σ.row (zG none 0 0 none 0 0 none 0 0 0 0 0) 6).own σ.y (zG qA lA cD qB lE cE qC lF cF nG nH nJ) 6) (.bool true) ((σ.row (zG none 0 0 none 0 0 none 0 0 0 0 0) 6).own σ.y (zG qA lA cD qB lE cE qC lF cF nG nH nJ) 6)) (h7:zD Pg 13 [iV nG,iV (-10080),iV 1440] ((σ.row (zG none 0 0 none 0 0 none 0 0 0 0 0) 6).own σ.y (zG qA lA cD qB lE cE qC lF cF nG nH nJ) 6) (.bool true) ((σ.row (zG none 0 0 none 0 0 none 0 0 0 0 0) 6).own σ.y (zG qA lA cD qB lE cE qC lF cF nG nH nJ) 6)) (h8:zD Pg 13 [iV nH,iV 0,iV 14] ((σ.row (zG none 0 0 none 0 0 none 0 0 0 0 0) 6).own σ.y (zG qA lA cD qB lE cE qC lF cF nG nH nJ) 6) (.bool false) ((σ.row (zG none 0 0 none 0 0 none 0 0 0 0 0) 6).own σ.y (zG qA lA cD qB lE cE qC lF cF nG nH nJ) 6)) (nx:Qr (1:Int) ((σ.row (zG none 0 0 none 0 0 none 0 0 0 0 0) 6).own σ.y (zG qA lA cD qB lE cE qC lF cF nG nH nJ) 6)) (u1:di<((lL:Nat):Int):=by omega) (u2:Ix di lL:=by omega) (u3:I6 (nP-1):=by omega):vK BA di σ Nx Qr Q2 :=
 let s1:=σ.row (zG none 0 0 none 0 0 none 0 0 0 0 0) 6;let s2:=s1.own σ.y (zG qA lA cD qB lE cE qC lF cF nG nH nJ) 6;kO 1 (1:Int) [.g,.g,.l (.slice (some dK) lL cL),.g,.b true,.g,.l (.slice (some dK) lL cL),.g,.i,.l (.agg ⟨zG qA lA cD qB lE cE qC lF cF nG nH nJ⟩),.g,.e undef s2,.g,.l (.slice qA lA cD),.c (.bool true) s2,.g,.g,.g,.l (.slice qB lE cE),.g,.l (iV nP),.n (nP-1),.c (.bool true) s2,.g,.g,.g,.g,.l (.slice qC lF cF),.g,.l (iV nP),.n (nP-1),.c (.bool true) s2,.g,.g,.g,.g,.l (iV nG),.c (.bool true) s2,.g,.g,.g,.g,.l (iV nH),.c (.bool false) s2,.g,.g,.g,.g,.g] (fun _ f=>(an2 h1 (zJ u1) (an6 h1 u2 h2 ((zC _ _ _).store (vs:=(zG qA lA cD qB lE cE qC lF cF nG nH nJ)) rfl vS rfl (nle rfl) rfl:zL Pg (evL [.pointer (some ⟨σ.y,0,none⟩),.agg ⟨zG qA lA cD qB lE cE qC lF cF nG nH nJ⟩]) s1 (.store 70 (.tmp 0) (.tmp 1))=some (undef,s2)) ((zC _ _ _).put.rw.ld yT (k:=0) rfl:zB Pg s2 29 ⟨σ.y,0,none⟩=some (.slice qA lA cD)) h3 (an6 ((zC _ _ _).put.rw.ld yT (k:=1) rfl:zB Pg s2 29 ⟨σ.y,1,none⟩=some (.slice qB lE cE)) h4 (w64 u3) h5 ((zC _ _ _).put.rw.ld yT (k:=2) rfl:zB Pg s2 29 ⟨σ.y,2,none⟩=some (.slice qC lF cF)) h4 (an6 (w64 u3) h6 ((zC _ _ _).put.rw.ld zK (k:=3) rfl:zB Pg s2 3 ⟨σ.y,3,none⟩=some (iV nG)) h7 ((zC _ _ _).put.rw.ld zK (k:=4) rfl:zB Pg s2 3 ⟨σ.y,4,none⟩=some (iV nH)) h8 f))))) nx
theorem yKN (h1:zB Pg σ 23 ⟨BA,2,none⟩=some (.slice (some dK) lL cL)) (h2:zB Pg σ 70 (zH dK (Int.toNat di*6))=some (.agg ⟨zG qA lA cD qB lE cE qC lF cF nG nH nJ⟩)) (h3:zD Pg 42 [.slice qA lA cD,iV 0,iV 15] ((σ.row (zG none 0 0 none 0 0 none 0 0 0 0 0) 6).own σ.y (zG qA lA cD qB lE cE qC lF cF nG nH nJ) 6) (.bool true) ((σ.row (zG none 0 0 none 0 0 none 0 0 0 0 0) 6).own σ.y (zG qA lA cD qB lE cE qC lF cF nG nH nJ) 6)) (h4:zB Pg ((σ.row (zG none 0 0 none 0 0 none 0 0 0 0 0) 6).own σ.y (zG qA lA cD qB lE cE qC lF cF nG nH nJ) 6) 3 ⟨BA,0,none⟩=some (iV nP)) (h5:zD Pg 42 [.slice qB lE cE,iV 0,iV (nP-1)] ((σ.row (zG none 0 0 none 0 0 none 0 0 0 0 0) 6).own σ.y (zG qA lA cD qB lE cE qC lF cF nG nH nJ) 6) (.bool true) ((σ.row (zG none 0 0 none 0 0 none 0 0 0 0 0) 6).own σ.y (zG qA lA cD qB lE cE qC lF cF nG nH nJ) 6)) (h6:zD Pg 42 [.slice qC lF cF,iV 0,iV (nP-1)] ((σ.row (zG none 0 0 none 0 0 none 0 0 0 0 0) 6).own σ.y (zG qA lA cD qB lE cE qC lF cF nG nH nJ) 6) (.bool true) ((σ.row (zG none 0 0 none 0 0 none 0 0 0 0 0) 6).own σ.y (zG qA lA cD qB lE cE qC lF cF nG nH nJ) 6)) (h7:zD Pg 13 [iV nG,iV (-10080),iV 1440] ((σ.row (zG none 0 0 none 0 0 none 0 0 0 0 0) 6).own σ.y (zG qA lA cD qB lE cE qC lF cF nG nH nJ) 6) (.bool false) ((σ.row (zG none 0 0 none 0 0 none 0 0 0 0 0) 6).own σ.y (zG qA lA cD qB lE cE qC lF cF nG nH nJ) 6)) (nx:Qr (1:Int) ((σ.row (zG none 0 0 none 0 0 none 0 0 0 0 0) 6).own σ.y (zG qA lA cD qB lE cE qC lF cF nG nH nJ) 6)) (u1:di<((lL:Nat):Int):=by omega) (u2:Ix di lL:=by omega) (u3:I6 (nP-1):=by omega):vK BA di σ Nx Qr Q2 :=
 let s1:=σ.row (zG none 0 0 none 0 0 none 0 0 0 0 0) 6;let s2:=s1.own σ.y (zG qA lA cD qB lE cE qC lF cF nG nH nJ) 6;kO 1 (1:Int) [.g,.g,.l (.slice (some dK) lL cL),.g,.b true,.g,.l (.slice (some dK) lL cL),.g,.i,.l (.agg ⟨zG qA lA cD qB lE cE qC lF cF nG nH nJ⟩),.g,.e undef s2,.g,.l (.slice qA lA cD),.c (.bool true) s2,.g,.g,.g,.l (.slice qB lE cE),.g,.l (iV nP),.n (nP-1),.c (.bool true) s2,.g,.g,.g,.g,.l (.slice qC lF cF),.g,.l (iV nP),.n (nP-1),.c (.bool true) s2,.g,.g,.g,.g,.l (iV nG),.c (.bool false) s2,.g,.g,.g,.g,.g,.g,.g] (fun _ f=>(an6 h1 (zJ u1) h1 u2 h2 ((zC _ _ _).store (vs:=(zG qA lA cD qB lE cE qC lF cF nG nH nJ)) rfl vS rfl (nle rfl) rfl:zL Pg (evL [.pointer (some ⟨σ.y,0,none⟩),.agg ⟨zG qA lA cD qB lE cE qC lF cF nG nH nJ⟩]) s1 (.store 70 (.tmp 0) (.tmp 1))=some (undef,s2)) (an6 ((zC _ _ _).put.rw.ld yT (k:=0) rfl:zB Pg s2 29 ⟨σ.y,0,none⟩=some (.slice qA lA cD)) h3 ((zC _ _ _).put.rw.ld yT (k:=1) rfl:zB Pg s2 29 ⟨σ.y,1,none⟩=some (.slice qB lE cE)) h4 (w64 u3) h5 (an6 ((zC _ _ _).put.rw.ld yT (k:=2) rfl:zB Pg s2 29 ⟨σ.y,2,none⟩=some (.slice qC lF cF)) h4 (w64 u3) h6 ((zC _ _ _).put.rw.ld zK (k:=3) rfl:zB Pg s2 3 ⟨σ.y,3,none⟩=some (iV nG)) h7 f)))) nx
theorem yKM (h1:zB Pg σ 23 ⟨BA,2,none⟩=some (.slice (some dK) lL cL)) (h2:zB Pg σ 70 (zH dK (Int.toNat di*6))=some (.agg ⟨zG qA lA cD qB lE cE qC lF cF nG nH nJ⟩)) (h3:zD Pg 42 [.slice qA lA cD,iV 0,iV 15] ((σ.row (zG none 0 0 none 0 0 none 0 0 0 0 0) 6).own σ.y (zG qA lA cD qB lE cE qC lF cF nG nH nJ) 6) (.bool true) ((σ.row (zG none 0 0 none 0 0 none 0 0 0 0 0) 6).own σ.y (zG qA lA cD qB lE cE qC lF cF nG nH nJ) 6)) (h4:zB Pg ((σ.row (zG none 0 0 none 0 0 none 0 0 0 0 0) 6).own σ.y (zG qA lA cD qB lE cE qC lF cF nG nH nJ) 6) 3 ⟨BA,0,none⟩=some (iV nP)) (h5:zD Pg 42 [.slice qB lE cE,iV 0,iV (nP-1)] ((σ.row (zG none 0 0 none 0 0 none 0 0 0 0 0) 6).own σ.y (zG qA lA cD qB lE cE qC lF cF nG nH nJ) 6) (.bool true) ((σ.row (zG none 0 0 none 0 0 none 0 0 0 0 0) 6).own σ.y (zG qA lA cD qB lE cE qC lF cF nG nH nJ) 6)) (h6:zD Pg 42 [.slice qC lF cF,iV 0,iV (nP-1)] ((σ.row (zG none 0 0 none 0 0 none 0 0 0 0 0) 6).own σ.y (zG qA lA cD qB lE cE qC lF cF nG nH nJ) 6) (.bool false) ((σ.row (zG none 0 0 none 0 0 none 0 0 0 0 0) 6).own σ.y (zG qA lA cD qB lE cE qC lF cF nG nH nJ) 6)) (nx:Qr (1:Int) ((σ.row (zG none 0 0 none 0 0 none 0 0 0 0 0) 6).own σ.y (zG qA lA cD qB lE cE qC lF cF nG nH nJ) 6)) (u1:di<((lL:Nat):Int):=by omega) (u2:Ix di lL:=by omega) (u3:I6 (nP-1):=by omega):vK BA di σ Nx Qr Q2 :=
 let s1:=σ.row (zG none 0 0 none 0 0 none 0 0 0 0 0) 6;let s2:=s1.own σ.y (zG qA lA cD qB lE cE qC lF cF nG nH nJ) 6;kO 1 (1:Int) [.g,.g,.l (.slice (some dK) lL cL),.g,.b true,.g,.l (.slice (some dK) lL cL),.g,.i,.l (.agg ⟨zG qA lA cD qB lE cE qC lF cF nG nH nJ⟩),.g,.e undef s2,.g,.l (.slice qA lA cD),.c (.bool true) s2,.g,.g,.g,.l (.slice qB lE cE),.g,.l (iV nP),.n (nP-1),.c (.bool true) s2,.g,.g,.g,.g,.l (.slice qC lF cF),.g,.l (iV nP),.n (nP-1),.c (.bool false) s2,.g,.g,.g,.g,.g,.g,.g,.g,.g] (fun _ f=>(an4 h1 (zJ u1) h1 u2 (an6 h2 ((zC _ _ _).store (vs:=(zG qA lA cD qB lE cE qC lF cF nG nH nJ)) rfl vS rfl (nle rfl) rfl:zL Pg (evL [.pointer (some ⟨σ.y,0,none⟩),.agg ⟨zG qA lA cD qB lE cE qC lF cF nG nH nJ⟩]) s1 (.store 70 (.tmp 0) (.tmp 1))=some (undef,s2)) ((zC _ _ _).put.rw.ld yT (k:=0) rfl:zB Pg s2 29 ⟨σ.y,0,none⟩=some (.slice qA lA cD)) h3 ((zC _ _ _).put.rw.ld yT (k:=1) rfl:zB Pg s2 29 ⟨σ.y,1,none⟩=some (.slice qB lE cE)) h4 (an6 (w64 u3) h5 ((zC _ _ _).put.rw.ld yT (k:=2) rfl:zB Pg s2 29 ⟨σ.y,2,none⟩=some (.slice qC lF cF)) h4 (w64 u3) h6 f)))) nx
theorem yKL (h1:zB Pg σ 23 ⟨BA,2,none⟩=some (.slice (some dK) lL cL)) (h2:zB Pg σ 70 (zH dK (Int.toNat di*6))=some (.agg ⟨zG qA lA cD qB lE cE qC lF cF nG nH nJ⟩)) (h3:zD Pg 42 [.slice qA lA cD,iV 0,iV 15] ((σ.row (zG none 0 0 none 0 0 none 0 0 0 0 0) 6).own σ.y (zG qA lA cD qB lE cE qC lF cF nG nH nJ) 6) (.bool true) ((σ.row (zG none 0 0 none 0 0 none 0 0 0 0 0) 6).own σ.y (zG qA lA cD qB lE cE qC lF cF nG nH nJ) 6)) (h4:zB Pg ((σ.row (zG none 0 0 none 0 0 none 0 0 0 0 0) 6).own σ.y (zG qA lA cD qB lE cE qC lF cF nG nH nJ) 6) 3 ⟨BA,0,none⟩=some (iV nP)) (h5:zD Pg 42 [.slice qB lE cE,iV 0,iV (nP-1)] ((σ.row (zG none 0 0 none 0 0 none 0 0 0 0 0) 6).own σ.y (zG qA lA cD qB lE cE qC lF cF nG nH nJ) 6) (.bool false) ((σ.row (zG none 0 0 none 0 0 none 0 0 0 0 0) 6).own σ.y (zG qA lA cD qB lE cE qC lF cF nG nH nJ) 6)) (nx:Qr (1:Int) ((σ.row (zG none 0 0 none 0 0 none 0 0 0 0 0) 6).own σ.y (zG qA lA cD qB lE cE qC lF cF nG nH nJ) 6)) (u1:di<((lL:Nat):Int):=by omega) (u2:Ix di lL:=by omega) (u3:I6 (nP-1):=by omega):vK BA di σ Nx Qr Q2 :=
 let s1:=σ.row (zG none 0 0 none 0 0 none 0 0 0 0 0) 6;let s2:=s1.own σ.y (zG qA lA cD qB lE cE qC lF cF nG nH nJ) 6;kO 1 (1:Int) [.g,.g,.l (.slice (some dK) lL cL),.g,.b true,.g,.l (.slice (some dK) lL cL),.g,.i,.l (.agg ⟨zG qA lA cD qB lE cE qC lF cF nG nH nJ⟩),.g,.e undef s2,.g,.l (.slice qA lA cD),.c (.bool true) s2,.g,.g,.g,.l (.slice qB lE cE),.g,.l (iV nP),.n (nP-1),.c (.bool false) s2,.g,.g,.g,.g,.g,.g,.g,.g,.g,.g,.g] (fun _ f=>(an6 h1 (zJ u1) h1 u2 h2 ((zC _ _ _).store (vs:=(zG qA lA cD qB lE cE qC lF cF nG nH nJ)) rfl vS rfl (nle rfl) rfl:zL Pg (evL [.pointer (some ⟨σ.y,0,none⟩),.agg ⟨zG qA lA cD qB lE cE qC lF cF nG nH nJ⟩]) s1 (.store 70 (.tmp 0) (.tmp 1))=some (undef,s2)) (an6 ((zC _ _ _).put.rw.ld yT (k:=0) rfl:zB Pg s2 29 ⟨σ.y,0,none⟩=some (.slice qA lA cD)) h3 ((zC _ _ _).put.rw.ld yT (k:=1) rfl:zB Pg s2 29 ⟨σ.y,1,none⟩=some (.slice qB lE cE)) h4 (w64 u3) h5 f))) nx
theorem yKK (h1:zB Pg σ 23 ⟨BA,2,none⟩=some (.slice (some dK) lL cL)) (h2:zB Pg σ 70 (zH dK (Int.toNat di*6))=some (.agg ⟨zG qA lA cD qB lE cE qC lF cF nG nH nJ⟩)) (h3:zD Pg 42 [.slice qA lA cD,iV 0,iV 15] ((σ.row (zG none 0 0 none 0 0 none 0 0 0 0 0) 6).own σ.y (zG qA lA cD qB lE cE qC lF cF nG nH nJ) 6) (.bool false) ((σ.row (zG none 0 0 none 0 0 none 0 0 0 0 0) 6).own σ.y (zG qA lA cD qB lE cE qC lF cF nG nH nJ) 6)) (nx:Qr (1:Int) ((σ.row (zG none 0 0 none 0 0 none 0 0 0 0 0) 6).own σ.y (zG qA lA cD qB lE cE qC lF cF nG nH nJ) 6)) (u1:di<((lL:Nat):Int):=by omega) (u2:Ix di lL:=by omega):vK BA di σ Nx Qr Q2 :=
 let s1:=σ.row (zG none 0 0 none 0 0 none 0 0 0 0 0) 6;let s2:=s1.own σ.y (zG qA lA cD qB lE cE qC lF cF nG nH nJ) 6;kO 1 (1:Int) [.g,.g,.l (.slice (some dK) lL cL),.g,.b true,.g,.l (.slice (some dK) lL cL),.g,.i,.l (.agg ⟨zG qA lA cD qB lE cE qC lF cF nG nH nJ⟩),.g,.e undef s2,.g,.l (.slice qA lA cD),.c (.bool false) s2,.g,.g,.g,.g,.g,.g,.g,.g,.g,.g,.g,.g] (fun _ f=>(an2 h1 (zJ u1) (an6 h1 u2 h2 ((zC _ _ _).store (vs:=(zG qA lA cD qB lE cE qC lF cF nG nH nJ)) rfl vS rfl (nle rfl) rfl:zL Pg (evL [.pointer (some ⟨σ.y,0,none⟩),.agg ⟨zG qA lA cD qB lE cE qC lF cF nG nH nJ⟩]) s1 (.store 70 (.tmp 0) (.tmp 1))=some (undef,s2)) ((zC _ _ _).put.rw.ld yT (k:=0) rfl:zB Pg s2 29 ⟨σ.y,0,none⟩=some (.slice qA lA cD)) h3 f))) nx
theorem yKJ (h1:zB Pg σ 23 ⟨BA,2,none⟩=some (.slice qI lL cL)) (nx:Q2 σ) (u1:¬ di<((lL:Nat):Int):=by omega):vK BA di σ Nx Qr Q2 :=
 kO 2 () [.g,.g,.l (.slice qI lL cL),.g,.b false] (fun _ f=>(an2 h1 (zM u1) f)) nx
def zPF (BA:Nat) (i2_2:Int) (σ:St) (Q:Value→St→Prop):Prop:=∀ g:Nat→Value,∃ an,Hid (kAt Pg (zS Pg) none (zO Pg 25) [1,1,1,1,0,1,0] (kFn Pg 25 Q) .ret ⟨Fm 145 (ov (zPB BA i2_2) g),[]⟩ σ an)
def zPG (BA:Nat) (σ:St) (Q:Value→St→Prop):Prop:=∀ g:Nat→Value,∃ an,Hid (kAt Pg (zS Pg) none (zO Pg 25) [1,1,1,1,0,1,0] (kFn Pg 25 Q) (.exit 2) ⟨Fm 145 (ov (zPC BA) g),[]⟩ σ an)
theorem yAU (hL:zXA BA 0 σ Pr P2) (kr:∀ i2_2' σ',Pr i2_2' σ'→zPF BA i2_2' σ' Q) (k2:∀ σ',P2 σ'→zPG BA σ' Q):zPI BA σ Q :=
 sK [.g,.lf 145 (zCW BA 0) [zGB BA Pr,zGC BA P2]] (ai (ai tt (ai (arf (zCW BA 0)) hL)) (ai (kz1 kr) (ai (kz0 k2) trivial)))
theorem yAR (nx:Q (iV i2_2) σ):zPF BA i2_2 σ Q :=
 sK [] nx
theorem yAS (nx:Q (iV 0) σ):zPG BA σ Q :=
 sK [.g] nx
end
def wS (w : Wk) (d : Dty) : Bool := inB d.day 0 (w.M - 1) && (inB d.on 0 1439 && (inB d.lo d.on d.hi && (!decide (d.on + 1440 < d.hi) && inB d.route 0 15)))
def vZ (w : Wk) (x : Drv) : Bool := xY x.J 0 15 && (xY x.qa 0 (w.M - 1) && (xY x.qb 0 (w.M - 1) && (inB x.off (-10080) 1440 && (inB x.row 0 14 && inB x.used 0 w.j))))
def wP (w : Wk) : Bool := inB w.M 1 7 && (inB w.rest 0 3000 && (inB w.run 1 14 && inB w.j 0 20000))
def yY (w : Wk) : Int := if 12 < w.N.length ∨ 6 < w.L.length then 3 else if wP w && (w.N.all (wS w) && w.L.all (vZ w)) then 0 else 1
theorem zVO {α : Type} {xs : List α} {i : Nat} {f : α → Bool} {x : α} (h : xs[i]? = some x) (ha : (xs.take i).all f = true) (hf : f x = true) : (xs.take (i + 1)).all f = true := by
 rw [vI h, List.all_append, ha]; simp [hf]
theorem yCS {α : Type} {xs : List α} {f : α → Bool} {x : α} (h : x ∈ xs) (hf : f x = false) : xs.all f = false := by
 cases ha : xs.all f with
 | false => rfl
 | true => rw [List.all_eq_true.1 ha x h] at hf; cases hf
def zFD (w : Wk) : Prop := ∀ x ∈ w.L, x.J.length ≤ 1000 ∧ x.qa.length ≤ 1000 ∧ x.qb.length ≤ 1000
section
variable {σ : St} {w : Wk} {p q : Option Addr} {l m c d : Nat}
theorem yYO (h : WkP σ 35 70 w p l q m) (hsh : zFD w) : zD Try.prog 25 [.agg ⟨wkc w.M p l c q m d w.rest w.run w.j⟩] σ (iV (yY w)) σ := by
 have hwp := h
 have hn := h.len.1
 have hm := h.len.2
 by_cases h12 : 12 < l
 ·have : yY w = 3 := by unfold yY; rw [if_pos (.inl (by omega))]
  rw [this]; exact (ySX ⟨rfl, Nat.le_refl _⟩ (by omega)).pure
 by_cases h6 : 6 < m
 ·have : yY w = 3 := by unfold yY; rw [if_pos (.inr (by omega))]
  rw [this]; exact (ySW ⟨rfl, Nat.le_refl _⟩ (by omega) (by omega)).pure
 have hf0 : yY w = if wP w && (w.N.all (wS w) && w.L.all (vZ w)) then 0 else 1 := by unfold yY; rw [if_neg (by omega)]
 obtain ⟨σ1, hσ1⟩ : ∃ σ1, σ1 = σ.re.row (wkc w.M p l c q m d w.rest w.run w.j) 6 := ⟨_, rfl⟩
 have cin : ∀ {τ : St} {n lo hi : Int} {b : Bool}, inB n lo hi = b → zD Try.prog 13 [iV n, iV lo, iV hi] τ (.bool b) τ := fun e => e ▸ yYN
 have no : wP w = false → yY w = 1 := fun e => by rw [hf0, e]; rfl
 cases b1 : inB w.M 1 7 with
 | false => rw [no (by unfold wP; rw [b1]; rfl)]; exact (ySR (cin b1) ⟨rfl, Nat.le_refl _⟩ (by omega) (by omega)).pure
 | true =>
 cases b2 : inB w.rest 0 3000 with
 | false => rw [no (by unfold wP; rw [b1, b2]; rfl)]; exact (ySS (cin b1) (cin b2) ⟨rfl, Nat.le_refl _⟩ (by omega) (by omega)).pure
 | true =>
 cases b3 : inB w.run 1 14 with
 | false => rw [no (by unfold wP; rw [b1, b2, b3]; rfl)]; exact (yST (cin b1) (cin b2) (cin b3) ⟨rfl, Nat.le_refl _⟩ (by omega) (by omega)).pure
 | true =>
 cases b4 : inB w.j 0 20000 with
 | false => rw [no (by unfold wP; rw [b1, b2, b3, b4]; rfl)]; exact (ySU (cin b1) (cin b2) (cin b3) (cin b4) ⟨rfl, Nat.le_refl _⟩ (by omega) (by omega)).pure
 | true =>
 have hh : wP w = true := by unfold wP; rw [b1, b2, b3, b4]; rfl
 have hd := wV.1 b1
 have N1 : New σ.re σ1 := by rw [hσ1]; exact New.row _ _ _
 have L1 : Le σ σ1 := (le0 σ).trans N1.le
 have hW : ∀ {τ}, Le σ1 τ → Row τ ⟨σ.re.y, 0, none⟩ (wkc w.M p l c q m d w.rest w.run w.j) := fun {τ} hN => by
  have := xC σ.re (wkc w.M p l c q m d w.rest w.run w.j) 6
  rw [← hσ1] at this
  exact this.le hN
 have nod : ∀ x ∈ w.N, wS w x = false → yY w = 1 := fun x hx e => by rw [hf0, yCS hx e]; simp
 have nov : ∀ x ∈ w.L, vZ w x = false → yY w = 1 := fun x hx e => by rw [hf0, yCS hx e]; simp
 have lw1 : ∀ {τ : St}, New σ1 τ → σ.y ≤ τ.low := fun hN => (N1.trans hN).lw
 refine zI.pure (ySV (Pr := fun n τ => New σ1 τ ∧ n = yY w) (P0 := fun τ => New σ1 τ ∧ w.N.all (wS w) = true) (cin b1) (cin b2) (cin b3) (cin b4)
  (yAW (Inv := fun k i τ => New σ1 τ ∧ ∃ j : Nat, i = j ∧ j + k = l ∧ (w.N.take j).all (wS w) = true) ?_ l 0 _ ⟨by rw [← hσ1]; exact New.refl _, 0, rfl, by omega, rfl⟩)
  (fun n τ h => yAT ⟨by rw [h.2], lw1 h.1⟩) (fun τ h => ?_) (by omega) (by omega))
 ·rintro k i τ ⟨hN, j, rfl, hk, ha⟩
  have ldD : zB Try.prog τ 22 ⟨σ.re.y, 1, none⟩ = some (.slice p l c) := (hW hN.le).ld zCA rfl
  by_cases hj : j < l
  rotate_left
  ·exact yKR ldD ⟨hN, by rwa [List.take_of_length_le (by omega)] at ha⟩ (by omega)
  obtain ⟨a, rfl, x, hx, lx⟩ := wU (SlV.le h.dty (L1.trans hN.le)) hj
  have hmem := List.mem_of_getElem? hx
  have hN2 : New σ1 ((τ.row (zE 0 0 0 0 0) 5).own τ.y (zE x.day x.on x.lo x.hi x.route) 5) := hN.row'.own hN.le.y
  have ld0 : zB Try.prog ((τ.row (zE 0 0 0 0 0) 5).own τ.y (zE x.day x.on x.lo x.hi x.route) 5) 3 ⟨σ.re.y, 0, none⟩ = some (iV w.M) := (hW hN2.le).ld zK rfl
  cases c1 : inB x.day 0 (w.M - 1) with
  | false => exact yKS ldD lx ld0 (cin c1) ⟨hN2, (nod x hmem (by unfold wS; rw [c1]; rfl)).symm⟩ (by omega) (by omega) (by omega)
  | true =>
  cases c2 : inB x.on 0 1439 with
  | false => exact yKT ldD lx ld0 (cin c1) (cin c2) ⟨hN2, (nod x hmem (by unfold wS; rw [c1, c2]; rfl)).symm⟩ (by omega) (by omega) (by omega)
  | true =>
  have hon := wV.1 c2
  cases c3 : inB x.lo x.on x.hi with
  | false => exact yKU ldD lx ld0 (cin c1) (cin c2) (cin c3) ⟨hN2, (nod x hmem (by unfold wS; rw [c1, c2, c3]; rfl)).symm⟩ (by omega) (by omega) (by omega)
  | true =>
  by_cases c4 : x.on + 1440 < x.hi
  ·exact yKX ldD lx ld0 (cin c1) (cin c2) (cin c3) ⟨hN2, (nod x hmem (by unfold wS; rw [c1, c2, c3, decide_eq_true c4]; rfl)).symm⟩ (by omega) (by omega) (by omega) (by omega) c4
  cases c5 : inB x.route 0 15 with
  | false => exact yKV ldD lx ld0 (cin c1) (cin c2) (cin c3) (cin c5) ⟨hN2, (nod x hmem (by unfold wS; rw [c1, c2, c3, decide_eq_false c4, c5]; rfl)).symm⟩ (by omega) (by omega) (by omega) (by omega) c4
  | true => exact yKW ldD lx ld0 (cin c1) (cin c2) (cin c3) (cin c5) ⟨k - 1, by omega, hN2, j + 1, by omega, by omega, zVO hx ha (by unfold wS; rw [c1, c2, c3, decide_eq_false c4, c5]; rfl)⟩ (by omega) (by omega) (by omega) (by omega) c4 (by omega)
 ·obtain ⟨hN1, hdu⟩ := h
  refine yAU (Pr := fun n τ => New σ1 τ ∧ n = yY w) (P2 := fun τ => New σ1 τ ∧ w.L.all (vZ w) = true)
   (yAV (Inv := fun k i τ => New σ1 τ ∧ ∃ j : Nat, i = j ∧ j + k = m ∧ (w.L.take j).all (vZ w) = true) ?_ m 0 _ ⟨hN1, 0, rfl, by omega, rfl⟩)
   (fun n τ h => yAR ⟨by rw [h.2], lw1 h.1⟩) (fun τ h => yAS ⟨by rw [hf0, hh, hdu, h.2]; rfl, lw1 h.1⟩)
  rintro k i τ ⟨hN, j, rfl, hk, ha⟩
  have ldV : zB Try.prog τ 23 ⟨σ.re.y, 2, none⟩ = some (.slice q m d) := (hW hN.le).ld zHK rfl
  by_cases hj : j < m
  rotate_left
  ·exact yKJ ldV ⟨hN, by rwa [List.take_of_length_le (by omega)] at ha⟩ (by omega)
  have LL := L1.trans hN.le
  obtain ⟨vs, hv1, hv2, hv3⟩ := hwp.drv
  obtain ⟨qa, rfl, _⟩ := hv1.some hj
  have hx : w.L[j]? = some w.L[j] := by simp
  obtain ⟨x, hxe⟩ : ∃ x, x = w.L[j] := ⟨_, rfl⟩
  rw [← hxe] at hx
  obtain ⟨v, g1, p', l', c', r', n', d', s', j', e', rfl, hkn, hlv, hws⟩ := hv3 j _ hx
  have lx : zB Try.prog τ 70 (zH qa (Int.toNat (j : Int) * 6)) = some (.agg ⟨zG p' l' c' r' n' d' s' j' e' x.off x.row x.used⟩) := (hv1.le LL).at rfl g1
  have hmem := List.mem_of_getElem? hx
  have hsx := hsh x hmem
  have hN2 : New σ1 ((τ.row (zG none 0 0 none 0 0 none 0 0 0 0 0) 6).own τ.y (zG p' l' c' r' n' d' s' j' e' x.off x.row x.used) 6) := hN.row'.own hN.le.y
  have L2 := L1.trans hN2.le
  have ld0 : zB Try.prog ((τ.row (zG none 0 0 none 0 0 none 0 0 0 0 0) 6).own τ.y (zG p' l' c' r' n' d' s' j' e' x.off x.row x.used) 6) 3 ⟨σ.re.y, 0, none⟩ = some (iV w.M) := (hW hN2.le).ld zK rfl
  have ld5 : zB Try.prog ((τ.row (zG none 0 0 none 0 0 none 0 0 0 0 0) 6).own τ.y (zG p' l' c' r' n' d' s' j' e' x.off x.row x.used) 6) 3 ⟨σ.re.y, 5, none⟩ = some (iV w.j) := (hW hN2.le).ld zK rfl
  have k1 := zSM (c := c') (lo := 0) (hi := 15) (SlV.le hkn L2) (by have := hkn.len; omega)
  have k2 := zSM (c := d') (lo := 0) (hi := w.M - 1) (SlV.le hlv L2) (by have := hlv.len; omega)
  have k3 := zSM (c := e') (lo := 0) (hi := w.M - 1) (SlV.le hws L2) (by have := hws.len; omega)
  cases c1 : xY x.J 0 15 with
  | false => rw [c1] at k1; exact yKK ldV lx k1 ⟨hN2, (nov x hmem (by unfold vZ; rw [c1]; rfl)).symm⟩ (by omega) (by omega)
  | true =>
  cases c2 : xY x.qa 0 (w.M - 1) with
  | false => rw [c1] at k1; rw [c2] at k2; exact yKL ldV lx k1 ld0 k2 ⟨hN2, (nov x hmem (by unfold vZ; rw [c1, c2]; rfl)).symm⟩ (by omega) (by omega) (by omega)
  | true =>
  cases c3 : xY x.qb 0 (w.M - 1) with
  | false => rw [c1] at k1; rw [c2] at k2; rw [c3] at k3; exact yKM ldV lx k1 ld0 k2 k3 ⟨hN2, (nov x hmem (by unfold vZ; rw [c1, c2, c3]; rfl)).symm⟩ (by omega) (by omega) (by omega)
  | true =>
  rw [c1] at k1; rw [c2] at k2; rw [c3] at k3
  cases c4 : inB x.off (-10080) 1440 with
  | false => exact yKN ldV lx k1 ld0 k2 k3 (cin c4) ⟨hN2, (nov x hmem (by unfold vZ; rw [c1, c2, c3, c4]; rfl)).symm⟩ (by omega) (by omega) (by omega)
  | true =>
  cases c5 : inB x.row 0 14 with
  | false => exact yKO ldV lx k1 ld0 k2 k3 (cin c4) (cin c5) ⟨hN2, (nov x hmem (by unfold vZ; rw [c1, c2, c3, c4, c5]; rfl)).symm⟩ (by omega) (by omega) (by omega)
  | true =>
  cases c6 : inB x.used 0 w.j with
  | false => exact yKP ldV lx k1 ld0 k2 k3 (cin c4) (cin c5) ld5 (cin c6) ⟨hN2, (nov x hmem (by unfold vZ; rw [c1, c2, c3, c4, c5, c6]; rfl)).symm⟩ (by omega) (by omega) (by omega)
  | true => exact yKQ ldV lx k1 ld0 k2 k3 (cin c4) (cin c5) ld5 (cin c6) ⟨k - 1, by omega, hN2, j + 1, by omega, by omega, zVO hx ha (by unfold vZ; rw [c1, c2, c3, c4, c5, c6]; rfl)⟩ (by omega) (by omega) (by omega) (by omega)
end
section
variable {s df dc dC l qD qF qG ah ag aO aS a7 q1:Option Addr} {s_l s_c bI bJ bG bH bO bP l_l l_c lG cG lI cI lJ cJ ac ad aa ab aE aF aG aH aK aL l1 c1 BA:Nat} {f f1 right:FuncId} {f_c f_a eA f1_a bz bX:List Value} {n1 dT ew bQ bS c7 dS dR dD aI nI nE nA nB nD cx nF ak ar au am aA aM ax ay aC bi bk ba x n dl v:Int} {σ:St} {Q:Value→St→Prop} {v0 s_a l_a qF_a:Addr} {Inv:Nat→Int→St→Prop} {Qr Nx Pr:Int→St→Prop} {Q0 P0:St→Prop} {b3 b6 b2 b1 t4_1:Bool}
theorem xFT (h1:zD Pg 77 [.slice s s_l s_c,.func (.func f) ⟨f_a⟩ ⟨f_c⟩] σ (iV n1) σ) (nx:Q (.bool true) σ) (u1:0≤n1:=by omega):zI Pg 56 [.slice s s_l s_c,.func (.func f) ⟨f_a⟩ ⟨f_c⟩] σ Q :=
 zF [.g,.g,.g,.c (iV n1) σ,.b true,.g] (kd (an2 h1 (zX u1) nx))
theorem xFS (h1:zD Pg 77 [.slice s s_l s_c,.func (.func f) ⟨f_a⟩ ⟨f_c⟩] σ (iV n1) σ) (nx:Q (.bool false) σ) (u1:¬ 0≤n1:=by omega):zI Pg 56 [.slice s s_l s_c,.func (.func f) ⟨f_a⟩ ⟨f_c⟩] σ Q :=
 zF [.g,.g,.g,.c (iV n1) σ,.b false,.g] (kd (an2 h1 (yB u1) nx))
theorem xCS (h1:zB Pg (σ.row (zE dT ew bQ bS c7) 5) 80 v0=some (.func (.func f1) ⟨f1_a⟩ ⟨eA⟩)) (h2:zD Pg f1 (f1_a ++ (.agg ⟨zE dT ew bQ bS c7⟩::eA)) (σ.row (zE dT ew bQ bS c7) 5) (.bool true) (σ.row (zE dT ew bQ bS c7) 5)) (nx:Q (.bool false) (σ.row (zE dT ew bQ bS c7) 5)):zI Pg 57 [.agg ⟨zE dT ew bQ bS c7⟩,.pointer (some v0)] σ Q :=
 let s1:=σ.row (zE dT ew bQ bS c7) 5;zF [.g,.g,.l (.func (.func f1) ⟨f1_a⟩ ⟨eA⟩),.l (.agg ⟨zE dT ew bQ bS c7⟩),.c (.bool true) s1,.g,.g] (kd (an3 h1 ((zC _ _ _).rw.ldN zQF uT (k:=0) rfl rfl (nle rfl):zB Pg s1 69 ⟨σ.y,0,none⟩=some (.agg ⟨zE dT ew bQ bS c7⟩)) h2 nx))
theorem xCR (h1:zB Pg (σ.row (zE dT ew bQ bS c7) 5) 80 v0=some (.func (.func f1) ⟨f1_a⟩ ⟨eA⟩)) (h2:zD Pg f1 (f1_a ++ (.agg ⟨zE dT ew bQ bS c7⟩::eA)) (σ.row (zE dT ew bQ bS c7) 5) (.bool false) (σ.row (zE dT ew bQ bS c7) 5)) (nx:Q (.bool true) (σ.row (zE dT ew bQ bS c7) 5)):zI Pg 57 [.agg ⟨zE dT ew bQ bS c7⟩,.pointer (some v0)] σ Q :=
 let s1:=σ.row (zE dT ew bQ bS c7) 5;zF [.g,.g,.l (.func (.func f1) ⟨f1_a⟩ ⟨eA⟩),.l (.agg ⟨zE dT ew bQ bS c7⟩),.c (.bool false) s1,.g,.g] (kd (an3 h1 ((zC _ _ _).rw.ldN zQF uT (k:=0) rfl rfl (nle rfl):zB Pg s1 69 ⟨σ.y,0,none⟩=some (.agg ⟨zE dT ew bQ bS c7⟩)) h2 nx))
theorem xFN (h1:zD Pg 78 [.slice s s_l s_c,.func (.func f) ⟨f_a⟩ ⟨f_c⟩] σ (iV n1) σ) (nx:Q (.bool true) σ) (u1:0≤n1:=by omega):zI Pg 58 [.slice s s_l s_c,.func (.func f) ⟨f_a⟩ ⟨f_c⟩] σ Q :=
 zF [.g,.g,.g,.c (iV n1) σ,.b true,.g] (kd (an2 h1 (zX u1) nx))
theorem xFM (h1:zD Pg 78 [.slice s s_l s_c,.func (.func f) ⟨f_a⟩ ⟨f_c⟩] σ (iV n1) σ) (nx:Q (.bool false) σ) (u1:¬ 0≤n1:=by omega):zI Pg 58 [.slice s s_l s_c,.func (.func f) ⟨f_a⟩ ⟨f_c⟩] σ Q :=
 zF [.g,.g,.g,.c (iV n1) σ,.b false,.g] (kd (an2 h1 (yB u1) nx))
theorem xCO (h1:zB Pg (σ.row (zG df bI bJ dc bG bH dC bO bP dS dR dD) 6) 82 v0=some (.func (.func f1) ⟨f1_a⟩ ⟨eA⟩)) (h2:zD Pg f1 (f1_a ++ (.agg ⟨zG df bI bJ dc bG bH dC bO bP dS dR dD⟩::eA)) (σ.row (zG df bI bJ dc bG bH dC bO bP dS dR dD) 6) (.bool true) (σ.row (zG df bI bJ dc bG bH dC bO bP dS dR dD) 6)) (nx:Q (.bool false) (σ.row (zG df bI bJ dc bG bH dC bO bP dS dR dD) 6)):zI Pg 59 [.agg ⟨zG df bI bJ dc bG bH dC bO bP dS dR dD⟩,.pointer (some v0)] σ Q :=
 let s1:=σ.row (zG df bI bJ dc bG bH dC bO bP dS dR dD) 6;zF [.g,.g,.l (.func (.func f1) ⟨f1_a⟩ ⟨eA⟩),.l (.agg ⟨zG df bI bJ dc bG bH dC bO bP dS dR dD⟩),.c (.bool true) s1,.g,.g] (kd (an3 h1 ((zC _ _ _).rw.ldN yII zMV (k:=0) rfl rfl (nle rfl):zB Pg s1 61 ⟨σ.y,0,none⟩=some (.agg ⟨zG df bI bJ dc bG bH dC bO bP dS dR dD⟩)) h2 nx))
theorem xCN (h1:zB Pg (σ.row (zG df bI bJ dc bG bH dC bO bP dS dR dD) 6) 82 v0=some (.func (.func f1) ⟨f1_a⟩ ⟨eA⟩)) (h2:zD Pg f1 (f1_a ++ (.agg ⟨zG df bI bJ dc bG bH dC bO bP dS dR dD⟩::eA)) (σ.row (zG df bI bJ dc bG bH dC bO bP dS dR dD) 6) (.bool false) (σ.row (zG df bI bJ dc bG bH dC bO bP dS dR dD) 6)) (nx:Q (.bool true) (σ.row (zG df bI bJ dc bG bH dC bO bP dS dR dD) 6)):zI Pg 59 [.agg ⟨zG df bI bJ dc bG bH dC bO bP dS dR dD⟩,.pointer (some v0)] σ Q :=
 let s1:=σ.row (zG df bI bJ dc bG bH dC bO bP dS dR dD) 6;zF [.g,.g,.l (.func (.func f1) ⟨f1_a⟩ ⟨eA⟩),.l (.agg ⟨zG df bI bJ dc bG bH dC bO bP dS dR dD⟩),.c (.bool false) s1,.g,.g] (kd (an3 h1 ((zC _ _ _).rw.ldN yII zMV (k:=0) rfl rfl (nle rfl):zB Pg s1 61 ⟨σ.y,0,none⟩=some (.agg ⟨zG df bI bJ dc bG bH dC bO bP dS dR dD⟩)) h2 nx))
theorem xGG (h1:zD Pg 56 [.slice l l_l l_c,.func (.func 57) ⟨[]⟩ ⟨[.pointer (some ⟨σ.y,0,none⟩)]⟩] (σ.row [.func (.func right) ⟨bX⟩ ⟨bz⟩] 1) (.bool true) (σ.row [.func (.func right) ⟨bX⟩ ⟨bz⟩] 1)) (nx:Q (.bool false) (σ.row [.func (.func right) ⟨bX⟩ ⟨bz⟩] 1)):zI Pg 38 [.slice l l_l l_c,.func (.func right) ⟨bX⟩ ⟨bz⟩] σ Q :=
 zF [.g,.g,.g,.g,.c (.bool true) (σ.row [.func (.func right) ⟨bX⟩ ⟨bz⟩] 1),.g,.g] (kd (ai h1 nx))
theorem xGF (h1:zD Pg 56 [.slice l l_l l_c,.func (.func 57) ⟨[]⟩ ⟨[.pointer (some ⟨σ.y,0,none⟩)]⟩] (σ.row [.func (.func right) ⟨bX⟩ ⟨bz⟩] 1) (.bool false) (σ.row [.func (.func right) ⟨bX⟩ ⟨bz⟩] 1)) (nx:Q (.bool true) (σ.row [.func (.func right) ⟨bX⟩ ⟨bz⟩] 1)):zI Pg 38 [.slice l l_l l_c,.func (.func right) ⟨bX⟩ ⟨bz⟩] σ Q :=
 zF [.g,.g,.g,.g,.c (.bool false) (σ.row [.func (.func right) ⟨bX⟩ ⟨bz⟩] 1),.g,.g] (kd (ai h1 nx))
theorem xGA (h1:zD Pg 58 [.slice l l_l l_c,.func (.func 59) ⟨[]⟩ ⟨[.pointer (some ⟨σ.y,0,none⟩)]⟩] (σ.row [.func (.func right) ⟨bX⟩ ⟨bz⟩] 1) (.bool true) (σ.row [.func (.func right) ⟨bX⟩ ⟨bz⟩] 1)) (nx:Q (.bool false) (σ.row [.func (.func right) ⟨bX⟩ ⟨bz⟩] 1)):zI Pg 40 [.slice l l_l l_c,.func (.func right) ⟨bX⟩ ⟨bz⟩] σ Q :=
 zF [.g,.g,.g,.g,.c (.bool true) (σ.row [.func (.func right) ⟨bX⟩ ⟨bz⟩] 1),.g,.g] (kd (ai h1 nx))
theorem xFZ (h1:zD Pg 58 [.slice l l_l l_c,.func (.func 59) ⟨[]⟩ ⟨[.pointer (some ⟨σ.y,0,none⟩)]⟩] (σ.row [.func (.func right) ⟨bX⟩ ⟨bz⟩] 1) (.bool false) (σ.row [.func (.func right) ⟨bX⟩ ⟨bz⟩] 1)) (nx:Q (.bool true) (σ.row [.func (.func right) ⟨bX⟩ ⟨bz⟩] 1)):zI Pg 40 [.slice l l_l l_c,.func (.func right) ⟨bX⟩ ⟨bz⟩] σ Q :=
 zF [.g,.g,.g,.g,.c (.bool false) (σ.row [.func (.func right) ⟨bX⟩ ⟨bz⟩] 1),.g,.g] (kd (ai h1 nx))
noncomputable def yQV:Code:=(Code.part [1,0,1,0,0] (zO Pg 77))
def zMD (s:Option Addr) (s_l s_c:Nat) (f:FuncId) (f_a f_c:List Value) (aI:Int):List (Nat × Value):=[(0,.slice s s_l s_c),(1,.func (.func f) ⟨f_a⟩ ⟨f_c⟩),(7,iV ((s_l:Nat):Int)),(8,iV aI)]
def xBH (s:Option Addr) (s_l s_c:Nat) (f:FuncId) (f_a f_c:List Value) (Q:Int→St→Prop):Alt:=⟨Int,.normal,fun t=>zMD s s_l s_c f f_a f_c t,fun t=>[],fun t σ=>Q t σ⟩
def zYQ (s:Option Addr) (s_l s_c:Nat) (f:FuncId) (f_a f_c:List Value) (cx:Int):List (Nat × Value):=[(4,iV cx)]
def zNT (s:Option Addr) (s_l s_c:Nat) (f:FuncId) (f_a f_c:List Value) (Q:Int→St→Prop):Alt:=⟨Int,.ret,fun t=>zYQ s s_l s_c f f_a f_c t,fun t=>[],fun t σ=>Q t σ⟩
def zYR (s:Option Addr) (s_l s_c:Nat) (f:FuncId) (f_a f_c:List Value):List (Nat × Value):=[]
def zNU (s:Option Addr) (s_l s_c:Nat) (f:FuncId) (f_a f_c:List Value) (Q:St→Prop):Alt:=⟨Unit,(.exit 0),fun t=>zYR s s_l s_c f f_a f_c,fun t=>[],fun t σ=>Q σ⟩
def zRC (s:Option Addr) (s_l s_c:Nat) (f:FuncId) (f_a f_c:List Value) (aI:Int) (σ:St) (Nx:Int→St→Prop) (Qr:Int→St→Prop) (Q0:St→Prop):Prop:=yJ Pg (zS Pg) none yQV 19 (zMD s s_l s_c f f_a f_c aI) [] [xBH s s_l s_c f f_a f_c Nx,zNT s s_l s_c f f_a f_c Qr,zNU s s_l s_c f f_a f_c Q0] σ
def yQW (s:Option Addr) (s_l s_c:Nat) (f:FuncId) (f_a f_c:List Value) (aI:Int) (σ:St) (Qr:Int→St→Prop) (Q0:St→Prop):Prop:=yR Pg (zS Pg) none yQV 19 (zMD s s_l s_c f f_a f_c aI) [] [zNT s s_l s_c f f_a f_c Qr,zNU s s_l s_c f f_a f_c Q0] σ
theorem yMW (hb:∀ k aI σ,Inv k aI σ→zRC s s_l s_c f f_a f_c aI σ (NX1 Inv k) Qr Q0):∀ k aI σ,Inv k aI σ→yQW s s_l s_c f f_a f_c aI σ Qr Q0 :=
 yV (ai zAQ (ai (wA 0) trivial)) hb
theorem xBG (h1:zB Pg σ 69 (zH s_a (Int.toNat aI*5))=some (.agg ⟨zE nI nE nA nB nD⟩)) (h2:zD Pg f (f_a ++ (.agg ⟨zE nI nE nA nB nD⟩::f_c)) σ (.bool true) σ) (nx:Qr aI σ) (u1:aI<((s_l:Nat):Int):=by omega) (u2:Ix aI s_l:=by omega):zRC (some s_a) s_l s_c f f_a f_c aI σ Nx Qr Q0 :=
 kO 1 aI [.b true,.g,.g,.g,.g,.g,.i,.l (.agg ⟨zE nI nE nA nB nD⟩),.c (.bool true) σ,.g,.g] (fun _ f=>(an4 (zJ u1) u2 h1 h2 f)) nx
theorem xBF (h1:zB Pg σ 69 (zH s_a (Int.toNat aI*5))=some (.agg ⟨zE nI nE nA nB nD⟩)) (h2:zD Pg f (f_a ++ (.agg ⟨zE nI nE nA nB nD⟩::f_c)) σ (.bool false) σ) (nx:Nx (aI+1) σ) (u1:aI<((s_l:Nat):Int):=by omega) (u2:Ix aI s_l:=by omega) (u3:I6 (aI+1):=by omega):zRC (some s_a) s_l s_c f f_a f_c aI σ Nx Qr Q0 :=
 kO 0 (aI+1) [.b true,.g,.g,.g,.g,.g,.i,.l (.agg ⟨zE nI nE nA nB nD⟩),.c (.bool false) σ,.n (aI+1),.g] (fun _ f=>(an5 (zJ u1) u2 h1 h2 (w64 u3) f)) nx
theorem xBE (nx:Q0 σ) (u1:¬ aI<((s_l:Nat):Int):=by omega):zRC s s_l s_c f f_a f_c aI σ Nx Qr Q0 :=
 kO 2 () [.b false] (fun _ f=>(ai (zM u1) f)) nx
def zYS (s:Option Addr) (s_l s_c:Nat) (f:FuncId) (f_a f_c:List Value) (cx:Int) (σ:St) (Q:Value→St→Prop):Prop:=∀ g:Nat→Value,∃ an,Hid (kAt Pg (zS Pg) none (zO Pg 77) [1,0,1,0] (kFn Pg 77 Q) .ret ⟨Fm 19 (ov (zYQ s s_l s_c f f_a f_c cx) g),[]⟩ σ an)
def zYT (s:Option Addr) (s_l s_c:Nat) (f:FuncId) (f_a f_c:List Value) (σ:St) (Q:Value→St→Prop):Prop:=∀ g:Nat→Value,∃ an,Hid (kAt Pg (zS Pg) none (zO Pg 77) [1,0,1,0] (kFn Pg 77 Q) (.exit 0) ⟨Fm 19 (ov (zYR s s_l s_c f f_a f_c) g),[]⟩ σ an)
theorem xFD (hL:yQW s s_l s_c f f_a f_c 0 σ Pr P0) (kr:∀ i4_1' σ',Pr i4_1' σ'→zYS s s_l s_c f f_a f_c i4_1' σ' Q) (k0:∀ σ',P0 σ'→zYT s s_l s_c f f_a f_c σ' Q):zI Pg 77 [.slice s s_l s_c,.func (.func f) ⟨f_a⟩ ⟨f_c⟩] σ Q :=
 zF [.g,.g,.g,.g,.lf 19 (zMD s s_l s_c f f_a f_c 0) [zNT s s_l s_c f f_a f_c Pr,zNU s s_l s_c f f_a f_c P0]] (kd (ai (ai tt (ai (arf (zMD s s_l s_c f f_a f_c 0)) hL)) (ai (kz1 kr) (ai (kz0 k0) trivial))))
theorem yMU (nx:Q (iV cx) σ):zYS s s_l s_c f f_a f_c cx σ Q :=
 sK [] nx
theorem yMV (nx:Q (iV (-1)) σ):zYT s s_l s_c f f_a f_c σ Q :=
 sK [.g] nx
noncomputable def yQR:Code:=(Code.part [1,0,1,0,0] (zO Pg 78))
def zMB (s:Option Addr) (s_l s_c:Nat) (f:FuncId) (f_a f_c:List Value) (aI:Int):List (Nat × Value):=[(0,.slice s s_l s_c),(1,.func (.func f) ⟨f_a⟩ ⟨f_c⟩),(7,iV ((s_l:Nat):Int)),(8,iV aI)]
def xAZ (s:Option Addr) (s_l s_c:Nat) (f:FuncId) (f_a f_c:List Value) (Q:Int→St→Prop):Alt:=⟨Int,.normal,fun t=>zMB s s_l s_c f f_a f_c t,fun t=>[],fun t σ=>Q t σ⟩
def zYI (s:Option Addr) (s_l s_c:Nat) (f:FuncId) (f_a f_c:List Value) (cx:Int):List (Nat × Value):=[(4,iV cx)]
def zNP (s:Option Addr) (s_l s_c:Nat) (f:FuncId) (f_a f_c:List Value) (Q:Int→St→Prop):Alt:=⟨Int,.ret,fun t=>zYI s s_l s_c f f_a f_c t,fun t=>[],fun t σ=>Q t σ⟩
def zYJ (s:Option Addr) (s_l s_c:Nat) (f:FuncId) (f_a f_c:List Value):List (Nat × Value):=[]
def zNQ (s:Option Addr) (s_l s_c:Nat) (f:FuncId) (f_a f_c:List Value) (Q:St→Prop):Alt:=⟨Unit,(.exit 0),fun t=>zYJ s s_l s_c f f_a f_c,fun t=>[],fun t σ=>Q σ⟩
def zRA (s:Option Addr) (s_l s_c:Nat) (f:FuncId) (f_a f_c:List Value) (aI:Int) (σ:St) (Nx:Int→St→Prop) (Qr:Int→St→Prop) (Q0:St→Prop):Prop:=yJ Pg (zS Pg) none yQR 19 (zMB s s_l s_c f f_a f_c aI) [] [xAZ s s_l s_c f f_a f_c Nx,zNP s s_l s_c f f_a f_c Qr,zNQ s s_l s_c f f_a f_c Q0] σ
def yQS (s:Option Addr) (s_l s_c:Nat) (f:FuncId) (f_a f_c:List Value) (aI:Int) (σ:St) (Qr:Int→St→Prop) (Q0:St→Prop):Prop:=yR Pg (zS Pg) none yQR 19 (zMB s s_l s_c f f_a f_c aI) [] [zNP s s_l s_c f f_a f_c Qr,zNQ s s_l s_c f f_a f_c Q0] σ
theorem yMQ (hb:∀ k aI σ,Inv k aI σ→zRA s s_l s_c f f_a f_c aI σ (NX1 Inv k) Qr Q0):∀ k aI σ,Inv k aI σ→yQS s s_l s_c f f_a f_c aI σ Qr Q0 :=
 yV (ai zAQ (ai (wA 0) trivial)) hb
theorem xAY (h1:zB Pg σ 61 (zH s_a (Int.toNat aI*6))=some (.agg ⟨zG qD lG cG qF lI cI qG lJ cJ nB nD nF⟩)) (h2:zD Pg f (f_a ++ (.agg ⟨zG qD lG cG qF lI cI qG lJ cJ nB nD nF⟩::f_c)) σ (.bool true) σ) (nx:Qr aI σ) (u1:aI<((s_l:Nat):Int):=by omega) (u2:Ix aI s_l:=by omega):zRA (some s_a) s_l s_c f f_a f_c aI σ Nx Qr Q0 :=
 kO 1 aI [.b true,.g,.g,.g,.g,.g,.i,.l (.agg ⟨zG qD lG cG qF lI cI qG lJ cJ nB nD nF⟩),.c (.bool true) σ,.g,.g] (fun _ f=>(an4 (zJ u1) u2 h1 h2 f)) nx
theorem xAX (h1:zB Pg σ 61 (zH s_a (Int.toNat aI*6))=some (.agg ⟨zG qD lG cG qF lI cI qG lJ cJ nB nD nF⟩)) (h2:zD Pg f (f_a ++ (.agg ⟨zG qD lG cG qF lI cI qG lJ cJ nB nD nF⟩::f_c)) σ (.bool false) σ) (nx:Nx (aI+1) σ) (u1:aI<((s_l:Nat):Int):=by omega) (u2:Ix aI s_l:=by omega) (u3:I6 (aI+1):=by omega):zRA (some s_a) s_l s_c f f_a f_c aI σ Nx Qr Q0 :=
 kO 0 (aI+1) [.b true,.g,.g,.g,.g,.g,.i,.l (.agg ⟨zG qD lG cG qF lI cI qG lJ cJ nB nD nF⟩),.c (.bool false) σ,.n (aI+1),.g] (fun _ f=>(an5 (zJ u1) u2 h1 h2 (w64 u3) f)) nx
theorem xAW (nx:Q0 σ) (u1:¬ aI<((s_l:Nat):Int):=by omega):zRA s s_l s_c f f_a f_c aI σ Nx Qr Q0 :=
 kO 2 () [.b false] (fun _ f=>(ai (zM u1) f)) nx
def zYK (s:Option Addr) (s_l s_c:Nat) (f:FuncId) (f_a f_c:List Value) (cx:Int) (σ:St) (Q:Value→St→Prop):Prop:=∀ g:Nat→Value,∃ an,Hid (kAt Pg (zS Pg) none (zO Pg 78) [1,0,1,0] (kFn Pg 78 Q) .ret ⟨Fm 19 (ov (zYI s s_l s_c f f_a f_c cx) g),[]⟩ σ an)
def zYL (s:Option Addr) (s_l s_c:Nat) (f:FuncId) (f_a f_c:List Value) (σ:St) (Q:Value→St→Prop):Prop:=∀ g:Nat→Value,∃ an,Hid (kAt Pg (zS Pg) none (zO Pg 78) [1,0,1,0] (kFn Pg 78 Q) (.exit 0) ⟨Fm 19 (ov (zYJ s s_l s_c f f_a f_c) g),[]⟩ σ an)
theorem xFB (hL:yQS s s_l s_c f f_a f_c 0 σ Pr P0) (kr:∀ i4_1' σ',Pr i4_1' σ'→zYK s s_l s_c f f_a f_c i4_1' σ' Q) (k0:∀ σ',P0 σ'→zYL s s_l s_c f f_a f_c σ' Q):zI Pg 78 [.slice s s_l s_c,.func (.func f) ⟨f_a⟩ ⟨f_c⟩] σ Q :=
 zF [.g,.g,.g,.g,.lf 19 (zMB s s_l s_c f f_a f_c 0) [zNP s s_l s_c f f_a f_c Pr,zNQ s s_l s_c f f_a f_c P0]] (kd (ai (ai tt (ai (arf (zMB s s_l s_c f f_a f_c 0)) hL)) (ai (kz1 kr) (ai (kz0 k0) trivial))))
theorem yMO (nx:Q (iV cx) σ):zYK s s_l s_c f f_a f_c cx σ Q :=
 sK [] nx
theorem yMP (nx:Q (iV (-1)) σ):zYL s s_l s_c f f_a f_c σ Q :=
 sK [.g] nx
theorem yXH (h1:zD Pg 30 [iV aA,iV 0,iV (ak-1)] ((σ.row (wkc ak ah ac ad ag aa ab ar au am) 6).row (zE aA aM ax ay aC) 5) (.bool true) ((σ.row (wkc ak ah ac ad ag aa ab ar au am) 6).row (zE aA aM ax ay aC) 5)) (h2:zD Pg 30 [iV aM,iV 0,iV 1439] ((σ.row (wkc ak ah ac ad ag aa ab ar au am) 6).row (zE aA aM ax ay aC) 5) (.bool true) ((σ.row (wkc ak ah ac ad ag aa ab ar au am) 6).row (zE aA aM ax ay aC) 5)) (h3:zD Pg 30 [iV aC,iV 0,iV 15] ((σ.row (wkc ak ah ac ad ag aa ab ar au am) 6).row (zE aA aM ax ay aC) 5) (.bool b3) ((σ.row (wkc ak ah ac ad ag aa ab ar au am) 6).row (zE aA aM ax ay aC) 5)) (nx:Q (.bool b3) ((σ.row (wkc ak ah ac ad ag aa ab ar au am) 6).row (zE aA aM ax ay aC) 5)) (u1:I6 (ak-1):=by omega) (u2:aM≤ax:=by omega) (u3:ax≤ay:=by omega) (u4:I6 (aM+1440):=by omega) (u5:ay≤(aM+1440):=by omega):zI Pg 39 [.agg ⟨wkc ak ah ac ad ag aa ab ar au am⟩,.agg ⟨zE aA aM ax ay aC⟩] σ Q :=
 let s1:=σ.row (wkc ak ah ac ad ag aa ab ar au am) 6;let s2:=s1.row (zE aA aM ax ay aC) 5;let s3:=σ.y+1;zF [.g,.g,.g,.g,.l (iV aA),.g,.l (iV ak),.n (ak-1),.c (.bool true) s2,.g,.g,.l (iV aM),.c (.bool true) s2,.g,.g,.g,.l (iV aM),.g,.g,.l (iV ax),.b true,.g,.g,.g,.g,.l (iV ax),.g,.g,.l (iV ay),.b true,.g,.g,.g,.g,.l (iV ay),.g,.l (iV aM),.n (aM+1440),.b true,.g,.g,.g,.l (iV aC),.c (.bool b3) s2,.g,.g] (kd (an6 ((zC _ _ _).rw.ld zK (k:=0) rfl:zB Pg s2 3 ⟨s3,0,none⟩=some (iV aA)) ((zC _ _ _).row.rw.ld zK (k:=0) rfl:zB Pg s2 3 ⟨σ.y,0,none⟩=some (iV ak)) (w64 u1) h1 ((zC _ _ _).rw.ld zK (k:=1) rfl:zB Pg s2 3 ⟨s3,1,none⟩=some (iV aM)) h2 (an6 ((zC _ _ _).rw.ld zK (k:=1) rfl:zB Pg s2 3 ⟨s3,1,none⟩=some (iV aM)) ((zC _ _ _).rw.ld zK (k:=2) rfl:zB Pg s2 3 ⟨s3,2,none⟩=some (iV ax)) (zX u2) ((zC _ _ _).rw.ld zK (k:=2) rfl:zB Pg s2 3 ⟨s3,2,none⟩=some (iV ax)) ((zC _ _ _).rw.ld zK (k:=3) rfl:zB Pg s2 3 ⟨s3,3,none⟩=some (iV ay)) (zX u3) (an6 ((zC _ _ _).rw.ld zK (k:=3) rfl:zB Pg s2 3 ⟨s3,3,none⟩=some (iV ay)) ((zC _ _ _).rw.ld zK (k:=1) rfl:zB Pg s2 3 ⟨s3,1,none⟩=some (iV aM)) (w64 u4) (zX u5) ((zC _ _ _).rw.ld zK (k:=4) rfl:zB Pg s2 3 ⟨s3,4,none⟩=some (iV aC)) h3 nx))))
theorem yXG (h1:zD Pg 30 [iV aA,iV 0,iV (ak-1)] ((σ.row (wkc ak ah ac ad ag aa ab ar au am) 6).row (zE aA aM ax ay aC) 5) (.bool true) ((σ.row (wkc ak ah ac ad ag aa ab ar au am) 6).row (zE aA aM ax ay aC) 5)) (h2:zD Pg 30 [iV aM,iV 0,iV 1439] ((σ.row (wkc ak ah ac ad ag aa ab ar au am) 6).row (zE aA aM ax ay aC) 5) (.bool true) ((σ.row (wkc ak ah ac ad ag aa ab ar au am) 6).row (zE aA aM ax ay aC) 5)) (nx:Q (.bool false) ((σ.row (wkc ak ah ac ad ag aa ab ar au am) 6).row (zE aA aM ax ay aC) 5)) (u1:I6 (ak-1):=by omega) (u2:aM≤ax:=by omega) (u3:ax≤ay:=by omega) (u4:I6 (aM+1440):=by omega) (u5:¬ ay≤(aM+1440):=by omega):zI Pg 39 [.agg ⟨wkc ak ah ac ad ag aa ab ar au am⟩,.agg ⟨zE aA aM ax ay aC⟩] σ Q :=
 let s1:=σ.row (wkc ak ah ac ad ag aa ab ar au am) 6;let s2:=s1.row (zE aA aM ax ay aC) 5;let s3:=σ.y+1;zF [.g,.g,.g,.g,.l (iV aA),.g,.l (iV ak),.n (ak-1),.c (.bool true) s2,.g,.g,.l (iV aM),.c (.bool true) s2,.g,.g,.g,.l (iV aM),.g,.g,.l (iV ax),.b true,.g,.g,.g,.g,.l (iV ax),.g,.g,.l (iV ay),.b true,.g,.g,.g,.g,.l (iV ay),.g,.l (iV aM),.n (aM+1440),.b false,.g,.g,.g,.g] (kd (an4 ((zC _ _ _).rw.ld zK (k:=0) rfl:zB Pg s2 3 ⟨s3,0,none⟩=some (iV aA)) ((zC _ _ _).row.rw.ld zK (k:=0) rfl:zB Pg s2 3 ⟨σ.y,0,none⟩=some (iV ak)) (w64 u1) h1 (an6 ((zC _ _ _).rw.ld zK (k:=1) rfl:zB Pg s2 3 ⟨s3,1,none⟩=some (iV aM)) h2 ((zC _ _ _).rw.ld zK (k:=1) rfl:zB Pg s2 3 ⟨s3,1,none⟩=some (iV aM)) ((zC _ _ _).rw.ld zK (k:=2) rfl:zB Pg s2 3 ⟨s3,2,none⟩=some (iV ax)) (zX u2) ((zC _ _ _).rw.ld zK (k:=2) rfl:zB Pg s2 3 ⟨s3,2,none⟩=some (iV ax)) (an6 ((zC _ _ _).rw.ld zK (k:=3) rfl:zB Pg s2 3 ⟨s3,3,none⟩=some (iV ay)) (zX u3) ((zC _ _ _).rw.ld zK (k:=3) rfl:zB Pg s2 3 ⟨s3,3,none⟩=some (iV ay)) ((zC _ _ _).rw.ld zK (k:=1) rfl:zB Pg s2 3 ⟨s3,1,none⟩=some (iV aM)) (w64 u4) (yB u5) nx))))
theorem yXF (h1:zD Pg 30 [iV aA,iV 0,iV (ak-1)] ((σ.row (wkc ak ah ac ad ag aa ab ar au am) 6).row (zE aA aM ax ay aC) 5) (.bool true) ((σ.row (wkc ak ah ac ad ag aa ab ar au am) 6).row (zE aA aM ax ay aC) 5)) (h2:zD Pg 30 [iV aM,iV 0,iV 1439] ((σ.row (wkc ak ah ac ad ag aa ab ar au am) 6).row (zE aA aM ax ay aC) 5) (.bool true) ((σ.row (wkc ak ah ac ad ag aa ab ar au am) 6).row (zE aA aM ax ay aC) 5)) (nx:Q (.bool false) ((σ.row (wkc ak ah ac ad ag aa ab ar au am) 6).row (zE aA aM ax ay aC) 5)) (u1:I6 (ak-1):=by omega) (u2:aM≤ax:=by omega) (u3:¬ ax≤ay:=by omega):zI Pg 39 [.agg ⟨wkc ak ah ac ad ag aa ab ar au am⟩,.agg ⟨zE aA aM ax ay aC⟩] σ Q :=
 let s1:=σ.row (wkc ak ah ac ad ag aa ab ar au am) 6;let s2:=s1.row (zE aA aM ax ay aC) 5;let s3:=σ.y+1;zF [.g,.g,.g,.g,.l (iV aA),.g,.l (iV ak),.n (ak-1),.c (.bool true) s2,.g,.g,.l (iV aM),.c (.bool true) s2,.g,.g,.g,.l (iV aM),.g,.g,.l (iV ax),.b true,.g,.g,.g,.g,.l (iV ax),.g,.g,.l (iV ay),.b false,.g,.g,.g,.g,.g,.g] (kd (an6 ((zC _ _ _).rw.ld zK (k:=0) rfl:zB Pg s2 3 ⟨s3,0,none⟩=some (iV aA)) ((zC _ _ _).row.rw.ld zK (k:=0) rfl:zB Pg s2 3 ⟨σ.y,0,none⟩=some (iV ak)) (w64 u1) h1 ((zC _ _ _).rw.ld zK (k:=1) rfl:zB Pg s2 3 ⟨s3,1,none⟩=some (iV aM)) h2 (an6 ((zC _ _ _).rw.ld zK (k:=1) rfl:zB Pg s2 3 ⟨s3,1,none⟩=some (iV aM)) ((zC _ _ _).rw.ld zK (k:=2) rfl:zB Pg s2 3 ⟨s3,2,none⟩=some (iV ax)) (zX u2) ((zC _ _ _).rw.ld zK (k:=2) rfl:zB Pg s2 3 ⟨s3,2,none⟩=some (iV ax)) ((zC _ _ _).rw.ld zK (k:=3) rfl:zB Pg s2 3 ⟨s3,3,none⟩=some (iV ay)) (yB u3) nx)))
theorem yXE (h1:zD Pg 30 [iV aA,iV 0,iV (ak-1)] ((σ.row (wkc ak ah ac ad ag aa ab ar au am) 6).row (zE aA aM ax ay aC) 5) (.bool true) ((σ.row (wkc ak ah ac ad ag aa ab ar au am) 6).row (zE aA aM ax ay aC) 5)) (h2:zD Pg 30 [iV aM,iV 0,iV 1439] ((σ.row (wkc ak ah ac ad ag aa ab ar au am) 6).row (zE aA aM ax ay aC) 5) (.bool true) ((σ.row (wkc ak ah ac ad ag aa ab ar au am) 6).row (zE aA aM ax ay aC) 5)) (nx:Q (.bool false) ((σ.row (wkc ak ah ac ad ag aa ab ar au am) 6).row (zE aA aM ax ay aC) 5)) (u1:I6 (ak-1):=by omega) (u2:¬ aM≤ax:=by omega):zI Pg 39 [.agg ⟨wkc ak ah ac ad ag aa ab ar au am⟩,.agg ⟨zE aA aM ax ay aC⟩] σ Q :=
 let s1:=σ.row (wkc ak ah ac ad ag aa ab ar au am) 6;let s2:=s1.row (zE aA aM ax ay aC) 5;let s3:=σ.y+1;zF [.g,.g,.g,.g,.l (iV aA),.g,.l (iV ak),.n (ak-1),.c (.bool true) s2,.g,.g,.l (iV aM),.c (.bool true) s2,.g,.g,.g,.l (iV aM),.g,.g,.l (iV ax),.b false,.g,.g,.g,.g,.g,.g,.g,.g] (kd (an3 ((zC _ _ _).rw.ld zK (k:=0) rfl:zB Pg s2 3 ⟨s3,0,none⟩=some (iV aA)) ((zC _ _ _).row.rw.ld zK (k:=0) rfl:zB Pg s2 3 ⟨σ.y,0,none⟩=some (iV ak)) (w64 u1) (an6 h1 ((zC _ _ _).rw.ld zK (k:=1) rfl:zB Pg s2 3 ⟨s3,1,none⟩=some (iV aM)) h2 ((zC _ _ _).rw.ld zK (k:=1) rfl:zB Pg s2 3 ⟨s3,1,none⟩=some (iV aM)) ((zC _ _ _).rw.ld zK (k:=2) rfl:zB Pg s2 3 ⟨s3,2,none⟩=some (iV ax)) (yB u2) nx)))
theorem yXD (h1:zD Pg 30 [iV aA,iV 0,iV (ak-1)] ((σ.row (wkc ak ah ac ad ag aa ab ar au am) 6).row (zE aA aM ax ay aC) 5) (.bool true) ((σ.row (wkc ak ah ac ad ag aa ab ar au am) 6).row (zE aA aM ax ay aC) 5)) (h2:zD Pg 30 [iV aM,iV 0,iV 1439] ((σ.row (wkc ak ah ac ad ag aa ab ar au am) 6).row (zE aA aM ax ay aC) 5) (.bool false) ((σ.row (wkc ak ah ac ad ag aa ab ar au am) 6).row (zE aA aM ax ay aC) 5)) (nx:Q (.bool false) ((σ.row (wkc ak ah ac ad ag aa ab ar au am) 6).row (zE aA aM ax ay aC) 5)) (u1:I6 (ak-1):=by omega):zI Pg 39 [.agg ⟨wkc ak ah ac ad ag aa ab ar au am⟩,.agg ⟨zE aA aM ax ay aC⟩] σ Q :=
 let s1:=σ.row (wkc ak ah ac ad ag aa ab ar au am) 6;let s2:=s1.row (zE aA aM ax ay aC) 5;zF [.g,.g,.g,.g,.l (iV aA),.g,.l (iV ak),.n (ak-1),.c (.bool true) s2,.g,.g,.l (iV aM),.c (.bool false) s2,.g,.g,.g,.g,.g,.g,.g,.g,.g,.g] (kd (an6 ((zC _ _ _).rw.ld zK (k:=0) rfl:zB Pg s2 3 ⟨(σ.y+1),0,none⟩=some (iV aA)) ((zC _ _ _).row.rw.ld zK (k:=0) rfl:zB Pg s2 3 ⟨σ.y,0,none⟩=some (iV ak)) (w64 u1) h1 ((zC _ _ _).rw.ld zK (k:=1) rfl:zB Pg s2 3 ⟨(σ.y+1),1,none⟩=some (iV aM)) h2 nx))
theorem yXC (h1:zD Pg 30 [iV aA,iV 0,iV (ak-1)] ((σ.row (wkc ak ah ac ad ag aa ab ar au am) 6).row (zE aA aM ax ay aC) 5) (.bool false) ((σ.row (wkc ak ah ac ad ag aa ab ar au am) 6).row (zE aA aM ax ay aC) 5)) (nx:Q (.bool false) ((σ.row (wkc ak ah ac ad ag aa ab ar au am) 6).row (zE aA aM ax ay aC) 5)) (u1:I6 (ak-1):=by omega):zI Pg 39 [.agg ⟨wkc ak ah ac ad ag aa ab ar au am⟩,.agg ⟨zE aA aM ax ay aC⟩] σ Q :=
 let s1:=σ.row (wkc ak ah ac ad ag aa ab ar au am) 6;let s2:=s1.row (zE aA aM ax ay aC) 5;zF [.g,.g,.g,.g,.l (iV aA),.g,.l (iV ak),.n (ak-1),.c (.bool false) s2,.g,.g,.g,.g,.g,.g,.g,.g,.g,.g,.g] (kd (an4 ((zC _ _ _).rw.ld zK (k:=0) rfl:zB Pg s2 3 ⟨(σ.y+1),0,none⟩=some (iV aA)) ((zC _ _ _).row.rw.ld zK (k:=0) rfl:zB Pg s2 3 ⟨σ.y,0,none⟩=some (iV ak)) (w64 u1) h1 nx))
theorem yJJ (h1:zD Pg 60 [.slice aO aE aF,iV 0,iV 15] ((σ.row (wkc ak ah ac ad ag aa ab ar au am) 6).row (zG aO aE aF aS aG aH a7 aK aL bi bk ba) 6) (.bool true) ((σ.row (wkc ak ah ac ad ag aa ab ar au am) 6).row (zG aO aE aF aS aG aH a7 aK aL bi bk ba) 6)) (h2:zD Pg 60 [.slice aS aG aH,iV 0,iV (ak-1)] ((σ.row (wkc ak ah ac ad ag aa ab ar au am) 6).row (zG aO aE aF aS aG aH a7 aK aL bi bk ba) 6) (.bool true) ((σ.row (wkc ak ah ac ad ag aa ab ar au am) 6).row (zG aO aE aF aS aG aH a7 aK aL bi bk ba) 6)) (h3:zD Pg 60 [.slice a7 aK aL,iV 0,iV (ak-1)] ((σ.row (wkc ak ah ac ad ag aa ab ar au am) 6).row (zG aO aE aF aS aG aH a7 aK aL bi bk ba) 6) (.bool true) ((σ.row (wkc ak ah ac ad ag aa ab ar au am) 6).row (zG aO aE aF aS aG aH a7 aK aL bi bk ba) 6)) (h4:zD Pg 30 [iV bi,iV (-10080),iV 1440] ((σ.row (wkc ak ah ac ad ag aa ab ar au am) 6).row (zG aO aE aF aS aG aH a7 aK aL bi bk ba) 6) (.bool true) ((σ.row (wkc ak ah ac ad ag aa ab ar au am) 6).row (zG aO aE aF aS aG aH a7 aK aL bi bk ba) 6)) (h5:zD Pg 30 [iV bk,iV 0,iV 14] ((σ.row (wkc ak ah ac ad ag aa ab ar au am) 6).row (zG aO aE aF aS aG aH a7 aK aL bi bk ba) 6) (.bool true) ((σ.row (wkc ak ah ac ad ag aa ab ar au am) 6).row (zG aO aE aF aS aG aH a7 aK aL bi bk ba) 6)) (h6:zD Pg 30 [iV ba,iV 0,iV am] ((σ.row (wkc ak ah ac ad ag aa ab ar au am) 6).row (zG aO aE aF aS aG aH a7 aK aL bi bk ba) 6) (.bool b6) ((σ.row (wkc ak ah ac ad ag aa ab ar au am) 6).row (zG aO aE aF aS aG aH a7 aK aL bi bk ba) 6)) (nx:Q (.bool b6) ((σ.row (wkc ak ah ac ad ag aa ab ar au am) 6).row (zG aO aE aF aS aG aH a7 aK aL bi bk ba) 6)) (u1:I6 (ak-1):=by omega):zI Pg 41 [.agg ⟨wkc ak ah ac ad ag aa ab ar au am⟩,.agg ⟨zG aO aE aF aS aG aH a7 aK aL bi bk ba⟩] σ Q :=
 let s1:=σ.row (wkc ak ah ac ad ag aa ab ar au am) 6;let s2:=s1.row (zG aO aE aF aS aG aH a7 aK aL bi bk ba) 6;let s3:=σ.y+1;zF [.g,.g,.g,.g,.l (.slice aO aE aF),.c (.bool true) s2,.g,.g,.l (.slice aS aG aH),.g,.l (iV ak),.n (ak-1),.c (.bool true) s2,.g,.g,.g,.l (.slice a7 aK aL),.g,.l (iV ak),.n (ak-1),.c (.bool true) s2,.g,.g,.g,.l (iV bi),.c (.bool true) s2,.g,.g,.g,.l (iV bk),.c (.bool true) s2,.g,.g,.g,.l (iV ba),.g,.l (iV am),.c (.bool b6) s2,.g,.g] (kd (an5 ((zC _ _ _).rw.ld yT (k:=0) rfl:zB Pg s2 29 ⟨s3,0,none⟩=some (.slice aO aE aF)) h1 ((zC _ _ _).rw.ld yT (k:=1) rfl:zB Pg s2 29 ⟨s3,1,none⟩=some (.slice aS aG aH)) ((zC _ _ _).row.rw.ld zK (k:=0) rfl:zB Pg s2 3 ⟨σ.y,0,none⟩=some (iV ak)) (w64 u1) (an6 h2 ((zC _ _ _).rw.ld yT (k:=2) rfl:zB Pg s2 29 ⟨s3,2,none⟩=some (.slice a7 aK aL)) ((zC _ _ _).row.rw.ld zK (k:=0) rfl:zB Pg s2 3 ⟨σ.y,0,none⟩=some (iV ak)) (w64 u1) h3 ((zC _ _ _).rw.ld zK (k:=3) rfl:zB Pg s2 3 ⟨s3,3,none⟩=some (iV bi)) (an6 h4 ((zC _ _ _).rw.ld zK (k:=4) rfl:zB Pg s2 3 ⟨s3,4,none⟩=some (iV bk)) h5 ((zC _ _ _).rw.ld zK (k:=5) rfl:zB Pg s2 3 ⟨s3,5,none⟩=some (iV ba)) ((zC _ _ _).row.rw.ld zK (k:=5) rfl:zB Pg s2 3 ⟨σ.y,5,none⟩=some (iV am)) h6 nx))))
theorem yJI (h1:zD Pg 60 [.slice aO aE aF,iV 0,iV 15] ((σ.row (wkc ak ah ac ad ag aa ab ar au am) 6).row (zG aO aE aF aS aG aH a7 aK aL bi bk ba) 6) (.bool true) ((σ.row (wkc ak ah ac ad ag aa ab ar au am) 6).row (zG aO aE aF aS aG aH a7 aK aL bi bk ba) 6)) (h2:zD Pg 60 [.slice aS aG aH,iV 0,iV (ak-1)] ((σ.row (wkc ak ah ac ad ag aa ab ar au am) 6).row (zG aO aE aF aS aG aH a7 aK aL bi bk ba) 6) (.bool true) ((σ.row (wkc ak ah ac ad ag aa ab ar au am) 6).row (zG aO aE aF aS aG aH a7 aK aL bi bk ba) 6)) (h3:zD Pg 60 [.slice a7 aK aL,iV 0,iV (ak-1)] ((σ.row (wkc ak ah ac ad ag aa ab ar au am) 6).row (zG aO aE aF aS aG aH a7 aK aL bi bk ba) 6) (.bool true) ((σ.row (wkc ak ah ac ad ag aa ab ar au am) 6).row (zG aO aE aF aS aG aH a7 aK aL bi bk ba) 6)) (h4:zD Pg 30 [iV bi,iV (-10080),iV 1440] ((σ.row (wkc ak ah ac ad ag aa ab ar au am) 6).row (zG aO aE aF aS aG aH a7 aK aL bi bk ba) 6) (.bool true) ((σ.row (wkc ak ah ac ad ag aa ab ar au am) 6).row (zG aO aE aF aS aG aH a7 aK aL bi bk ba) 6)) (h5:zD Pg 30 [iV bk,iV 0,iV 14] ((σ.row (wkc ak ah ac ad ag aa ab ar au am) 6).row (zG aO aE aF aS aG aH a7 aK aL bi bk ba) 6) (.bool false) ((σ.row (wkc ak ah ac ad ag aa ab ar au am) 6).row (zG aO aE aF aS aG aH a7 aK aL bi bk ba) 6)) (nx:Q (.bool false) ((σ.row (wkc ak ah ac ad ag aa ab ar au am) 6).row (zG aO aE aF aS aG aH a7 aK aL bi bk ba) 6)) (u1:I6 (ak-1):=by omega):zI Pg 41 [.agg ⟨wkc ak ah ac ad ag aa ab ar au am⟩,.agg ⟨zG aO aE aF aS aG aH a7 aK aL bi bk ba⟩] σ Q :=
 let s1:=σ.row (wkc ak ah ac ad ag aa ab ar au am) 6;let s2:=s1.row (zG aO aE aF aS aG aH a7 aK aL bi bk ba) 6;let s3:=σ.y+1;zF [.g,.g,.g,.g,.l (.slice aO aE aF),.c (.bool true) s2,.g,.g,.l (.slice aS aG aH),.g,.l (iV ak),.n (ak-1),.c (.bool true) s2,.g,.g,.g,.l (.slice a7 aK aL),.g,.l (iV ak),.n (ak-1),.c (.bool true) s2,.g,.g,.g,.l (iV bi),.c (.bool true) s2,.g,.g,.g,.l (iV bk),.c (.bool false) s2,.g,.g,.g,.g] (kd (an2 ((zC _ _ _).rw.ld yT (k:=0) rfl:zB Pg s2 29 ⟨s3,0,none⟩=some (.slice aO aE aF)) h1 (an6 ((zC _ _ _).rw.ld yT (k:=1) rfl:zB Pg s2 29 ⟨s3,1,none⟩=some (.slice aS aG aH)) ((zC _ _ _).row.rw.ld zK (k:=0) rfl:zB Pg s2 3 ⟨σ.y,0,none⟩=some (iV ak)) (w64 u1) h2 ((zC _ _ _).rw.ld yT (k:=2) rfl:zB Pg s2 29 ⟨s3,2,none⟩=some (.slice a7 aK aL)) ((zC _ _ _).row.rw.ld zK (k:=0) rfl:zB Pg s2 3 ⟨σ.y,0,none⟩=some (iV ak)) (an6 (w64 u1) h3 ((zC _ _ _).rw.ld zK (k:=3) rfl:zB Pg s2 3 ⟨s3,3,none⟩=some (iV bi)) h4 ((zC _ _ _).rw.ld zK (k:=4) rfl:zB Pg s2 3 ⟨s3,4,none⟩=some (iV bk)) h5 nx))))
theorem yJH (h1:zD Pg 60 [.slice aO aE aF,iV 0,iV 15] ((σ.row (wkc ak ah ac ad ag aa ab ar au am) 6).row (zG aO aE aF aS aG aH a7 aK aL bi bk ba) 6) (.bool true) ((σ.row (wkc ak ah ac ad ag aa ab ar au am) 6).row (zG aO aE aF aS aG aH a7 aK aL bi bk ba) 6)) (h2:zD Pg 60 [.slice aS aG aH,iV 0,iV (ak-1)] ((σ.row (wkc ak ah ac ad ag aa ab ar au am) 6).row (zG aO aE aF aS aG aH a7 aK aL bi bk ba) 6) (.bool true) ((σ.row (wkc ak ah ac ad ag aa ab ar au am) 6).row (zG aO aE aF aS aG aH a7 aK aL bi bk ba) 6)) (h3:zD Pg 60 [.slice a7 aK aL,iV 0,iV (ak-1)] ((σ.row (wkc ak ah ac ad ag aa ab ar au am) 6).row (zG aO aE aF aS aG aH a7 aK aL bi bk ba) 6) (.bool true) ((σ.row (wkc ak ah ac ad ag aa ab ar au am) 6).row (zG aO aE aF aS aG aH a7 aK aL bi bk ba) 6)) (h4:zD Pg 30 [iV bi,iV (-10080),iV 1440] ((σ.row (wkc ak ah ac ad ag aa ab ar au am) 6).row (zG aO aE aF aS aG aH a7 aK aL bi bk ba) 6) (.bool false) ((σ.row (wkc ak ah ac ad ag aa ab ar au am) 6).row (zG aO aE aF aS aG aH a7 aK aL bi bk ba) 6)) (nx:Q (.bool false) ((σ.row (wkc ak ah ac ad ag aa ab ar au am) 6).row (zG aO aE aF aS aG aH a7 aK aL bi bk ba) 6)) (u1:I6 (ak-1):=by omega):zI Pg 41 [.agg ⟨wkc ak ah ac ad ag aa ab ar au am⟩,.agg ⟨zG aO aE aF aS aG aH a7 aK aL bi bk ba⟩] σ Q :=
 let s1:=σ.row (wkc ak ah ac ad ag aa ab ar au am) 6;let s2:=s1.row (zG aO aE aF aS aG aH a7 aK aL bi bk ba) 6;let s3:=σ.y+1;zF [.g,.g,.g,.g,.l (.slice aO aE aF),.c (.bool true) s2,.g,.g,.l (.slice aS aG aH),.g,.l (iV ak),.n (ak-1),.c (.bool true) s2,.g,.g,.g,.l (.slice a7 aK aL),.g,.l (iV ak),.n (ak-1),.c (.bool true) s2,.g,.g,.g,.l (iV bi),.c (.bool false) s2,.g,.g,.g,.g,.g,.g] (kd (an6 ((zC _ _ _).rw.ld yT (k:=0) rfl:zB Pg s2 29 ⟨s3,0,none⟩=some (.slice aO aE aF)) h1 ((zC _ _ _).rw.ld yT (k:=1) rfl:zB Pg s2 29 ⟨s3,1,none⟩=some (.slice aS aG aH)) ((zC _ _ _).row.rw.ld zK (k:=0) rfl:zB Pg s2 3 ⟨σ.y,0,none⟩=some (iV ak)) (w64 u1) h2 (an6 ((zC _ _ _).rw.ld yT (k:=2) rfl:zB Pg s2 29 ⟨s3,2,none⟩=some (.slice a7 aK aL)) ((zC _ _ _).row.rw.ld zK (k:=0) rfl:zB Pg s2 3 ⟨σ.y,0,none⟩=some (iV ak)) (w64 u1) h3 ((zC _ _ _).rw.ld zK (k:=3) rfl:zB Pg s2 3 ⟨s3,3,none⟩=some (iV bi)) h4 nx)))
theorem yJG (h1:zD Pg 60 [.slice aO aE aF,iV 0,iV 15] ((σ.row (wkc ak ah ac ad ag aa ab ar au am) 6).row (zG aO aE aF aS aG aH a7 aK aL bi bk ba) 6) (.bool true) ((σ.row (wkc ak ah ac ad ag aa ab ar au am) 6).row (zG aO aE aF aS aG aH a7 aK aL bi bk ba) 6)) (h2:zD Pg 60 [.slice aS aG aH,iV 0,iV (ak-1)] ((σ.row (wkc ak ah ac ad ag aa ab ar au am) 6).row (zG aO aE aF aS aG aH a7 aK aL bi bk ba) 6) (.bool true) ((σ.row (wkc ak ah ac ad ag aa ab ar au am) 6).row (zG aO aE aF aS aG aH a7 aK aL bi bk ba) 6)) (h3:zD Pg 60 [.slice a7 aK aL,iV 0,iV (ak-1)] ((σ.row (wkc ak ah ac ad ag aa ab ar au am) 6).row (zG aO aE aF aS aG aH a7 aK aL bi bk ba) 6) (.bool false) ((σ.row (wkc ak ah ac ad ag aa ab ar au am) 6).row (zG aO aE aF aS aG aH a7 aK aL bi bk ba) 6)) (nx:Q (.bool false) ((σ.row (wkc ak ah ac ad ag aa ab ar au am) 6).row (zG aO aE aF aS aG aH a7 aK aL bi bk ba) 6)) (u1:I6 (ak-1):=by omega):zI Pg 41 [.agg ⟨wkc ak ah ac ad ag aa ab ar au am⟩,.agg ⟨zG aO aE aF aS aG aH a7 aK aL bi bk ba⟩] σ Q :=
 let s1:=σ.row (wkc ak ah ac ad ag aa ab ar au am) 6;let s2:=s1.row (zG aO aE aF aS aG aH a7 aK aL bi bk ba) 6;let s3:=σ.y+1;zF [.g,.g,.g,.g,.l (.slice aO aE aF),.c (.bool true) s2,.g,.g,.l (.slice aS aG aH),.g,.l (iV ak),.n (ak-1),.c (.bool true) s2,.g,.g,.g,.l (.slice a7 aK aL),.g,.l (iV ak),.n (ak-1),.c (.bool false) s2,.g,.g,.g,.g,.g,.g,.g,.g] (kd (an4 ((zC _ _ _).rw.ld yT (k:=0) rfl:zB Pg s2 29 ⟨s3,0,none⟩=some (.slice aO aE aF)) h1 ((zC _ _ _).rw.ld yT (k:=1) rfl:zB Pg s2 29 ⟨s3,1,none⟩=some (.slice aS aG aH)) ((zC _ _ _).row.rw.ld zK (k:=0) rfl:zB Pg s2 3 ⟨σ.y,0,none⟩=some (iV ak)) (an6 (w64 u1) h2 ((zC _ _ _).rw.ld yT (k:=2) rfl:zB Pg s2 29 ⟨s3,2,none⟩=some (.slice a7 aK aL)) ((zC _ _ _).row.rw.ld zK (k:=0) rfl:zB Pg s2 3 ⟨σ.y,0,none⟩=some (iV ak)) (w64 u1) h3 nx)))
theorem yJF (h1:zD Pg 60 [.slice aO aE aF,iV 0,iV 15] ((σ.row (wkc ak ah ac ad ag aa ab ar au am) 6).row (zG aO aE aF aS aG aH a7 aK aL bi bk ba) 6) (.bool true) ((σ.row (wkc ak ah ac ad ag aa ab ar au am) 6).row (zG aO aE aF aS aG aH a7 aK aL bi bk ba) 6)) (h2:zD Pg 60 [.slice aS aG aH,iV 0,iV (ak-1)] ((σ.row (wkc ak ah ac ad ag aa ab ar au am) 6).row (zG aO aE aF aS aG aH a7 aK aL bi bk ba) 6) (.bool false) ((σ.row (wkc ak ah ac ad ag aa ab ar au am) 6).row (zG aO aE aF aS aG aH a7 aK aL bi bk ba) 6)) (nx:Q (.bool false) ((σ.row (wkc ak ah ac ad ag aa ab ar au am) 6).row (zG aO aE aF aS aG aH a7 aK aL bi bk ba) 6)) (u1:I6 (ak-1):=by omega):zI Pg 41 [.agg ⟨wkc ak ah ac ad ag aa ab ar au am⟩,.agg ⟨zG aO aE aF aS aG aH a7 aK aL bi bk ba⟩] σ Q :=
 let s1:=σ.row (wkc ak ah ac ad ag aa ab ar au am) 6;let s2:=s1.row (zG aO aE aF aS aG aH a7 aK aL bi bk ba) 6;zF [.g,.g,.g,.g,.l (.slice aO aE aF),.c (.bool true) s2,.g,.g,.l (.slice aS aG aH),.g,.l (iV ak),.n (ak-1),.c (.bool false) s2,.g,.g,.g,.g,.g,.g,.g,.g,.g,.g] (kd (an6 ((zC _ _ _).rw.ld yT (k:=0) rfl:zB Pg s2 29 ⟨(σ.y+1),0,none⟩=some (.slice aO aE aF)) h1 ((zC _ _ _).rw.ld yT (k:=1) rfl:zB Pg s2 29 ⟨(σ.y+1),1,none⟩=some (.slice aS aG aH)) ((zC _ _ _).row.rw.ld zK (k:=0) rfl:zB Pg s2 3 ⟨σ.y,0,none⟩=some (iV ak)) (w64 u1) h2 nx))
theorem yJE (h1:zD Pg 60 [.slice aO aE aF,iV 0,iV 15] ((σ.row (wkc ak ah ac ad ag aa ab ar au am) 6).row (zG aO aE aF aS aG aH a7 aK aL bi bk ba) 6) (.bool false) ((σ.row (wkc ak ah ac ad ag aa ab ar au am) 6).row (zG aO aE aF aS aG aH a7 aK aL bi bk ba) 6)) (nx:Q (.bool false) ((σ.row (wkc ak ah ac ad ag aa ab ar au am) 6).row (zG aO aE aF aS aG aH a7 aK aL bi bk ba) 6)):zI Pg 41 [.agg ⟨wkc ak ah ac ad ag aa ab ar au am⟩,.agg ⟨zG aO aE aF aS aG aH a7 aK aL bi bk ba⟩] σ Q :=
 let s1:=σ.row (wkc ak ah ac ad ag aa ab ar au am) 6;let s2:=s1.row (zG aO aE aF aS aG aH a7 aK aL bi bk ba) 6;zF [.g,.g,.g,.g,.l (.slice aO aE aF),.c (.bool false) s2,.g,.g,.g,.g,.g,.g,.g,.g,.g,.g,.g] (kd (an2 ((zC _ _ _).rw.ld yT (k:=0) rfl:zB Pg s2 29 ⟨(σ.y+1),0,none⟩=some (.slice aO aE aF)) h1 nx))
theorem xGD (h1:zD Pg 61 [.slice l l_l l_c,.func (.func 62) ⟨[]⟩ ⟨[.pointer (some ⟨σ.y,0,none⟩)]⟩] (σ.row [.func (.func right) ⟨[]⟩ ⟨bz⟩] 1) (.bool true) (σ.row [.func (.func right) ⟨[]⟩ ⟨bz⟩] 1)) (nx:Q (.bool false) (σ.row [.func (.func right) ⟨[]⟩ ⟨bz⟩] 1)):zI Pg 43 [.slice l l_l l_c,.func (.func right) ⟨[]⟩ ⟨bz⟩] σ Q :=
 zF [.g,.g,.g,.g,.c (.bool true) (σ.row [.func (.func right) ⟨[]⟩ ⟨bz⟩] 1),.g,.g] (kd (ai h1 nx))
theorem xGC (h1:zD Pg 61 [.slice l l_l l_c,.func (.func 62) ⟨[]⟩ ⟨[.pointer (some ⟨σ.y,0,none⟩)]⟩] (σ.row [.func (.func right) ⟨[]⟩ ⟨bz⟩] 1) (.bool false) (σ.row [.func (.func right) ⟨[]⟩ ⟨bz⟩] 1)) (nx:Q (.bool true) (σ.row [.func (.func right) ⟨[]⟩ ⟨bz⟩] 1)):zI Pg 43 [.slice l l_l l_c,.func (.func right) ⟨[]⟩ ⟨bz⟩] σ Q :=
 zF [.g,.g,.g,.g,.c (.bool false) (σ.row [.func (.func right) ⟨[]⟩ ⟨bz⟩] 1),.g,.g] (kd (ai h1 nx))
theorem xFP (h1:zD Pg 79 [.slice s s_l s_c,.func (.func f) ⟨[]⟩ ⟨f_c⟩] σ (iV n1) σ) (nx:Q (.bool true) σ) (u1:0≤n1:=by omega):zI Pg 61 [.slice s s_l s_c,.func (.func f) ⟨[]⟩ ⟨f_c⟩] σ Q :=
 zF [.g,.g,.g,.c (iV n1) σ,.b true,.g] (kd (an2 h1 (zX u1) nx))
theorem xFO (h1:zD Pg 79 [.slice s s_l s_c,.func (.func f) ⟨[]⟩ ⟨f_c⟩] σ (iV n1) σ) (nx:Q (.bool false) σ) (u1:¬ 0≤n1:=by omega):zI Pg 61 [.slice s s_l s_c,.func (.func f) ⟨[]⟩ ⟨f_c⟩] σ Q :=
 zF [.g,.g,.g,.c (iV n1) σ,.b false,.g] (kd (an2 h1 (yB u1) nx))
theorem xCQ (h1:zB Pg σ 85 v0=some (.func (.func f1) ⟨[]⟩ ⟨eA⟩)) (h2:zD Pg f1 (iV x::eA) σ (.bool true) σ) (nx:Q (.bool false) σ):zI Pg 62 [iV x,.pointer (some v0)] σ Q :=
 zF [.g,.l (.func (.func f1) ⟨[]⟩ ⟨eA⟩),.g,.c (.bool true) σ,.g,.g] (kd (an2 h1 h2 nx))
theorem xCP (h1:zB Pg σ 85 v0=some (.func (.func f1) ⟨[]⟩ ⟨eA⟩)) (h2:zD Pg f1 (iV x::eA) σ (.bool false) σ) (nx:Q (.bool true) σ):zI Pg 62 [iV x,.pointer (some v0)] σ Q :=
 zF [.g,.l (.func (.func f1) ⟨[]⟩ ⟨eA⟩),.g,.c (.bool false) σ,.g,.g] (kd (an2 h1 h2 nx))
noncomputable def yQT:Code:=(Code.part [1,0,1,0,0] (zO Pg 79))
def zMC (s:Option Addr) (s_l s_c:Nat) (f:FuncId) (f_c:List Value) (aI:Int):List (Nat × Value):=[(0,.slice s s_l s_c),(1,.func (.func f) ⟨[]⟩ ⟨f_c⟩),(7,iV ((s_l:Nat):Int)),(8,iV aI)]
def xBD (s:Option Addr) (s_l s_c:Nat) (f:FuncId) (f_c:List Value) (Q:Int→St→Prop):Alt:=⟨Int,.normal,fun t=>zMC s s_l s_c f f_c t,fun t=>[],fun t σ=>Q t σ⟩
def zYM (s:Option Addr) (s_l s_c:Nat) (f:FuncId) (f_c:List Value) (cx:Int):List (Nat × Value):=[(4,iV cx)]
def zNR (s:Option Addr) (s_l s_c:Nat) (f:FuncId) (f_c:List Value) (Q:Int→St→Prop):Alt:=⟨Int,.ret,fun t=>zYM s s_l s_c f f_c t,fun t=>[],fun t σ=>Q t σ⟩
def zYN (s:Option Addr) (s_l s_c:Nat) (f:FuncId) (f_c:List Value):List (Nat × Value):=[]
def zNS (s:Option Addr) (s_l s_c:Nat) (f:FuncId) (f_c:List Value) (Q:St→Prop):Alt:=⟨Unit,(.exit 0),fun t=>zYN s s_l s_c f f_c,fun t=>[],fun t σ=>Q σ⟩
def zRB (s:Option Addr) (s_l s_c:Nat) (f:FuncId) (f_c:List Value) (aI:Int) (σ:St) (Nx:Int→St→Prop) (Qr:Int→St→Prop) (Q0:St→Prop):Prop:=yJ Pg (zS Pg) none yQT 19 (zMC s s_l s_c f f_c aI) [] [xBD s s_l s_c f f_c Nx,zNR s s_l s_c f f_c Qr,zNS s s_l s_c f f_c Q0] σ
def yQU (s:Option Addr) (s_l s_c:Nat) (f:FuncId) (f_c:List Value) (aI:Int) (σ:St) (Qr:Int→St→Prop) (Q0:St→Prop):Prop:=yR Pg (zS Pg) none yQT 19 (zMC s s_l s_c f f_c aI) [] [zNR s s_l s_c f f_c Qr,zNS s s_l s_c f f_c Q0] σ
theorem yMT (hb:∀ k aI σ,Inv k aI σ→zRB s s_l s_c f f_c aI σ (NX1 Inv k) Qr Q0):∀ k aI σ,Inv k aI σ→yQU s s_l s_c f f_c aI σ Qr Q0 :=
 yV (ai zAQ (ai (wA 0) trivial)) hb
theorem xBC (h1:zB Pg σ 3 (zH s_a (Int.toNat aI*1))=some (iV nI)) (h2:zD Pg f (iV nI::f_c) σ (.bool true) σ) (nx:Qr aI σ) (u1:aI<((s_l:Nat):Int):=by omega) (u2:Ix aI s_l:=by omega):zRB (some s_a) s_l s_c f f_c aI σ Nx Qr Q0 :=
 kO 1 aI [.b true,.g,.g,.g,.g,.g,.i,.l (iV nI),.c (.bool true) σ,.g,.g] (fun _ f=>(an4 (zJ u1) u2 h1 h2 f)) nx
theorem xBB (h1:zB Pg σ 3 (zH s_a (Int.toNat aI*1))=some (iV nI)) (h2:zD Pg f (iV nI::f_c) σ (.bool false) σ) (nx:Nx (aI+1) σ) (u1:aI<((s_l:Nat):Int):=by omega) (u2:Ix aI s_l:=by omega) (u3:I6 (aI+1):=by omega):zRB (some s_a) s_l s_c f f_c aI σ Nx Qr Q0 :=
 kO 0 (aI+1) [.b true,.g,.g,.g,.g,.g,.i,.l (iV nI),.c (.bool false) σ,.n (aI+1),.g] (fun _ f=>(an5 (zJ u1) u2 h1 h2 (w64 u3) f)) nx
theorem xBA (nx:Q0 σ) (u1:¬ aI<((s_l:Nat):Int):=by omega):zRB s s_l s_c f f_c aI σ Nx Qr Q0 :=
 kO 2 () [.b false] (fun _ f=>(ai (zM u1) f)) nx
def zYO (s:Option Addr) (s_l s_c:Nat) (f:FuncId) (f_c:List Value) (cx:Int) (σ:St) (Q:Value→St→Prop):Prop:=∀ g:Nat→Value,∃ an,Hid (kAt Pg (zS Pg) none (zO Pg 79) [1,0,1,0] (kFn Pg 79 Q) .ret ⟨Fm 19 (ov (zYM s s_l s_c f f_c cx) g),[]⟩ σ an)
def zYP (s:Option Addr) (s_l s_c:Nat) (f:FuncId) (f_c:List Value) (σ:St) (Q:Value→St→Prop):Prop:=∀ g:Nat→Value,∃ an,Hid (kAt Pg (zS Pg) none (zO Pg 79) [1,0,1,0] (kFn Pg 79 Q) (.exit 0) ⟨Fm 19 (ov (zYN s s_l s_c f f_c) g),[]⟩ σ an)
theorem xFC (hL:yQU s s_l s_c f f_c 0 σ Pr P0) (kr:∀ i4_1' σ',Pr i4_1' σ'→zYO s s_l s_c f f_c i4_1' σ' Q) (k0:∀ σ',P0 σ'→zYP s s_l s_c f f_c σ' Q):zI Pg 79 [.slice s s_l s_c,.func (.func f) ⟨[]⟩ ⟨f_c⟩] σ Q :=
 zF [.g,.g,.g,.g,.lf 19 (zMC s s_l s_c f f_c 0) [zNR s s_l s_c f f_c Pr,zNS s s_l s_c f f_c P0]] (kd (ai (ai tt (ai (arf (zMC s s_l s_c f f_c 0)) hL)) (ai (kz1 kr) (ai (kz0 k0) trivial))))
theorem yMR (nx:Q (iV cx) σ):zYO s s_l s_c f f_c cx σ Q :=
 sK [] nx
theorem yMS (nx:Q (iV (-1)) σ):zYP s s_l s_c f f_c σ Q :=
 sK [.g] nx
theorem yJU (h1:zB Pg σ 41 (zH v0 2)=some (.slice q1 l1 c1)) (h2:zD Pg 30 [iV n,iV (-1),iV (((l1:Nat):Int)-1)] σ (.bool b2) σ) (nx:Q (.bool b2) σ) (u1:I6 (((l1:Nat):Int)-1):=by omega):zI Pg 44 [iV n,.pointer (some v0)] σ Q :=
 zF [.g,.g,.g,.l (.slice q1 l1 c1),.g,.n (((l1:Nat):Int)-1),.c (.bool b2) σ,.g] (kd (an3 h1 (w64 u1) h2 nx))
theorem yJB (h1:zD Pg 43 [.slice l l_l l_c,.func (.func 44) ⟨[]⟩ ⟨[.pointer (some ⟨σ.y,0,none⟩)]⟩] (σ.row (wkc ak ah ac ad ag aa ab ar au am) 6) (.bool b1) (σ.row (wkc ak ah ac ad ag aa ab ar au am) 6)) (nx:Q (.bool b1) (σ.row (wkc ak ah ac ad ag aa ab ar au am) 6)) (u1:((l_l:Nat):Int)=((ac:Nat):Int):=by omega):zI Pg 26 [.agg ⟨wkc ak ah ac ad ag aa ab ar au am⟩,.slice l l_l l_c] σ Q :=
 let s1:=σ.row (wkc ak ah ac ad ag aa ab ar au am) 6;zF [.g,.g,.g,.g,.g,.l (.slice ah ac ad),.g,.b true,.g,.g,.g,.c (.bool b1) s1,.g,.g] (kd (an3 ((zC _ _ _).rw.ld uB (k:=1) rfl:zB Pg s1 40 ⟨σ.y,1,none⟩=some (.slice ah ac ad)) (wJ u1) h1 nx))
theorem yJA (nx:Q (.bool false) (σ.row (wkc ak ah ac ad ag aa ab ar au am) 6)) (u1:¬ ((l_l:Nat):Int)=((ac:Nat):Int):=by omega):zI Pg 26 [.agg ⟨wkc ak ah ac ad ag aa ab ar au am⟩,.slice l l_l l_c] σ Q :=
 zF [.g,.g,.g,.g,.g,.l (.slice ah ac ad),.g,.b false,.g,.g,.g] (kd (an2 ((zC _ _ _).rw.ld uB (k:=1) rfl:zB Pg (σ.row (wkc ak ah ac ad ag aa ab ar au am) 6) 40 ⟨σ.y,1,none⟩=some (.slice ah ac ad)) (xB u1) nx))
theorem yRP (nx:Q (.bool false) (σ.row (wkc ak ah ac ad ag aa ab ar au am) 6)) (u1:¬ ((l_l:Nat):Int)=((ac:Nat):Int):=by omega):zI Pg 27 [.agg ⟨wkc ak ah ac ad ag aa ab ar au am⟩,.slice l l_l l_c] σ Q :=
 zF [.g,.g,.g,.g,.g,.l (.slice ah ac ad),.g,.b true,.g] (kd (an2 ((zC _ _ _).rw.ld uB (k:=1) rfl:zB Pg (σ.row (wkc ak ah ac ad ag aa ab ar au am) 6) 40 ⟨σ.y,1,none⟩=some (.slice ah ac ad)) (zEE u1) nx))
noncomputable def zWL:Code:=(Code.part [1,1,0,1,0,0] (zO Pg 27))
def zCO (BA:Nat) (l:Option Addr) (l_l l_c:Nat) (dl:Int):List (Nat × Value):=[(2,.pointer (some ⟨BA,0,none⟩)),(14,.slice l l_l l_c),(15,iV ((l_l:Nat):Int)),(16,iV dl)]
def yIY (BA:Nat) (l:Option Addr) (l_l l_c:Nat) (Q:Int→St→Prop):Alt:=⟨Int,.normal,fun t=>zCO BA l l_l l_c t,fun t=>[],fun t σ=>Q t σ⟩
def zOR (BA:Nat) (l:Option Addr) (l_l l_c:Nat) (t4_1:Bool):List (Nat × Value):=[(4,.bool t4_1)]
def zFG (BA:Nat) (l:Option Addr) (l_l l_c:Nat) (Q:Bool→St→Prop):Alt:=⟨Bool,.ret,fun t=>zOR BA l l_l l_c t,fun t=>[],fun t σ=>Q t σ⟩
def zOS (BA:Nat) (l:Option Addr) (l_l l_c:Nat):List (Nat × Value):=[]
def zFH (BA:Nat) (l:Option Addr) (l_l l_c:Nat) (Q:St→Prop):Alt:=⟨Unit,(.exit 0),fun t=>zOS BA l l_l l_c,fun t=>[],fun t σ=>Q σ⟩
def zHS (BA:Nat) (l:Option Addr) (l_l l_c:Nat) (dl:Int) (σ:St) (Nx:Int→St→Prop) (Qr:Bool→St→Prop) (Q0:St→Prop):Prop:=yJ Pg (zS Pg) none zWL 35 (zCO BA l l_l l_c dl) [] [yIY BA l l_l l_c Nx,zFG BA l l_l l_c Qr,zFH BA l l_l l_c Q0] σ
def zWM (BA:Nat) (l:Option Addr) (l_l l_c:Nat) (dl:Int) (σ:St) (Qr:Bool→St→Prop) (Q0:St→Prop):Prop:=yR Pg (zS Pg) none zWL 35 (zCO BA l l_l l_c dl) [] [zFG BA l l_l l_c Qr,zFH BA l l_l l_c Q0] σ
theorem yAC {Qr:Bool→St→Prop} (hb:∀ k dl σ,Inv k dl σ→zHS BA l l_l l_c dl σ (NX1 Inv k) Qr Q0):∀ k dl σ,Inv k dl σ→zWM BA l l_l l_c dl σ Qr Q0 :=
 yV (ai zAQ (ai (wA 0) trivial)) hb
theorem yIX {Qr:Bool→St→Prop} (h1:zB Pg σ 3 (zH l_a (Int.toNat dl*1))=some (iV nI)) (h2:zB Pg σ 40 ⟨BA,1,none⟩=some (.slice (some qF_a) lI cI)) (h3:zB Pg σ 67 (zH qF_a ((Int.toNat dl*5)+2))=some (.agg ⟨[iV nA,iV nB]⟩)) (h4:zD Pg 30 [iV nI,iV nA,iV nB] ((σ.row [iV 0,iV 0] 2).own σ.y [iV nA,iV nB] 2) (.bool true) ((σ.row [iV 0,iV 0] 2).own σ.y [iV nA,iV nB] 2)) (nx:Nx (dl+1) ((σ.row [iV 0,iV 0] 2).own σ.y [iV nA,iV nB] 2)) (u1:dl<((l_l:Nat):Int):=by omega) (u2:Ix dl l_l:=by omega) (u3:Ix dl lI:=by omega) (u4:I6 (dl+1):=by omega):zHS BA (some l_a) l_l l_c dl σ Nx Qr Q0 :=
 let s1:=σ.row [iV 0,iV 0] 2;let s2:=s1.own σ.y [iV nA,iV nB] 2;kO 0 (dl+1) [.b true,.g,.i,.l (iV nI),.g,.g,.g,.l (.slice (some qF_a) lI cI),.g,.i,.g,.l (.agg ⟨[iV nA,iV nB]⟩),.g,.e undef s2,.g,.g,.l (iV nA),.g,.l (iV nB),.c (.bool true) s2,.g,.n (dl+1),.g] (fun _ f=>(an5 (zJ u1) u2 h1 h2 u3 (an6 h3 ((zC _ _ _).store (vs:=[iV nA,iV nB]) rfl yJO rfl (nle rfl) rfl:zL Pg (evL [.pointer (some ⟨σ.y,0,none⟩),.agg ⟨[iV nA,iV nB]⟩]) s1 (.store 67 (.tmp 0) (.tmp 1))=some (undef,s2)) ((zC _ _ _).put.rw.ld zK (k:=0) rfl:zB Pg s2 3 ⟨σ.y,0,none⟩=some (iV nA)) ((zC _ _ _).put.rw.ld zK (k:=1) rfl:zB Pg s2 3 ⟨σ.y,1,none⟩=some (iV nB)) h4 (w64 u4) f))) nx
theorem yIW {Qr:Bool→St→Prop} (h1:zB Pg σ 3 (zH l_a (Int.toNat dl*1))=some (iV nI)) (h2:zB Pg σ 40 ⟨BA,1,none⟩=some (.slice (some qF_a) lI cI)) (h3:zB Pg σ 67 (zH qF_a ((Int.toNat dl*5)+2))=some (.agg ⟨[iV nA,iV nB]⟩)) (h4:zD Pg 30 [iV nI,iV nA,iV nB] ((σ.row [iV 0,iV 0] 2).own σ.y [iV nA,iV nB] 2) (.bool false) ((σ.row [iV 0,iV 0] 2).own σ.y [iV nA,iV nB] 2)) (nx:Qr false ((σ.row [iV 0,iV 0] 2).own σ.y [iV nA,iV nB] 2)) (u1:dl<((l_l:Nat):Int):=by omega) (u2:Ix dl l_l:=by omega) (u3:Ix dl lI:=by omega):zHS BA (some l_a) l_l l_c dl σ Nx Qr Q0 :=
 let s1:=σ.row [iV 0,iV 0] 2;let s2:=s1.own σ.y [iV nA,iV nB] 2;kO 1 false [.b true,.g,.i,.l (iV nI),.g,.g,.g,.l (.slice (some qF_a) lI cI),.g,.i,.g,.l (.agg ⟨[iV nA,iV nB]⟩),.g,.e undef s2,.g,.g,.l (iV nA),.g,.l (iV nB),.c (.bool false) s2,.g,.g] (fun _ f=>(an4 (zJ u1) u2 h1 h2 (an6 u3 h3 ((zC _ _ _).store (vs:=[iV nA,iV nB]) rfl yJO rfl (nle rfl) rfl:zL Pg (evL [.pointer (some ⟨σ.y,0,none⟩),.agg ⟨[iV nA,iV nB]⟩]) s1 (.store 67 (.tmp 0) (.tmp 1))=some (undef,s2)) ((zC _ _ _).put.rw.ld zK (k:=0) rfl:zB Pg s2 3 ⟨σ.y,0,none⟩=some (iV nA)) ((zC _ _ _).put.rw.ld zK (k:=1) rfl:zB Pg s2 3 ⟨σ.y,1,none⟩=some (iV nB)) h4 f))) nx
theorem yIV {Qr:Bool→St→Prop} (nx:Q0 σ) (u1:¬ dl<((l_l:Nat):Int):=by omega):zHS BA l l_l l_c dl σ Nx Qr Q0 :=
 kO 2 () [.b false] (fun _ f=>(ai (zM u1) f)) nx
def zOT (BA:Nat) (l:Option Addr) (l_l l_c:Nat) (t4_1:Bool) (σ:St) (Q:Value→St→Prop):Prop:=∀ g:Nat→Value,∃ an,Hid (kAt Pg (zS Pg) none (zO Pg 27) [1,1,0,1,0] (kFn Pg 27 Q) .ret ⟨Fm 35 (ov (zOR BA l l_l l_c t4_1) g),[]⟩ σ an)
def zOU (BA:Nat) (l:Option Addr) (l_l l_c:Nat) (σ:St) (Q:Value→St→Prop):Prop:=∀ g:Nat→Value,∃ an,Hid (kAt Pg (zS Pg) none (zO Pg 27) [1,1,0,1,0] (kFn Pg 27 Q) (.exit 0) ⟨Fm 35 (ov (zOS BA l l_l l_c) g),[]⟩ σ an)
theorem yRO {Pr:Bool→St→Prop} (hL:zWM σ.y l l_l l_c 0 (σ.row (wkc ak ah ac ad ag aa ab ar au am) 6) Pr P0) (kr:∀ t4_1' σ',Pr t4_1' σ'→zOT σ.y l l_l l_c t4_1' σ' Q) (k0:∀ σ',P0 σ'→zOU σ.y l l_l l_c σ' Q) (u1:((l_l:Nat):Int)=((ac:Nat):Int):=by omega):zI Pg 27 [.agg ⟨wkc ak ah ac ad ag aa ab ar au am⟩,.slice l l_l l_c] σ Q :=
 zF [.g,.g,.g,.g,.g,.l (.slice ah ac ad),.g,.b false,.g,.g,.g,.lf 35 (zCO σ.y l l_l l_c 0) [zFG σ.y l l_l l_c Pr,zFH σ.y l l_l l_c P0]] (kd (an2 ((zC _ _ _).rw.ld uB (k:=1) rfl:zB Pg (σ.row (wkc ak ah ac ad ag aa ab ar au am) 6) 40 ⟨σ.y,1,none⟩=some (.slice ah ac ad)) (uF u1) (ai (ai tt (ai (arf (zCO σ.y l l_l l_c 0)) hL)) (ai (kz1 kr) (ai (kz0 k0) trivial)))))
theorem yAA (nx:Q (.bool t4_1) σ):zOT BA l l_l l_c t4_1 σ Q :=
 sK [] nx
theorem yAB (nx:Q (.bool true) σ):zOU BA l l_l l_c σ Q :=
 sK [.g] nx
noncomputable def yGP:Code:=(Code.part [1,0,1,0,0] (zO Pg 55))
def zGS (s:Option Addr) (s_l s_c:Nat) (v aI:Int):List (Nat × Value):=[(0,.slice s s_l s_c),(1,iV v),(7,iV ((s_l:Nat):Int)),(8,iV aI)]
def yVE (s:Option Addr) (s_l s_c:Nat) (v:Int) (Q:Int→St→Prop):Alt:=⟨Int,.normal,fun t=>zGS s s_l s_c v t,fun t=>[],fun t σ=>Q t σ⟩
def zUA (s:Option Addr) (s_l s_c:Nat) (v cx:Int):List (Nat × Value):=[(4,iV cx)]
def zKL (s:Option Addr) (s_l s_c:Nat) (v:Int) (Q:Int→St→Prop):Alt:=⟨Int,.ret,fun t=>zUA s s_l s_c v t,fun t=>[],fun t σ=>Q t σ⟩
def zUB (s:Option Addr) (s_l s_c:Nat) (v:Int):List (Nat × Value):=[]
def zKM (s:Option Addr) (s_l s_c:Nat) (v:Int) (Q:St→Prop):Alt:=⟨Unit,(.exit 0),fun t=>zUB s s_l s_c v,fun t=>[],fun t σ=>Q σ⟩
def zMA (s:Option Addr) (s_l s_c:Nat) (v aI:Int) (σ:St) (Nx:Int→St→Prop) (Qr:Int→St→Prop) (Q0:St→Prop):Prop:=yJ Pg (zS Pg) none yGP 19 (zGS s s_l s_c v aI) [] [yVE s s_l s_c v Nx,zKL s s_l s_c v Qr,zKM s s_l s_c v Q0] σ
def yGQ (s:Option Addr) (s_l s_c:Nat) (v aI:Int) (σ:St) (Qr:Int→St→Prop) (Q0:St→Prop):Prop:=yR Pg (zS Pg) none yGP 19 (zGS s s_l s_c v aI) [] [zKL s s_l s_c v Qr,zKM s s_l s_c v Q0] σ
theorem yGO (hb:∀ k aI σ,Inv k aI σ→zMA s s_l s_c v aI σ (NX1 Inv k) Qr Q0):∀ k aI σ,Inv k aI σ→yGQ s s_l s_c v aI σ Qr Q0 :=
 yV (ai zAQ (ai (wA 0) trivial)) hb
theorem yVD (h1:zB Pg σ 3 (zH s_a (Int.toNat aI*1))=some (iV nI)) (nx:Qr aI σ) (u1:aI<((s_l:Nat):Int):=by omega) (u2:Ix aI s_l:=by omega) (u3:v=nI:=by omega):zMA (some s_a) s_l s_c v aI σ Nx Qr Q0 :=
 kO 1 aI [.b true,.g,.g,.g,.g,.g,.i,.l (iV nI),.b true,.g,.g] (fun _ f=>(an4 (zJ u1) u2 h1 (wJ u3) f)) nx
theorem yVC (h1:zB Pg σ 3 (zH s_a (Int.toNat aI*1))=some (iV nI)) (nx:Nx (aI+1) σ) (u1:aI<((s_l:Nat):Int):=by omega) (u2:Ix aI s_l:=by omega) (u3:¬ v=nI:=by omega) (u4:I6 (aI+1):=by omega):zMA (some s_a) s_l s_c v aI σ Nx Qr Q0 :=
 kO 0 (aI+1) [.b true,.g,.g,.g,.g,.g,.i,.l (iV nI),.b false,.n (aI+1),.g] (fun _ f=>(an5 (zJ u1) u2 h1 (xB u3) (w64 u4) f)) nx
theorem yVB (nx:Q0 σ) (u1:¬ aI<((s_l:Nat):Int):=by omega):zMA s s_l s_c v aI σ Nx Qr Q0 :=
 kO 2 () [.b false] (fun _ f=>(ai (zM u1) f)) nx
def zUC (s:Option Addr) (s_l s_c:Nat) (v cx:Int) (σ:St) (Q:Value→St→Prop):Prop:=∀ g:Nat→Value,∃ an,Hid (kAt Pg (zS Pg) none (zO Pg 55) [1,0,1,0] (kFn Pg 55 Q) .ret ⟨Fm 19 (ov (zUA s s_l s_c v cx) g),[]⟩ σ an)
def zUD (s:Option Addr) (s_l s_c:Nat) (v:Int) (σ:St) (Q:Value→St→Prop):Prop:=∀ g:Nat→Value,∃ an,Hid (kAt Pg (zS Pg) none (zO Pg 55) [1,0,1,0] (kFn Pg 55 Q) (.exit 0) ⟨Fm 19 (ov (zUB s s_l s_c v) g),[]⟩ σ an)
theorem xAV (hL:yGQ s s_l s_c v 0 σ Pr P0) (kr:∀ i4_1' σ',Pr i4_1' σ'→zUC s s_l s_c v i4_1' σ' Q) (k0:∀ σ',P0 σ'→zUD s s_l s_c v σ' Q):zI Pg 55 [.slice s s_l s_c,iV v] σ Q :=
 zF [.g,.g,.g,.g,.lf 19 (zGS s s_l s_c v 0) [zKL s s_l s_c v Pr,zKM s s_l s_c v P0]] (kd (ai (ai tt (ai (arf (zGS s s_l s_c v 0)) hL)) (ai (kz1 kr) (ai (kz0 k0) trivial))))
theorem yGM (nx:Q (iV cx) σ):zUC s s_l s_c v cx σ Q :=
 sK [] nx
theorem yGN (nx:Q (iV (-1)) σ):zUD s s_l s_c v σ Q :=
 sK [.g] nx
theorem xFR (h1:zD Pg 55 [.slice s s_l s_c,iV v] σ (iV n1) σ) (nx:Q (.bool true) σ) (u1:0≤n1:=by omega):zI Pg 37 [.slice s s_l s_c,iV v] σ Q :=
 zF [.g,.g,.g,.c (iV n1) σ,.b true,.g] (kd (an2 h1 (zX u1) nx))
theorem xFQ (h1:zD Pg 55 [.slice s s_l s_c,iV v] σ (iV n1) σ) (nx:Q (.bool false) σ) (u1:¬ 0≤n1:=by omega):zI Pg 37 [.slice s s_l s_c,iV v] σ Q :=
 zF [.g,.g,.g,.c (iV n1) σ,.b false,.g] (kd (an2 h1 (yB u1) nx))
end
section
variable {ak ar au am n1:Int} {ah ag roster eC q4:Option Addr} {ac ad aa ab dL dM dW dX l4 c4:Nat} {σ σ5:St} {Q:Value→St→Prop}
theorem yDF (nx:Q (iV 3) (σ.row (wkc ak ah ac ad ag aa ab ar au am) 6)) (u1:12<((ac:Nat):Int):=by omega):zI Pg 22 [.agg ⟨wkc ak ah ac ad ag aa ab ar au am⟩] σ Q :=
 zF [.g,.g,.g,.l (.slice ah ac ad),.g,.b true,.g,.g,.g,.g] (kd (an2 ((zC _ _ _).rw.ld uB (k:=1) rfl:zB Pg (σ.row (wkc ak ah ac ad ag aa ab ar au am) 6) 40 ⟨σ.y,1,none⟩=some (.slice ah ac ad)) (zJ u1) nx))
theorem yDE (nx:Q (iV 3) (σ.row (wkc ak ah ac ad ag aa ab ar au am) 6)) (u1:¬ 12<((ac:Nat):Int):=by omega) (u2:6<((aa:Nat):Int):=by omega):zI Pg 22 [.agg ⟨wkc ak ah ac ad ag aa ab ar au am⟩] σ Q :=
 let s1:=σ.row (wkc ak ah ac ad ag aa ab ar au am) 6;zF [.g,.g,.g,.l (.slice ah ac ad),.g,.b false,.g,.g,.l (.slice ag aa ab),.g,.b true,.g,.g,.g] (kd (an4 ((zC _ _ _).rw.ld uB (k:=1) rfl:zB Pg s1 40 ⟨σ.y,1,none⟩=some (.slice ah ac ad)) (zM u1) ((zC _ _ _).rw.ld zAY (k:=2) rfl:zB Pg s1 41 ⟨σ.y,2,none⟩=some (.slice ag aa ab)) (zJ u2) nx))
theorem yDD (h1:zD Pg 30 [iV ak,iV 1,iV 7] (σ.row (wkc ak ah ac ad ag aa ab ar au am) 6) (.bool true) (σ.row (wkc ak ah ac ad ag aa ab ar au am) 6)) (h2:zD Pg 30 [iV ar,iV 0,iV 3000] (σ.row (wkc ak ah ac ad ag aa ab ar au am) 6) (.bool true) (σ.row (wkc ak ah ac ad ag aa ab ar au am) 6)) (h3:zD Pg 30 [iV au,iV 1,iV 14] (σ.row (wkc ak ah ac ad ag aa ab ar au am) 6) (.bool true) (σ.row (wkc ak ah ac ad ag aa ab ar au am) 6)) (h4:zD Pg 30 [iV am,iV 0,iV 20000] (σ.row (wkc ak ah ac ad ag aa ab ar au am) 6) (.bool true) (σ.row (wkc ak ah ac ad ag aa ab ar au am) 6)) (h5:zD Pg 38 [.slice ah ac ad,.func (.func 39) ⟨[.agg ⟨wkc ak ah ac ad ag aa ab ar au am⟩]⟩ ⟨[]⟩] (σ.row (wkc ak ah ac ad ag aa ab ar au am) 6) (.bool true) (σ.row (wkc ak ah ac ad ag aa ab ar au am) 6)) (h6:zD Pg 40 [.slice ag aa ab,.func (.func 41) ⟨[.agg ⟨wkc ak ah ac ad ag aa ab ar au am⟩]⟩ ⟨[]⟩] (σ.row (wkc ak ah ac ad ag aa ab ar au am) 6) (.bool true) (σ.row (wkc ak ah ac ad ag aa ab ar au am) 6)) (nx:Q (iV 0) (σ.row (wkc ak ah ac ad ag aa ab ar au am) 6)) (u1:¬ 12<((ac:Nat):Int):=by omega) (u2:¬ 6<((aa:Nat):Int):=by omega):zI Pg 22 [.agg ⟨wkc ak ah ac ad ag aa ab ar au am⟩] σ Q :=
 let s1:=σ.row (wkc ak ah ac ad ag aa ab ar au am) 6;zF [.g,.g,.g,.l (.slice ah ac ad),.g,.b false,.g,.g,.l (.slice ag aa ab),.g,.b false,.g,.g,.g,.l (iV ak),.c (.bool true) s1,.g,.g,.g,.l (iV ar),.c (.bool true) s1,.g,.g,.g,.g,.l (iV au),.c (.bool true) s1,.g,.g,.g,.g,.l (iV am),.c (.bool true) s1,.g,.g,.g,.g,.l (.slice ah ac ad),.l (.agg ⟨wkc ak ah ac ad ag aa ab ar au am⟩),.g,.c (.bool true) s1,.g,.g,.g,.l (.slice ag aa ab),.l (.agg ⟨wkc ak ah ac ad ag aa ab ar au am⟩),.g,.c (.bool true) s1,.g,.g,.g,.g] (kd (an6 ((zC _ _ _).rw.ld uB (k:=1) rfl:zB Pg s1 40 ⟨σ.y,1,none⟩=some (.slice ah ac ad)) (zM u1) ((zC _ _ _).rw.ld zAY (k:=2) rfl:zB Pg s1 41 ⟨σ.y,2,none⟩=some (.slice ag aa ab)) (zM u2) ((zC _ _ _).rw.ld zK (k:=0) rfl:zB Pg s1 3 ⟨σ.y,0,none⟩=some (iV ak)) h1 (an6 ((zC _ _ _).rw.ld zK (k:=3) rfl:zB Pg s1 3 ⟨σ.y,3,none⟩=some (iV ar)) h2 ((zC _ _ _).rw.ld zK (k:=4) rfl:zB Pg s1 3 ⟨σ.y,4,none⟩=some (iV au)) h3 ((zC _ _ _).rw.ld zK (k:=5) rfl:zB Pg s1 3 ⟨σ.y,5,none⟩=some (iV am)) h4 (an6 ((zC _ _ _).rw.ld uB (k:=1) rfl:zB Pg s1 40 ⟨σ.y,1,none⟩=some (.slice ah ac ad)) ((zC _ _ _).rw.ldN zCH vO (k:=0) rfl rfl (nle rfl):zB Pg s1 43 ⟨σ.y,0,none⟩=some (.agg ⟨wkc ak ah ac ad ag aa ab ar au am⟩)) h5 ((zC _ _ _).rw.ld zAY (k:=2) rfl:zB Pg s1 41 ⟨σ.y,2,none⟩=some (.slice ag aa ab)) ((zC _ _ _).rw.ldN zCH vO (k:=0) rfl rfl (nle rfl):zB Pg s1 43 ⟨σ.y,0,none⟩=some (.agg ⟨wkc ak ah ac ad ag aa ab ar au am⟩)) h6 nx))))
theorem yDC (h1:zD Pg 30 [iV ak,iV 1,iV 7] (σ.row (wkc ak ah ac ad ag aa ab ar au am) 6) (.bool true) (σ.row (wkc ak ah ac ad ag aa ab ar au am) 6)) (h2:zD Pg 30 [iV ar,iV 0,iV 3000] (σ.row (wkc ak ah ac ad ag aa ab ar au am) 6) (.bool true) (σ.row (wkc ak ah ac ad ag aa ab ar au am) 6)) (h3:zD Pg 30 [iV au,iV 1,iV 14] (σ.row (wkc ak ah ac ad ag aa ab ar au am) 6) (.bool true) (σ.row (wkc ak ah ac ad ag aa ab ar au am) 6)) (h4:zD Pg 30 [iV am,iV 0,iV 20000] (σ.row (wkc ak ah ac ad ag aa ab ar au am) 6) (.bool true) (σ.row (wkc ak ah ac ad ag aa ab ar au am) 6)) (h5:zD Pg 38 [.slice ah ac ad,.func (.func 39) ⟨[.agg ⟨wkc ak ah ac ad ag aa ab ar au am⟩]⟩ ⟨[]⟩] (σ.row (wkc ak ah ac ad ag aa ab ar au am) 6) (.bool true) (σ.row (wkc ak ah ac ad ag aa ab ar au am) 6)) (h6:zD Pg 40 [.slice ag aa ab,.func (.func 41) ⟨[.agg ⟨wkc ak ah ac ad ag aa ab ar au am⟩]⟩ ⟨[]⟩] (σ.row (wkc ak ah ac ad ag aa ab ar au am) 6) (.bool false) (σ.row (wkc ak ah ac ad ag aa ab ar au am) 6)) (nx:Q (iV 1) (σ.row (wkc ak ah ac ad ag aa ab ar au am) 6)) (u1:¬ 12<((ac:Nat):Int):=by omega) (u2:¬ 6<((aa:Nat):Int):=by omega):zI Pg 22 [.agg ⟨wkc ak ah ac ad ag aa ab ar au am⟩] σ Q :=
 let s1:=σ.row (wkc ak ah ac ad ag aa ab ar au am) 6;zF [.g,.g,.g,.l (.slice ah ac ad),.g,.b false,.g,.g,.l (.slice ag aa ab),.g,.b false,.g,.g,.g,.l (iV ak),.c (.bool true) s1,.g,.g,.g,.l (iV ar),.c (.bool true) s1,.g,.g,.g,.g,.l (iV au),.c (.bool true) s1,.g,.g,.g,.g,.l (iV am),.c (.bool true) s1,.g,.g,.g,.g,.l (.slice ah ac ad),.l (.agg ⟨wkc ak ah ac ad ag aa ab ar au am⟩),.g,.c (.bool true) s1,.g,.g,.g,.l (.slice ag aa ab),.l (.agg ⟨wkc ak ah ac ad ag aa ab ar au am⟩),.g,.c (.bool false) s1,.g,.g,.g,.g] (kd (an6 ((zC _ _ _).rw.ld uB (k:=1) rfl:zB Pg s1 40 ⟨σ.y,1,none⟩=some (.slice ah ac ad)) (zM u1) ((zC _ _ _).rw.ld zAY (k:=2) rfl:zB Pg s1 41 ⟨σ.y,2,none⟩=some (.slice ag aa ab)) (zM u2) ((zC _ _ _).rw.ld zK (k:=0) rfl:zB Pg s1 3 ⟨σ.y,0,none⟩=some (iV ak)) h1 (an6 ((zC _ _ _).rw.ld zK (k:=3) rfl:zB Pg s1 3 ⟨σ.y,3,none⟩=some (iV ar)) h2 ((zC _ _ _).rw.ld zK (k:=4) rfl:zB Pg s1 3 ⟨σ.y,4,none⟩=some (iV au)) h3 ((zC _ _ _).rw.ld zK (k:=5) rfl:zB Pg s1 3 ⟨σ.y,5,none⟩=some (iV am)) h4 (an6 ((zC _ _ _).rw.ld uB (k:=1) rfl:zB Pg s1 40 ⟨σ.y,1,none⟩=some (.slice ah ac ad)) ((zC _ _ _).rw.ldN zCH vO (k:=0) rfl rfl (nle rfl):zB Pg s1 43 ⟨σ.y,0,none⟩=some (.agg ⟨wkc ak ah ac ad ag aa ab ar au am⟩)) h5 ((zC _ _ _).rw.ld zAY (k:=2) rfl:zB Pg s1 41 ⟨σ.y,2,none⟩=some (.slice ag aa ab)) ((zC _ _ _).rw.ldN zCH vO (k:=0) rfl rfl (nle rfl):zB Pg s1 43 ⟨σ.y,0,none⟩=some (.agg ⟨wkc ak ah ac ad ag aa ab ar au am⟩)) h6 nx))))
theorem yDB (h1:zD Pg 30 [iV ak,iV 1,iV 7] (σ.row (wkc ak ah ac ad ag aa ab ar au am) 6) (.bool true) (σ.row (wkc ak ah ac ad ag aa ab ar au am) 6)) (h2:zD Pg 30 [iV ar,iV 0,iV 3000] (σ.row (wkc ak ah ac ad ag aa ab ar au am) 6) (.bool true) (σ.row (wkc ak ah ac ad ag aa ab ar au am) 6)) (h3:zD Pg 30 [iV au,iV 1,iV 14] (σ.row (wkc ak ah ac ad ag aa ab ar au am) 6) (.bool true) (σ.row (wkc ak ah ac ad ag aa ab ar au am) 6)) (h4:zD Pg 30 [iV am,iV 0,iV 20000] (σ.row (wkc ak ah ac ad ag aa ab ar au am) 6) (.bool true) (σ.row (wkc ak ah ac ad ag aa ab ar au am) 6)) (h5:zD Pg 38 [.slice ah ac ad,.func (.func 39) ⟨[.agg ⟨wkc ak ah ac ad ag aa ab ar au am⟩]⟩ ⟨[]⟩] (σ.row (wkc ak ah ac ad ag aa ab ar au am) 6) (.bool false) (σ.row (wkc ak ah ac ad ag aa ab ar au am) 6)) (nx:Q (iV 1) (σ.row (wkc ak ah ac ad ag aa ab ar au am) 6)) (u1:¬ 12<((ac:Nat):Int):=by omega) (u2:¬ 6<((aa:Nat):Int):=by omega):zI Pg 22 [.agg ⟨wkc ak ah ac ad ag aa ab ar au am⟩] σ Q :=
 let s1:=σ.row (wkc ak ah ac ad ag aa ab ar au am) 6;zF [.g,.g,.g,.l (.slice ah ac ad),.g,.b false,.g,.g,.l (.slice ag aa ab),.g,.b false,.g,.g,.g,.l (iV ak),.c (.bool true) s1,.g,.g,.g,.l (iV ar),.c (.bool true) s1,.g,.g,.g,.g,.l (iV au),.c (.bool true) s1,.g,.g,.g,.g,.l (iV am),.c (.bool true) s1,.g,.g,.g,.g,.l (.slice ah ac ad),.l (.agg ⟨wkc ak ah ac ad ag aa ab ar au am⟩),.g,.c (.bool false) s1,.g,.g,.g,.g,.g] (kd (an3 ((zC _ _ _).rw.ld uB (k:=1) rfl:zB Pg s1 40 ⟨σ.y,1,none⟩=some (.slice ah ac ad)) (zM u1) ((zC _ _ _).rw.ld zAY (k:=2) rfl:zB Pg s1 41 ⟨σ.y,2,none⟩=some (.slice ag aa ab)) (an6 (zM u2) ((zC _ _ _).rw.ld zK (k:=0) rfl:zB Pg s1 3 ⟨σ.y,0,none⟩=some (iV ak)) h1 ((zC _ _ _).rw.ld zK (k:=3) rfl:zB Pg s1 3 ⟨σ.y,3,none⟩=some (iV ar)) h2 ((zC _ _ _).rw.ld zK (k:=4) rfl:zB Pg s1 3 ⟨σ.y,4,none⟩=some (iV au)) (an6 h3 ((zC _ _ _).rw.ld zK (k:=5) rfl:zB Pg s1 3 ⟨σ.y,5,none⟩=some (iV am)) h4 ((zC _ _ _).rw.ld uB (k:=1) rfl:zB Pg s1 40 ⟨σ.y,1,none⟩=some (.slice ah ac ad)) ((zC _ _ _).rw.ldN zCH vO (k:=0) rfl rfl (nle rfl):zB Pg s1 43 ⟨σ.y,0,none⟩=some (.agg ⟨wkc ak ah ac ad ag aa ab ar au am⟩)) h5 nx))))
theorem yDA (h1:zD Pg 30 [iV ak,iV 1,iV 7] (σ.row (wkc ak ah ac ad ag aa ab ar au am) 6) (.bool true) (σ.row (wkc ak ah ac ad ag aa ab ar au am) 6)) (h2:zD Pg 30 [iV ar,iV 0,iV 3000] (σ.row (wkc ak ah ac ad ag aa ab ar au am) 6) (.bool true) (σ.row (wkc ak ah ac ad ag aa ab ar au am) 6)) (h3:zD Pg 30 [iV au,iV 1,iV 14] (σ.row (wkc ak ah ac ad ag aa ab ar au am) 6) (.bool true) (σ.row (wkc ak ah ac ad ag aa ab ar au am) 6)) (h4:zD Pg 30 [iV am,iV 0,iV 20000] (σ.row (wkc ak ah ac ad ag aa ab ar au am) 6) (.bool false) (σ.row (wkc ak ah ac ad ag aa ab ar au am) 6)) (nx:Q (iV 1) (σ.row (wkc ak ah ac ad ag aa ab ar au am) 6)) (u1:¬ 12<((ac:Nat):Int):=by omega) (u2:¬ 6<((aa:Nat):Int):=by omega):zI Pg 22 [.agg ⟨wkc ak ah ac ad ag aa ab ar au am⟩] σ Q :=
 let s1:=σ.row (wkc ak ah ac ad ag aa ab ar au am) 6;zF [.g,.g,.g,.l (.slice ah ac ad),.g,.b false,.g,.g,.l (.slice ag aa ab),.g,.b false,.g,.g,.g,.l (iV ak),.c (.bool true) s1,.g,.g,.g,.l (iV ar),.c (.bool true) s1,.g,.g,.g,.g,.l (iV au),.c (.bool true) s1,.g,.g,.g,.g,.l (iV am),.c (.bool false) s1,.g,.g,.g,.g] (kd (an6 ((zC _ _ _).rw.ld uB (k:=1) rfl:zB Pg s1 40 ⟨σ.y,1,none⟩=some (.slice ah ac ad)) (zM u1) ((zC _ _ _).rw.ld zAY (k:=2) rfl:zB Pg s1 41 ⟨σ.y,2,none⟩=some (.slice ag aa ab)) (zM u2) ((zC _ _ _).rw.ld zK (k:=0) rfl:zB Pg s1 3 ⟨σ.y,0,none⟩=some (iV ak)) h1 (an6 ((zC _ _ _).rw.ld zK (k:=3) rfl:zB Pg s1 3 ⟨σ.y,3,none⟩=some (iV ar)) h2 ((zC _ _ _).rw.ld zK (k:=4) rfl:zB Pg s1 3 ⟨σ.y,4,none⟩=some (iV au)) h3 ((zC _ _ _).rw.ld zK (k:=5) rfl:zB Pg s1 3 ⟨σ.y,5,none⟩=some (iV am)) h4 nx)))
theorem yCZ (h1:zD Pg 30 [iV ak,iV 1,iV 7] (σ.row (wkc ak ah ac ad ag aa ab ar au am) 6) (.bool true) (σ.row (wkc ak ah ac ad ag aa ab ar au am) 6)) (h2:zD Pg 30 [iV ar,iV 0,iV 3000] (σ.row (wkc ak ah ac ad ag aa ab ar au am) 6) (.bool true) (σ.row (wkc ak ah ac ad ag aa ab ar au am) 6)) (h3:zD Pg 30 [iV au,iV 1,iV 14] (σ.row (wkc ak ah ac ad ag aa ab ar au am) 6) (.bool false) (σ.row (wkc ak ah ac ad ag aa ab ar au am) 6)) (nx:Q (iV 1) (σ.row (wkc ak ah ac ad ag aa ab ar au am) 6)) (u1:¬ 12<((ac:Nat):Int):=by omega) (u2:¬ 6<((aa:Nat):Int):=by omega):zI Pg 22 [.agg ⟨wkc ak ah ac ad ag aa ab ar au am⟩] σ Q :=
 let s1:=σ.row (wkc ak ah ac ad ag aa ab ar au am) 6;zF [.g,.g,.g,.l (.slice ah ac ad),.g,.b false,.g,.g,.l (.slice ag aa ab),.g,.b false,.g,.g,.g,.l (iV ak),.c (.bool true) s1,.g,.g,.g,.l (iV ar),.c (.bool true) s1,.g,.g,.g,.g,.l (iV au),.c (.bool false) s1,.g,.g,.g,.g,.g,.g] (kd (an4 ((zC _ _ _).rw.ld uB (k:=1) rfl:zB Pg s1 40 ⟨σ.y,1,none⟩=some (.slice ah ac ad)) (zM u1) ((zC _ _ _).rw.ld zAY (k:=2) rfl:zB Pg s1 41 ⟨σ.y,2,none⟩=some (.slice ag aa ab)) (zM u2) (an6 ((zC _ _ _).rw.ld zK (k:=0) rfl:zB Pg s1 3 ⟨σ.y,0,none⟩=some (iV ak)) h1 ((zC _ _ _).rw.ld zK (k:=3) rfl:zB Pg s1 3 ⟨σ.y,3,none⟩=some (iV ar)) h2 ((zC _ _ _).rw.ld zK (k:=4) rfl:zB Pg s1 3 ⟨σ.y,4,none⟩=some (iV au)) h3 nx)))
theorem yCY (h1:zD Pg 30 [iV ak,iV 1,iV 7] (σ.row (wkc ak ah ac ad ag aa ab ar au am) 6) (.bool true) (σ.row (wkc ak ah ac ad ag aa ab ar au am) 6)) (h2:zD Pg 30 [iV ar,iV 0,iV 3000] (σ.row (wkc ak ah ac ad ag aa ab ar au am) 6) (.bool false) (σ.row (wkc ak ah ac ad ag aa ab ar au am) 6)) (nx:Q (iV 1) (σ.row (wkc ak ah ac ad ag aa ab ar au am) 6)) (u1:¬ 12<((ac:Nat):Int):=by omega) (u2:¬ 6<((aa:Nat):Int):=by omega):zI Pg 22 [.agg ⟨wkc ak ah ac ad ag aa ab ar au am⟩] σ Q :=
 let s1:=σ.row (wkc ak ah ac ad ag aa ab ar au am) 6;zF [.g,.g,.g,.l (.slice ah ac ad),.g,.b false,.g,.g,.l (.slice ag aa ab),.g,.b false,.g,.g,.g,.l (iV ak),.c (.bool true) s1,.g,.g,.g,.l (iV ar),.c (.bool false) s1,.g,.g,.g,.g,.g,.g,.g,.g] (kd (an2 ((zC _ _ _).rw.ld uB (k:=1) rfl:zB Pg s1 40 ⟨σ.y,1,none⟩=some (.slice ah ac ad)) (zM u1) (an6 ((zC _ _ _).rw.ld zAY (k:=2) rfl:zB Pg s1 41 ⟨σ.y,2,none⟩=some (.slice ag aa ab)) (zM u2) ((zC _ _ _).rw.ld zK (k:=0) rfl:zB Pg s1 3 ⟨σ.y,0,none⟩=some (iV ak)) h1 ((zC _ _ _).rw.ld zK (k:=3) rfl:zB Pg s1 3 ⟨σ.y,3,none⟩=some (iV ar)) h2 nx)))
theorem yCX (h1:zD Pg 30 [iV ak,iV 1,iV 7] (σ.row (wkc ak ah ac ad ag aa ab ar au am) 6) (.bool false) (σ.row (wkc ak ah ac ad ag aa ab ar au am) 6)) (nx:Q (iV 1) (σ.row (wkc ak ah ac ad ag aa ab ar au am) 6)) (u1:¬ 12<((ac:Nat):Int):=by omega) (u2:¬ 6<((aa:Nat):Int):=by omega):zI Pg 22 [.agg ⟨wkc ak ah ac ad ag aa ab ar au am⟩] σ Q :=
 let s1:=σ.row (wkc ak ah ac ad ag aa ab ar au am) 6;zF [.g,.g,.g,.l (.slice ah ac ad),.g,.b false,.g,.g,.l (.slice ag aa ab),.g,.b false,.g,.g,.g,.l (iV ak),.c (.bool false) s1,.g,.g,.g,.g,.g,.g,.g,.g,.g] (kd (an6 ((zC _ _ _).rw.ld uB (k:=1) rfl:zB Pg s1 40 ⟨σ.y,1,none⟩=some (.slice ah ac ad)) (zM u1) ((zC _ _ _).rw.ld zAY (k:=2) rfl:zB Pg s1 41 ⟨σ.y,2,none⟩=some (.slice ag aa ab)) (zM u2) ((zC _ _ _).rw.ld zK (k:=0) rfl:zB Pg s1 3 ⟨σ.y,0,none⟩=some (iV ak)) h1 nx))
theorem yWZ (h1:zD Pg 22 [.agg ⟨wkc ak ah ac ad ag aa ab ar au am⟩] (σ.row (wkc ak ah ac ad ag aa ab ar au am) 6) (iV n1) (σ.row (wkc ak ah ac ad ag aa ab ar au am) 6)) (h2:zD Pg 26 [.agg ⟨wkc ak ah ac ad ag aa ab ar au am⟩,.slice roster dL dM] (σ.row (wkc ak ah ac ad ag aa ab ar au am) 6) (.bool true) (σ.row (wkc ak ah ac ad ag aa ab ar au am) 6)) (h3:zD Pg 27 [.agg ⟨wkc ak ah ac ad ag aa ab ar au am⟩,.slice eC dW dX] (σ.row (wkc ak ah ac ad ag aa ab ar au am) 6) (.bool true) (σ.row (wkc ak ah ac ad ag aa ab ar au am) 6)) (h4:zD Pg 28 [.agg ⟨wkc ak ah ac ad ag aa ab ar au am⟩,.slice roster dL dM,.slice eC dW dX] (σ.row (wkc ak ah ac ad ag aa ab ar au am) 6) (.slice q4 l4 c4) σ5) (nx:Q (.tuple ⟨[.slice q4 l4 c4,iV 0]⟩) σ5) (u1:n1=0:=by omega):zI Pg 11 [.agg ⟨wkc ak ah ac ad ag aa ab ar au am⟩,.slice roster dL dM,.slice eC dW dX] σ Q :=
 let s1:=σ.row (wkc ak ah ac ad ag aa ab ar au am) 6;zF [.g,.g,.g,.l (.agg ⟨wkc ak ah ac ad ag aa ab ar au am⟩),.c (iV n1) s1,.g,.g,.b false,.l (.agg ⟨wkc ak ah ac ad ag aa ab ar au am⟩),.g,.c (.bool true) s1,.g,.g,.l (.agg ⟨wkc ak ah ac ad ag aa ab ar au am⟩),.g,.c (.bool true) s1,.g,.g,.l (.agg ⟨wkc ak ah ac ad ag aa ab ar au am⟩),.g,.g,.c (.slice q4 l4 c4) σ5,.g,.g] (kd (an3 ((zC _ _ _).rw.ldN zCH vO (k:=0) rfl rfl (nle rfl):zB Pg s1 43 ⟨σ.y,0,none⟩=some (.agg ⟨wkc ak ah ac ad ag aa ab ar au am⟩)) h1 (uF u1) (an6 ((zC _ _ _).rw.ldN zCH vO (k:=0) rfl rfl (nle rfl):zB Pg s1 43 ⟨σ.y,0,none⟩=some (.agg ⟨wkc ak ah ac ad ag aa ab ar au am⟩)) h2 ((zC _ _ _).rw.ldN zCH vO (k:=0) rfl rfl (nle rfl):zB Pg s1 43 ⟨σ.y,0,none⟩=some (.agg ⟨wkc ak ah ac ad ag aa ab ar au am⟩)) h3 ((zC _ _ _).rw.ldN zCH vO (k:=0) rfl rfl (nle rfl):zB Pg s1 43 ⟨σ.y,0,none⟩=some (.agg ⟨wkc ak ah ac ad ag aa ab ar au am⟩)) h4 nx)))
end
section
variable {σ : St}
theorem xIL {p : Option Addr} {len cap : Nat} {g : FuncId} {ga : List Value} {gc : List Value} {xs : List Dty} {f : Dty → Bool} (hs : SlV Pg σ 69 5 p len (xs.map vC)) (hlen : len ≤ 1073741824)
  (hc : ∀ x ∈ xs, ∀ τ, Le σ τ → zD Pg g (ga ++ (vC x :: gc)) τ (.bool (f x)) τ) : ∃ r : Int, zD Pg 77 [.slice p len cap, .func (.func g) ⟨ga⟩ ⟨gc⟩] σ (iV r) σ ∧ (0 ≤ r ↔ xs.any f = true) := by
 have hl : xs.length = len := by have := hs.2.1; simpa using this
 have key : zI Pg 77 [.slice p len cap, .func (.func g) ⟨ga⟩ ⟨gc⟩] σ.re fun v s => (∃ r : Int, v = iV r ∧ (0 ≤ r ↔ xs.any f = true)) ∧ s = σ.re := by
  refine xFD (yMW (Inv := fun k i τ => τ = σ.re ∧ ∃ j : Nat, i = j ∧ j + k = len ∧ (xs.take j).any f = false) (Qr := fun i τ => τ = σ.re ∧ 0 ≤ i ∧ xs.any f = true) (Q0 := fun τ => τ = σ.re ∧ xs.any f = false) ?_ len 0 σ.re ⟨rfl, 0, rfl, by omega, by simp⟩) ?_ ?_
  ·rintro k i τ ⟨rfl, j, rfl, hk, ha⟩
   by_cases hj : j < len
   ·obtain ⟨a, rfl, x, hx, ld⟩ := wU hs.re hj
    have c := hc x (List.mem_of_getElem? hx) σ.re (le0 σ)
    cases hf : f x with
    | true =>
     rw [hf] at c
     exact xBG ld c ⟨rfl, by omega, List.any_eq_true.2 ⟨x, List.mem_of_getElem? hx, hf⟩⟩
    | false =>
     rw [hf] at c
     exact xBF ld c ⟨k - 1, by omega, rfl, j + 1, by omega, by omega, by rw [vI hx, List.any_append, ha]; simp [hf]⟩
   ·exact xBE ⟨rfl, by rwa [List.take_of_length_le (by omega)] at ha⟩
  ·rintro i τ ⟨rfl, h1, h2⟩
   exact yMU ⟨⟨i, rfl, by simp [h1, h2]⟩, rfl⟩
  ·rintro τ ⟨rfl, h⟩
   exact yMV ⟨⟨-1, rfl, by simp [h]⟩, rfl⟩
 obtain ⟨v, s, h1, ⟨r, rfl, h2⟩, rfl⟩ := key
 exact ⟨r, zNB h1 (Nat.le_refl _) rfl, h2⟩
theorem xIP {p : Option Addr} {len cap : Nat} {g : FuncId} {ga : List Value} {gc : List Value} {xs : List Dty} {f : Dty → Bool} (hs : SlV Pg σ 69 5 p len (xs.map vC)) (hlen : len ≤ 1073741824)
  (hc : ∀ x ∈ xs, ∀ τ, Le σ τ → zD Pg g (ga ++ (vC x :: gc)) τ (.bool (f x)) τ) : zD Pg 56 [.slice p len cap, .func (.func g) ⟨ga⟩ ⟨gc⟩] σ (.bool (xs.any f)) σ := by
 obtain ⟨r, h1, h2⟩ := xIL (σ := σ.re) (cap := cap) hs.re hlen (fun x hx τ hτ => hc x hx τ ((le0 σ).trans hτ))
 cases ha : xs.any f with
 | true => exact (xFT h1 ⟨rfl, Nat.le_refl _⟩ (h2.2 ha)).pure
 | false => exact (xFS h1 ⟨rfl, Nat.le_refl _⟩ (fun h => by rw [h2.1 h] at ha; cases ha)).pure
theorem xGH {x : Dty} {a : Addr} {g : FuncId} {ga : List Value} {gc : List Value} {b : Bool} (hr : Row σ a [.func (.func g) ⟨ga⟩ ⟨gc⟩]) (hc : ∀ τ, Le σ τ → zD Pg g (ga ++ (vC x :: gc)) τ (.bool b) τ) :
  zD Pg 57 [vC x, .pointer (some a)] σ (.bool (!b)) σ := by
 cases b with
 | true => exact (xCS (hr.re.row.ld1 xHD) (hc _ ((le0 σ).trans (Le.row _ _ _))) ⟨rfl, Nat.le_refl _⟩).pure
 | false => exact (xCR (hr.re.row.ld1 xHD) (hc _ ((le0 σ).trans (Le.row _ _ _))) ⟨rfl, Nat.le_refl _⟩).pure
theorem xIU {p : Option Addr} {len cap : Nat} {g : FuncId} {ga : List Value} {gc : List Value} {xs : List Dty} {f : Dty → Bool} (hs : SlV Pg σ 69 5 p len (xs.map vC)) (hlen : len ≤ 1073741824)
  (hc : ∀ x ∈ xs, ∀ τ, Le σ τ → zD Pg g (ga ++ (vC x :: gc)) τ (.bool (f x)) τ) : zD Pg 38 [.slice p len cap, .func (.func g) ⟨ga⟩ ⟨gc⟩] σ (.bool (xs.all f)) σ := by
 have c := xIP (σ := σ.re.row [.func (.func g) ⟨ga⟩ ⟨gc⟩] 1) (g := 57) (ga := []) (gc := [.pointer (some ⟨σ.re.y, 0, none⟩)]) (f := fun x => !f x) (cap := cap) hs.re.row hlen
  (fun x hx τ hτ => xGH ((xC _ _ _).le hτ) (fun τ' hτ' => hc x hx τ' ((((le0 σ).trans (Le.row _ _ _)).trans hτ).trans hτ')))
 have e : (xs.any fun x => !f x) = !xs.all f := by rw [List.not_all_eq_any_not]
 rw [e] at c
 cases ha : xs.all f with
 | true => rw [ha] at c; exact (xGF c ⟨rfl, Nat.le_refl _⟩).pure
 | false => rw [ha] at c; exact (xGG c ⟨rfl, Nat.le_refl _⟩).pure
theorem xIK {p : Option Addr} {len cap : Nat} {g : FuncId} {gc : List Value} {xs : List Int} {f : Int → Bool} (hs : SlV Pg σ 3 1 p len (xs.map yO)) (hlen : len ≤ 1073741824)
  (hc : ∀ x ∈ xs, ∀ τ, Le σ τ → zD Pg g (yO x :: gc) τ (.bool (f x)) τ) : ∃ r : Int, zD Pg 79 [.slice p len cap, .func (.func g) ⟨[]⟩ ⟨gc⟩] σ (iV r) σ ∧ (0 ≤ r ↔ xs.any f = true) := by
 have hl : xs.length = len := by have := hs.2.1; simpa using this
 have key : zI Pg 79 [.slice p len cap, .func (.func g) ⟨[]⟩ ⟨gc⟩] σ.re fun v s => (∃ r : Int, v = iV r ∧ (0 ≤ r ↔ xs.any f = true)) ∧ s = σ.re := by
  refine xFC (yMT (Inv := fun k i τ => τ = σ.re ∧ ∃ j : Nat, i = j ∧ j + k = len ∧ (xs.take j).any f = false) (Qr := fun i τ => τ = σ.re ∧ 0 ≤ i ∧ xs.any f = true) (Q0 := fun τ => τ = σ.re ∧ xs.any f = false) ?_ len 0 σ.re ⟨rfl, 0, rfl, by omega, by simp⟩) ?_ ?_
  ·rintro k i τ ⟨rfl, j, rfl, hk, ha⟩
   by_cases hj : j < len
   ·obtain ⟨a, rfl, x, hx, ld⟩ := wU hs.re hj
    have c := hc x (List.mem_of_getElem? hx) σ.re (le0 σ)
    cases hf : f x with
    | true =>
     rw [hf] at c
     exact xBC ld c ⟨rfl, by omega, List.any_eq_true.2 ⟨x, List.mem_of_getElem? hx, hf⟩⟩
    | false =>
     rw [hf] at c
     exact xBB ld c ⟨k - 1, by omega, rfl, j + 1, by omega, by omega, by rw [vI hx, List.any_append, ha]; simp [hf]⟩
   ·exact xBA ⟨rfl, by rwa [List.take_of_length_le (by omega)] at ha⟩
  ·rintro i τ ⟨rfl, h1, h2⟩
   exact yMR ⟨⟨i, rfl, by simp [h1, h2]⟩, rfl⟩
  ·rintro τ ⟨rfl, h⟩
   exact yMS ⟨⟨-1, rfl, by simp [h]⟩, rfl⟩
 obtain ⟨v, s, h1, ⟨r, rfl, h2⟩, rfl⟩ := key
 exact ⟨r, zNB h1 (Nat.le_refl _) rfl, h2⟩
theorem xIO {p : Option Addr} {len cap : Nat} {g : FuncId} {gc : List Value} {xs : List Int} {f : Int → Bool} (hs : SlV Pg σ 3 1 p len (xs.map yO)) (hlen : len ≤ 1073741824)
  (hc : ∀ x ∈ xs, ∀ τ, Le σ τ → zD Pg g (yO x :: gc) τ (.bool (f x)) τ) : zD Pg 61 [.slice p len cap, .func (.func g) ⟨[]⟩ ⟨gc⟩] σ (.bool (xs.any f)) σ := by
 obtain ⟨r, h1, h2⟩ := xIK (σ := σ.re) (cap := cap) hs.re hlen (fun x hx τ hτ => hc x hx τ ((le0 σ).trans hτ))
 cases ha : xs.any f with
 | true => exact (xFP h1 ⟨rfl, Nat.le_refl _⟩ (h2.2 ha)).pure
 | false => exact (xFO h1 ⟨rfl, Nat.le_refl _⟩ (fun h => by rw [h2.1 h] at ha; cases ha)).pure
theorem xGE {x : Int} {a : Addr} {g : FuncId} {gc : List Value} {b : Bool} (hr : Row σ a [.func (.func g) ⟨[]⟩ ⟨gc⟩]) (hc : ∀ τ, Le σ τ → zD Pg g (yO x :: gc) τ (.bool b) τ) :
  zD Pg 62 [yO x, .pointer (some a)] σ (.bool (!b)) σ := by
 cases b with
 | true => exact (xCQ (hr.re.ld1 xHB) (hc _ (le0 σ)) ⟨rfl, Nat.le_refl _⟩).pure
 | false => exact (xCP (hr.re.ld1 xHB) (hc _ (le0 σ)) ⟨rfl, Nat.le_refl _⟩).pure
theorem xIT {p : Option Addr} {len cap : Nat} {g : FuncId} {gc : List Value} {xs : List Int} {f : Int → Bool} (hs : SlV Pg σ 3 1 p len (xs.map yO)) (hlen : len ≤ 1073741824)
  (hc : ∀ x ∈ xs, ∀ τ, Le σ τ → zD Pg g (yO x :: gc) τ (.bool (f x)) τ) : zD Pg 43 [.slice p len cap, .func (.func g) ⟨[]⟩ ⟨gc⟩] σ (.bool (xs.all f)) σ := by
 have c := xIO (σ := σ.re.row [.func (.func g) ⟨[]⟩ ⟨gc⟩] 1) (g := 62) (gc := [.pointer (some ⟨σ.re.y, 0, none⟩)]) (f := fun x => !f x) (cap := cap) hs.re.row hlen
  (fun x hx τ hτ => xGE ((xC _ _ _).le hτ) (fun τ' hτ' => hc x hx τ' ((((le0 σ).trans (Le.row _ _ _)).trans hτ).trans hτ')))
 have e : (xs.any fun x => !f x) = !xs.all f := by rw [List.not_all_eq_any_not]
 rw [e] at c
 cases ha : xs.all f with
 | true => rw [ha] at c; exact (xGC c ⟨rfl, Nat.le_refl _⟩).pure
 | false => rw [ha] at c; exact (xGD c ⟨rfl, Nat.le_refl _⟩).pure
theorem xIJ {p : Option Addr} {len cap : Nat} {g : FuncId} {ga : List Value} {gc : List Value} {xs : List Drv} {f : Drv → Bool} (hs : zQJ σ 61 p len xs) (hlen : len ≤ 1073741824)
  (hc : ∀ x ∈ xs, ∀ v τ, Le σ τ → zQM τ v x → zD Pg g (ga ++ (v :: gc)) τ (.bool (f x)) τ) : ∃ r : Int, zD Pg 78 [.slice p len cap, .func (.func g) ⟨ga⟩ ⟨gc⟩] σ (iV r) σ ∧ (0 ≤ r ↔ xs.any f = true) := by
 obtain ⟨vs, hv1, hl, hv3⟩ := hs.le (le0 σ)
 have key : zI Pg 78 [.slice p len cap, .func (.func g) ⟨ga⟩ ⟨gc⟩] σ.re fun v s => (∃ r : Int, v = iV r ∧ (0 ≤ r ↔ xs.any f = true)) ∧ s = σ.re := by
  refine xFB (yMQ (Inv := fun k i τ => τ = σ.re ∧ ∃ j : Nat, i = j ∧ j + k = len ∧ (xs.take j).any f = false) (Qr := fun i τ => τ = σ.re ∧ 0 ≤ i ∧ xs.any f = true) (Q0 := fun τ => τ = σ.re ∧ xs.any f = false) ?_ len 0 σ.re ⟨rfl, 0, rfl, by omega, by simp⟩) ?_ ?_
  ·rintro k i τ ⟨rfl, j, rfl, hk, ha⟩
   by_cases hj : j < len
   ·obtain ⟨a, rfl, _⟩ := hv1.some hj
    obtain ⟨x, hxe⟩ : ∃ x, x = xs[j] := ⟨_, rfl⟩
    have hx : xs[j]? = some x := by rw [hxe]; simp
    obtain ⟨v, g1, hv⟩ := hv3 j x hx
    have c := hc x (List.mem_of_getElem? hx) v σ.re (le0 σ) hv
    obtain ⟨p', l', c', r', n', d', s', j', e', rfl, _⟩ := hv
    have ld : zB Pg σ.re 61 (zH a (Int.toNat (j : Int) * 6)) = some (.agg ⟨zG p' l' c' r' n' d' s' j' e' x.off x.row x.used⟩) := hv1.at rfl g1
    cases hf : f x with
    | true =>
     rw [hf] at c
     exact xAY ld c ⟨rfl, by omega, List.any_eq_true.2 ⟨x, List.mem_of_getElem? hx, hf⟩⟩
    | false =>
     rw [hf] at c
     exact xAX ld c ⟨k - 1, by omega, rfl, j + 1, by omega, by omega, by rw [vI hx, List.any_append, ha]; simp [hf]⟩
   ·exact xAW ⟨rfl, by rwa [List.take_of_length_le (by omega)] at ha⟩
  ·rintro i τ ⟨rfl, h1, h2⟩
   exact yMO ⟨⟨i, rfl, by simp [h1, h2]⟩, rfl⟩
  ·rintro τ ⟨rfl, h⟩
   exact yMP ⟨⟨-1, rfl, by simp [h]⟩, rfl⟩
 obtain ⟨v, s, h1, ⟨r, rfl, h2⟩, rfl⟩ := key
 exact ⟨r, zNB h1 (Nat.le_refl _) rfl, h2⟩
theorem xIN {p : Option Addr} {len cap : Nat} {g : FuncId} {ga : List Value} {gc : List Value} {xs : List Drv} {f : Drv → Bool} (hs : zQJ σ 61 p len xs) (hlen : len ≤ 1073741824)
  (hc : ∀ x ∈ xs, ∀ v τ, Le σ τ → zQM τ v x → zD Pg g (ga ++ (v :: gc)) τ (.bool (f x)) τ) : zD Pg 58 [.slice p len cap, .func (.func g) ⟨ga⟩ ⟨gc⟩] σ (.bool (xs.any f)) σ := by
 obtain ⟨r, h1, h2⟩ := xIJ (σ := σ.re) (cap := cap) (hs.le (le0 σ)) hlen (fun x hx v τ hτ => hc x hx v τ ((le0 σ).trans hτ))
 cases ha : xs.any f with
 | true => exact (xFN h1 ⟨rfl, Nat.le_refl _⟩ (h2.2 ha)).pure
 | false => exact (xFM h1 ⟨rfl, Nat.le_refl _⟩ (fun h => by rw [h2.1 h] at ha; cases ha)).pure
theorem xGB {x : Drv} {v : Value} {a : Addr} {g : FuncId} {ga : List Value} {gc : List Value} {b : Bool} (hv : zQM σ v x) (hr : Row σ a [.func (.func g) ⟨ga⟩ ⟨gc⟩]) (hc : ∀ τ, Le σ τ → zQM τ v x → zD Pg g (ga ++ (v :: gc)) τ (.bool b) τ) :
  zD Pg 59 [v, .pointer (some a)] σ (.bool (!b)) σ := by
 have hc2 := fun τ (hτ : Le σ τ) => hc τ hτ (hv.le hτ)
 obtain ⟨p', l', c', r', n', d', s', j', e', rfl, _⟩ := hv
 cases b with
 | true => exact (xCO (hr.re.row.ld1 xHC) (hc2 _ ((le0 σ).trans (Le.row _ _ _))) ⟨rfl, Nat.le_refl _⟩).pure
 | false => exact (xCN (hr.re.row.ld1 xHC) (hc2 _ ((le0 σ).trans (Le.row _ _ _))) ⟨rfl, Nat.le_refl _⟩).pure
theorem xIS {p : Option Addr} {len cap : Nat} {g : FuncId} {ga : List Value} {gc : List Value} {xs : List Drv} {f : Drv → Bool} (hs : zQJ σ 61 p len xs) (hlen : len ≤ 1073741824)
  (hc : ∀ x ∈ xs, ∀ v τ, Le σ τ → zQM τ v x → zD Pg g (ga ++ (v :: gc)) τ (.bool (f x)) τ) : zD Pg 40 [.slice p len cap, .func (.func g) ⟨ga⟩ ⟨gc⟩] σ (.bool (xs.all f)) σ := by
 have c := xIN (σ := σ.re.row [.func (.func g) ⟨ga⟩ ⟨gc⟩] 1) (g := 59) (ga := []) (gc := [.pointer (some ⟨σ.re.y, 0, none⟩)]) (f := fun x => !f x) (cap := cap) (hs.le ((le0 σ).trans (Le.row _ _ _))) hlen
  (fun x hx v τ hτ hv => xGB hv ((xC _ _ _).le hτ) (fun τ' hτ' => hc x hx v τ' ((((le0 σ).trans (Le.row _ _ _)).trans hτ).trans hτ')))
 have e : (xs.any fun x => !f x) = !xs.all f := by rw [List.not_all_eq_any_not]
 rw [e] at c
 cases ha : xs.all f with
 | true => rw [ha] at c; exact (xFZ c ⟨rfl, Nat.le_refl _⟩).pure
 | false => rw [ha] at c; exact (xGA c ⟨rfl, Nat.le_refl _⟩).pure
section
variable {w : Wk} {p q : Option Addr} {l m c d : Nat}
theorem xDS {x : Dty} (hd : 1 ≤ w.M ∧ w.M ≤ 7) : zD Pg 39 [.agg ⟨wkc w.M p l c q m d w.rest w.run w.j⟩, vC x] σ (.bool (wS w x)) σ := by
 have cin : ∀ {τ : St} {n lo hi : Int} {b : Bool}, inB n lo hi = b → zD Pg 30 [iV n, iV lo, iV hi] τ (.bool b) τ := fun e => e ▸ zCQ
 unfold wS
 cases c1 : inB x.day 0 (w.M - 1) with
 | false => exact (yXC (cin c1) ⟨rfl, Nat.le_refl _⟩ (by omega)).pure
 | true =>
 cases c2 : inB x.on 0 1439 with
 | false => exact (yXD (cin c1) (cin c2) ⟨rfl, Nat.le_refl _⟩ (by omega)).pure
 | true =>
 have hon := wV.1 c2
 by_cases h1 : x.on ≤ x.lo
 rotate_left
 ·have : inB x.lo x.on x.hi = false := zYH.2 (fun h => h1 h.1)
  rw [this]; exact (yXE (cin c1) (cin c2) ⟨rfl, Nat.le_refl _⟩ (by omega) h1).pure
 by_cases h2 : x.lo ≤ x.hi
 rotate_left
 ·have : inB x.lo x.on x.hi = false := zYH.2 (fun h => h2 h.2)
  rw [this]; exact (yXF (cin c1) (cin c2) ⟨rfl, Nat.le_refl _⟩ (by omega) h1 h2).pure
 have c3 : inB x.lo x.on x.hi = true := wV.2 ⟨h1, h2⟩
 rw [c3]
 by_cases h3 : x.hi ≤ x.on + 1440
 ·rw [decide_eq_false (by omega : ¬ x.on + 1440 < x.hi)]
  exact (yXH (cin c1) (cin c2) (cin rfl) ⟨by simp, Nat.le_refl _⟩ (by omega) h1 h2 (by omega) h3).pure
 ·rw [decide_eq_true (by omega : x.on + 1440 < x.hi)]
  exact (yXG (cin c1) (cin c2) ⟨rfl, Nat.le_refl _⟩ (by omega) h1 h2 (by omega) h3).pure
theorem yRT {x : Drv} {v : Value} (hv : zQM σ v x) (hl : x.J.length ≤ 1000 ∧ x.qa.length ≤ 1000 ∧ x.qb.length ≤ 1000) (hd : 1 ≤ w.M ∧ w.M ≤ 7) : zD Pg 41 [.agg ⟨wkc w.M p l c q m d w.rest w.run w.j⟩, v] σ (.bool (vZ w x)) σ := by
 have cin : ∀ {τ : St} {n lo hi : Int} {b : Bool}, inB n lo hi = b → zD Pg 30 [iV n, iV lo, iV hi] τ (.bool b) τ := fun e => e ▸ zCQ
 obtain ⟨p', l', c', r', n', d', s', j', e', rfl, hkn, hlv, hws⟩ := hv
 have L2 : Le σ ((σ.re.row (wkc w.M p l c q m d w.rest w.run w.j) 6).row (zG p' l' c' r' n' d' s' j' e' x.off x.row x.used) 6) := ((le0 σ).trans (Le.row _ _ _)).trans (Le.row _ _ _)
 have k1 := yAI (c := c') (lo := 0) (hi := 15) (SlV.le hkn L2) (by have := hkn.len; omega)
 have k2 := yAI (c := d') (lo := 0) (hi := w.M - 1) (SlV.le hlv L2) (by have := hlv.len; omega)
 have k3 := yAI (c := e') (lo := 0) (hi := w.M - 1) (SlV.le hws L2) (by have := hws.len; omega)
 unfold vZ
 cases c1 : xY x.J 0 15 with
 | false => rw [c1] at k1; exact (yJE k1 ⟨rfl, Nat.le_refl _⟩).pure
 | true =>
 rw [c1] at k1
 cases c2 : xY x.qa 0 (w.M - 1) with
 | false => rw [c2] at k2; exact (yJF k1 k2 ⟨rfl, Nat.le_refl _⟩ (by omega)).pure
 | true =>
 rw [c2] at k2
 cases c3 : xY x.qb 0 (w.M - 1) with
 | false => rw [c3] at k3; exact (yJG k1 k2 k3 ⟨rfl, Nat.le_refl _⟩ (by omega)).pure
 | true =>
 rw [c3] at k3
 cases c4 : inB x.off (-10080) 1440 with
 | false => exact (yJH k1 k2 k3 (cin c4) ⟨rfl, Nat.le_refl _⟩ (by omega)).pure
 | true =>
 cases c5 : inB x.row 0 14 with
 | false => exact (yJI k1 k2 k3 (cin c4) (cin c5) ⟨rfl, Nat.le_refl _⟩ (by omega)).pure
 | true => exact (yJJ k1 k2 k3 (cin c4) (cin c5) (cin rfl) ⟨by simp, Nat.le_refl _⟩ (by omega)).pure
theorem yIU (h : WkP σ 69 61 w p l q m) (hsh : zFD w) : zD Pg 22 [.agg ⟨wkc w.M p l c q m d w.rest w.run w.j⟩] σ (iV (yY w)) σ := by
 have hn := h.len.1
 have hm := h.len.2
 by_cases h12 : 12 < l
 ·have : yY w = 3 := by unfold yY; rw [if_pos (.inl (by omega))]
  rw [this]; exact (yDF ⟨rfl, Nat.le_refl _⟩ (by omega)).pure
 by_cases h6 : 6 < m
 ·have : yY w = 3 := by unfold yY; rw [if_pos (.inr (by omega))]
  rw [this]; exact (yDE ⟨rfl, Nat.le_refl _⟩ (by omega) (by omega)).pure
 have hf0 : yY w = if wP w && (w.N.all (wS w) && w.L.all (vZ w)) then 0 else 1 := by unfold yY; rw [if_neg (by omega)]
 have cin : ∀ {τ : St} {n lo hi : Int} {b : Bool}, inB n lo hi = b → zD Pg 30 [iV n, iV lo, iV hi] τ (.bool b) τ := fun e => e ▸ zCQ
 have no : wP w = false → yY w = 1 := fun e => by rw [hf0, e]; rfl
 cases b1 : inB w.M 1 7 with
 | false => rw [no (by unfold wP; rw [b1]; rfl)]; exact (yCX (cin b1) ⟨rfl, Nat.le_refl _⟩ (by omega) (by omega)).pure
 | true =>
 cases b2 : inB w.rest 0 3000 with
 | false => rw [no (by unfold wP; rw [b1, b2]; rfl)]; exact (yCY (cin b1) (cin b2) ⟨rfl, Nat.le_refl _⟩ (by omega) (by omega)).pure
 | true =>
 cases b3 : inB w.run 1 14 with
 | false => rw [no (by unfold wP; rw [b1, b2, b3]; rfl)]; exact (yCZ (cin b1) (cin b2) (cin b3) ⟨rfl, Nat.le_refl _⟩ (by omega) (by omega)).pure
 | true =>
 cases b4 : inB w.j 0 20000 with
 | false => rw [no (by unfold wP; rw [b1, b2, b3, b4]; rfl)]; exact (yDA (cin b1) (cin b2) (cin b3) (cin b4) ⟨rfl, Nat.le_refl _⟩ (by omega) (by omega)).pure
 | true =>
 have hh : wP w = true := by unfold wP; rw [b1, b2, b3, b4]; rfl
 have hd := wV.1 b1
 have L1 : Le σ (σ.re.row (wkc w.M p l c q m d w.rest w.run w.j) 6) := (le0 σ).trans (Le.row _ _ _)
 have cd := xIU (cap := c) (g := 39) (ga := [.agg ⟨wkc w.M p l c q m d w.rest w.run w.j⟩]) (gc := []) (f := wS w) (SlV.le h.dty L1) (by omega) (fun x _ τ _ => xDS hd)
 have cv := xIS (cap := d) (g := 41) (ga := [.agg ⟨wkc w.M p l c q m d w.rest w.run w.j⟩]) (gc := []) (f := vZ w) (h.drv.le L1) (by omega) (fun x hx v τ _ hv => yRT hv (hsh x hx) hd)
 cases e1 : w.N.all (wS w) with
 | false => rw [e1] at cd; rw [hf0, hh, e1]; exact (yDB (cin b1) (cin b2) (cin b3) (cin b4) cd ⟨rfl, Nat.le_refl _⟩ (by omega) (by omega)).pure
 | true =>
 rw [e1] at cd
 cases e2 : w.L.all (vZ w) with
 | false => rw [e2] at cv; rw [hf0, hh, e1, e2]; exact (yDC (cin b1) (cin b2) (cin b3) (cin b4) cd cv ⟨rfl, Nat.le_refl _⟩ (by omega) (by omega)).pure
 | true => rw [e2] at cv; rw [hf0, hh, e1, e2]; exact (yDD (cin b1) (cin b2) (cin b3) (cin b4) cd cv ⟨rfl, Nat.le_refl _⟩ (by omega) (by omega)).pure
end
end
def zT (rs : List Int) (i : Nat) : Int := rs.getD i 0
section
variable {w : Wk} {ros tru : Nat → Int} {k D i : Nat}
end
section
variable {σ : St} {w : Wk} {p q r t : Option Addr} {l m c d rc tc : Nat} {rs ts : List Int} {k D : Nat}
end
structure Sane (w : Wk) (l m : Nat) : Prop where
 l12 : l ≤ 12
 m6 : m ≤ 6
 duty : ∀ i, i < l → 0 ≤ (dty w i).day ∧ (dty w i).day ≤ 6 ∧ 0 ≤ (dty w i).on ∧ (dty w i).on ≤ 1439 ∧ (dty w i).on ≤ (dty w i).lo ∧ (dty w i).lo ≤ (dty w i).hi ∧ (dty w i).hi ≤ (dty w i).on + 1440
 dr : ∀ k, k < m → -10080 ≤ (drv w k).off ∧ (drv w k).off ≤ 1440 ∧ 0 ≤ (drv w k).row ∧ (drv w k).row ≤ 14 ∧ 0 ≤ (drv w k).used ∧ (drv w k).used ≤ 20000
 kn : ∀ k, k < m → (drv w k).J.length ≤ 1000 ∧ (drv w k).qa.length ≤ 1000 ∧ (drv w k).qb.length ≤ 1000
 rest : 0 ≤ w.rest ∧ w.rest ≤ 3000
 run : 1 ≤ w.run ∧ w.run ≤ 14
 j : 0 ≤ w.j ∧ w.j ≤ 20000
theorem yOL {n : Nat} {p q r : Option Addr} {l c m d j e : Nat} {x y z : Int} (h1 : ∀ a, p = some a → a.block < n) (h2 : ∀ a, q = some a → a.block < n) (h3 : ∀ a, r = some a → a.block < n) : yU RD n (.agg ⟨zG p l c q m d r j e x y z⟩) = true := by
 have e1 : ∀ a b : Nat, a < b → Nat.blt a b = true := fun a b h => by rw [Nat.blt_eq]; exact h
 show List.all (zG p l c q m d r j e x y z) (yU (RD - 1) n) = true
 rcases p with _ | p <;> rcases q with _ | q <;> rcases r with _ | r <;> simp [yU, RD] <;> simp_all
theorem zZN {n : Nat} {p q : Option Addr} {l c m d : Nat} {a x y z : Int} (h1 : ∀ a, p = some a → a.block < n) (h2 : ∀ a, q = some a → a.block < n) : yU RD n (.agg ⟨wkc a p l c q m d x y z⟩) = true := by
 have e1 : ∀ a b : Nat, a < b → Nat.blt a b = true := fun a b h => by rw [Nat.blt_eq]; exact h
 show List.all (wkc a p l c q m d x y z) (yU (RD - 1) n) = true
 rcases p with _ | p <;> rcases q with _ | q <;> simp [yU, RD] <;> simp_all
section
variable {σ : St} {w : Wk} {p q r t : Option Addr} {l m c d rc tc : Nat} {rs ts : List Int} {k i : Nat}
end
abbrev uK (b : Bch) : Value := .agg ⟨rcd b.kind b.drv b.dut⟩
section
variable {w : Wk} {ros tru : Nat → Int} {k q j : Nat}
theorem xHR : zWF w ros tru k (q + 1) = zWF w ros tru k q ++ yKA w ros tru k q w.N.length := by
 unfold zWF
 rw [List.range_succ, List.flatMap_append]
 simp
theorem xHS : zAR w ros tru (k + 1) = zAR w ros tru k ++ (zWF w ros tru k 5 ++ yJZ w ros tru k) := by
 unfold zAR
 rw [List.range_succ, List.flatMap_append]
 simp
theorem yYG : (yKA w ros tru k q j).length ≤ j := by
 unfold yKA
 have := List.length_filterMap_le (fun i => if xV w ros tru q k i = true then some (⟨q, k, i⟩ : Bch) else none) (List.range j)
 simpa using this
theorem yYH : (zWF w ros tru k q).length ≤ q * w.N.length := by
 induction q with
 | zero => simp [zWF]
 | succ q ih => rw [xHR, List.length_append, Nat.add_mul, Nat.one_mul]; have := yYG (w := w) (ros := ros) (tru := tru) (k := k) (q := q) (j := w.N.length); omega
theorem yYF : (yJZ w ros tru k).length ≤ 1 := by unfold yJZ; split <;> simp
theorem yYI : (zAR w ros tru k).length ≤ k * (5 * w.N.length + 1) := by
 induction k with
 | zero => simp [zAR]
 | succ k ih =>
  rw [xHS, List.length_append, List.length_append, Nat.add_mul, Nat.one_mul]
  have h1 := yYH (w := w) (ros := ros) (tru := tru) (k := k) (q := 5)
  have h2 := yYF (w := w) (ros := ros) (tru := tru) (k := k)
  omega
end
section
variable {σ : St} {w : Wk} {p q r t : Option Addr} {l m c d rc tc : Nat} {rs ts : List Int} {k i : Nat}
end
def zLW (w : Wk) (rs : List Int) : Bool := rs.all (fun x => inB x (-1) ((w.L.length : Int) - 1)) && decide (rs.length = w.N.length)
def zRR (w : Wk) (ts : List Int) (j : Nat) : Bool := (List.range j).all fun i => inB (ts.getD i 0) (dty w i).lo (dty w i).hi
def zDH (w : Wk) (ts : List Int) : Bool := zRR w ts (min ts.length w.N.length) && decide (ts.length = w.N.length)
def zXZ (w : Wk) : List Int := w.N.map Dty.hi
section
variable {σ : St} {w : Wk} {p q r t : Option Addr} {l m c d rl rc tl tc : Nat} {rs ts : List Int} {td tv : Nat}
end
section
variable {ak ar au am day aI nI nE nA nB nD nF eo aA aM ax ay aC dh dE dg dF x1 aW bh aZ aX n1 n2 n3 n4 dy aJ dm bY dB dP dA dV:Int} {ah ag dY qM qD qF qG q1 vals:Option Addr} {ac ad aa ab dZ d9 lQ cP BA lG cG lI cI lJ cJ l1 c1 bv bw:Nat} {σ σO σI σU:St} {Q:Value→St→Prop} {Inv:Nat→Int→St→Prop} {Q0 P0:St→Prop} {w_Duties_a a8 vals_a:Addr} {Nx Qr Pr:Int→St→Prop} {cs1838 cs1840:List Value} {b2:Bool}
theorem xJH (nx:Q (.func (.func 63) ⟨[]⟩ ⟨[.pointer (some ⟨σ.y,0,none⟩),.pointer (some ⟨(σ.y+1),0,none⟩)]⟩) ((σ.row (wkc ak ah ac ad ag aa ab ar au am) 6).row [iV day] 1)):zI Pg 46 [.agg ⟨wkc ak ah ac ad ag aa ab ar au am⟩,iV day] σ Q :=
 zF [.g,.g,.g,.g,.g] (kd nx)
noncomputable def yRB:Code:=(Code.part [1,0,1,0,0] (zO Pg 52))
def zMI (ah:Option Addr) (ac ad:Nat) (dY:Option Addr) (dZ d9:Nat) (aI:Int):List (Nat × Value):=[(2,.slice dY dZ d9),(6,.slice ah ac ad),(7,iV ((ac:Nat):Int)),(8,iV aI)]
def xBT (ah:Option Addr) (ac ad:Nat) (Q:(Option Addr)→Nat→Nat→Int→St→Prop):Alt:=⟨(Option Addr) × Nat × Nat × Int,.normal,fun t=>zMI ah ac ad t.1 t.2.1 t.2.2.1 t.2.2.2,fun t=>[],fun t σ=>Q t.1 t.2.1 t.2.2.1 t.2.2.2 σ⟩
def zZC (ah:Option Addr) (ac ad:Nat) (dY:Option Addr) (dZ d9:Nat):List (Nat × Value):=[(2,.slice dY dZ d9)]
def zNY (ah:Option Addr) (ac ad:Nat) (Q:(Option Addr)→Nat→Nat→St→Prop):Alt:=⟨(Option Addr) × Nat × Nat,(.exit 0),fun t=>zZC ah ac ad t.1 t.2.1 t.2.2,fun t=>[],fun t σ=>Q t.1 t.2.1 t.2.2 σ⟩
def yCA (ah:Option Addr) (ac ad:Nat) (dY:Option Addr) (dZ d9:Nat) (aI:Int) (σ:St) (Nx:(Option Addr)→Nat→Nat→Int→St→Prop) (Q0:(Option Addr)→Nat→Nat→St→Prop):Prop:=yJ Pg (zS Pg) none yRB 20 (zMI ah ac ad dY dZ d9 aI) [] [xBT ah ac ad Nx,zNY ah ac ad Q0] σ
def yRC (ah:Option Addr) (ac ad:Nat) (dY:Option Addr) (dZ d9:Nat) (aI:Int) (σ:St) (Q0:(Option Addr)→Nat→Nat→St→Prop):Prop:=yR Pg (zS Pg) none yRB 20 (zMI ah ac ad dY dZ d9 aI) [] [zNY ah ac ad Q0] σ
theorem yNC {Inv:Nat→(Option Addr)→Nat→Nat→Int→St→Prop} {Q0:(Option Addr)→Nat→Nat→St→Prop} (hb:∀ k dY dZ d9 aI σ,Inv k dY dZ d9 aI σ→yCA ah ac ad dY dZ d9 aI σ (NX4 Inv k) Q0):∀ k dY dZ d9 aI σ,Inv k dY dZ d9 aI σ→yRC ah ac ad dY dZ d9 aI σ Q0 :=
 zTO (ai (wA 0) trivial) hb
theorem xBS {Nx:(Option Addr)→Nat→Nat→Int→St→Prop} {Q0:(Option Addr)→Nat→Nat→St→Prop} (h1:zB Pg σ 69 (zH w_Duties_a (Int.toNat aI*5))=some (.agg ⟨zE nI nE nA nB nD⟩)) (h2:zZ Pg 29 29 (.slice dY dZ d9) (.slice (some ⟨(σ.y+1),0,none⟩) 1 1) (((σ.row (zE 0 0 0 0 0) 5).own σ.y (zE nI nE nA nB nD) 5).row [iV nB] 1)=some (.slice qM lQ cP,σO)) (nx:Nx qM lQ cP (aI+1) σO) (u1:aI<((ac:Nat):Int):=by omega) (u2:Ix aI ac:=by omega) (u3:I6 (aI+1):=by omega):yCA (some w_Duties_a) ac ad dY dZ d9 aI σ Nx Q0 :=
 let s1:=σ.row (zE 0 0 0 0 0) 5;let s2:=s1.own σ.y (zE nI nE nA nB nD) 5;kO 0 (qM,lQ,cP,aI+1) [.b true,.i,.l (.agg ⟨zE nI nE nA nB nD⟩),.g,.e undef s2,.g,.g,.g,.l (iV nB),.g,.e (.slice qM lQ cP) σO,.g,.n (aI+1),.g] (fun _ f=>(ai (zJ u1) (an6 u2 h1 ((zC _ _ _).store (vs:=(zE nI nE nA nB nD)) rfl uT rfl (nle rfl) rfl:zL Pg (evL [.pointer (some ⟨σ.y,0,none⟩),.agg ⟨zE nI nE nA nB nD⟩]) s1 (.store 69 (.tmp 0) (.tmp 1))=some (undef,s2)) ((zC _ _ _).put.rw.ld zK (k:=3) rfl:zB Pg s2 3 ⟨σ.y,3,none⟩=some (iV nB)) h2 (w64 u3) f))) nx
theorem xBR {Nx:(Option Addr)→Nat→Nat→Int→St→Prop} {Q0:(Option Addr)→Nat→Nat→St→Prop} (nx:Q0 dY dZ d9 σ) (u1:¬ aI<((ac:Nat):Int):=by omega):yCA ah ac ad dY dZ d9 aI σ Nx Q0 :=
 kO 1 (dY,dZ,d9) [.b false] (fun _ f=>(ai (zM u1) f)) nx
def zZD (ah:Option Addr) (ac ad:Nat) (dY:Option Addr) (dZ d9:Nat) (σ:St) (Q:Value→St→Prop):Prop:=∀ g:Nat→Value,∃ an,Hid (kAt Pg (zS Pg) none (zO Pg 52) [1,0,1,0] (kFn Pg 52 Q) (.exit 0) ⟨Fm 20 (ov (zZC ah ac ad dY dZ d9) g),[]⟩ σ an)
theorem xFJ {P0:(Option Addr)→Nat→Nat→St→Prop} (hL:yRC ah ac ad none 0 0 0 (σ.row (wkc ak ah ac ad ag aa ab ar au am) 6) P0) (k0:∀ p2_1' l2_1' c2_1' σ',P0 p2_1' l2_1' c2_1' σ'→zZD ah ac ad p2_1' l2_1' c2_1' σ' Q):zI Pg 52 [.agg ⟨wkc ak ah ac ad ag aa ab ar au am⟩] σ Q :=
 zF [.g,.g,.g,.l (.slice ah ac ad),.g,.g,.lf 20 (zMI ah ac ad none 0 0 0) [zNY ah ac ad P0]] (kd (ai ((zC _ _ _).rw.ld uB (k:=1) rfl:zB Pg (σ.row (wkc ak ah ac ad ag aa ab ar au am) 6) 40 ⟨σ.y,1,none⟩=some (.slice ah ac ad)) (ai (ai tt (ai (arf (zMI ah ac ad none 0 0 0)) hL)) (ai (kz3 k0) trivial))))
theorem yNB (nx:Q (.slice dY dZ d9) σ):zZD ah ac ad dY dZ d9 σ Q :=
 sK [.g,.g] nx
noncomputable def zRP:Code:=(Code.part [1,0,1,0,0] (zO Pg 45))
def zDU (BA:Nat) (ag:Option Addr) (aa ab:Nat) (aI:Int):List (Nat × Value):=[(2,.pointer (some ⟨BA,0,none⟩)),(6,.slice ag aa ab),(7,iV ((aa:Nat):Int)),(8,iV aI)]
def yDM (BA:Nat) (ag:Option Addr) (aa ab:Nat) (Q:Int→St→Prop):Alt:=⟨Int,.normal,fun t=>zDU BA ag aa ab t,fun t=>[],fun t σ=>Q t σ⟩
def zLC (BA:Nat) (ag:Option Addr) (aa ab:Nat):List (Nat × Value):=[(2,.pointer (some ⟨BA,0,none⟩))]
def zDV (BA:Nat) (ag:Option Addr) (aa ab:Nat) (Q:St→Prop):Alt:=⟨Unit,(.exit 0),fun t=>zLC BA ag aa ab,fun t=>[],fun t σ=>Q σ⟩
def zJN (BA:Nat) (ag:Option Addr) (aa ab:Nat) (aI:Int) (σ:St) (Nx:Int→St→Prop) (Q0:St→Prop):Prop:=yJ Pg (zS Pg) none zRP 24 (zDU BA ag aa ab aI) [] [yDM BA ag aa ab Nx,zDV BA ag aa ab Q0] σ
def zRQ (BA:Nat) (ag:Option Addr) (aa ab:Nat) (aI:Int) (σ:St) (Q0:St→Prop):Prop:=yR Pg (zS Pg) none zRP 24 (zDU BA ag aa ab aI) [] [zDV BA ag aa ab Q0] σ
theorem zWA (hb:∀ k aI σ,Inv k aI σ→zJN BA ag aa ab aI σ (NX1 Inv k) Q0):∀ k aI σ,Inv k aI σ→zRQ BA ag aa ab aI σ Q0 :=
 yV (ai (wA 0) trivial) hb
theorem yDL (h1:zB Pg σ 61 (zH a8 (Int.toNat aI*6))=some (.agg ⟨zG qD lG cG qF lI cI qG lJ cJ nB nD nF⟩)) (h2:zL Pg (evL [.pointer (some ⟨BA,0+Int.toNat aI*4,none⟩),.agg ⟨zP nB nD nF (-1)⟩]) ((σ.row (zG none 0 0 none 0 0 none 0 0 0 0 0) 6).own σ.y (zG qD lG cG qF lI cI qG lJ cJ nB nD nF) 6) (.store 87 (.tmp 0) (.tmp 1))=some (undef,σI)) (nx:Nx (aI+1) σI) (u1:aI<((aa:Nat):Int):=by omega) (u2:Ix aI aa:=by omega) (u3:Ix aI 6:=by omega) (u4:I6 (aI+1):=by omega):zJN BA (some a8) aa ab aI σ Nx Q0 :=
 let s1:=σ.row (zG none 0 0 none 0 0 none 0 0 0 0 0) 6;let s2:=s1.own σ.y (zG qD lG cG qF lI cI qG lJ cJ nB nD nF) 6;kO 0 (aI+1) [.b true,.g,.i,.l (.agg ⟨zG qD lG cG qF lI cI qG lJ cJ nB nD nF⟩),.g,.g,.e undef s2,.g,.g,.l (iV nB),.g,.l (iV nD),.g,.l (iV nF),.g,.i,.e undef σI,.n (aI+1),.g] (fun _ f=>(an4 (zJ u1) u2 h1 ((zC _ _ _).store (vs:=(zG qD lG cG qF lI cI qG lJ cJ nB nD nF)) rfl zMV rfl (nle rfl) rfl:zL Pg (evL [.pointer (some ⟨σ.y,0,none⟩),.agg ⟨zG qD lG cG qF lI cI qG lJ cJ nB nD nF⟩]) s1 (.store 61 (.tmp 0) (.tmp 1))=some (undef,s2)) (an6 ((zC _ _ _).put.rw.ld zK (k:=3) rfl:zB Pg s2 3 ⟨σ.y,3,none⟩=some (iV nB)) ((zC _ _ _).put.rw.ld zK (k:=4) rfl:zB Pg s2 3 ⟨σ.y,4,none⟩=some (iV nD)) ((zC _ _ _).put.rw.ld zK (k:=5) rfl:zB Pg s2 3 ⟨σ.y,5,none⟩=some (iV nF)) u3 h2 (w64 u4) f))) nx
theorem yDK (nx:Q0 σ) (u1:¬ aI<((aa:Nat):Int):=by omega):zJN BA ag aa ab aI σ Nx Q0 :=
 kO 1 () [.b false] (fun _ f=>(ai (zM u1) f)) nx
def zLD (BA:Nat) (ag:Option Addr) (aa ab:Nat) (σ:St) (Q:Value→St→Prop):Prop:=∀ g:Nat→Value,∃ an,Hid (kAt Pg (zS Pg) none (zO Pg 45) [1,0,1,0] (kFn Pg 45 Q) (.exit 0) ⟨Fm 24 (ov (zLC BA ag aa ab) g),[]⟩ σ an)
theorem yJK (hL:zRQ (σ.y+1) ag aa ab 0 ((σ.row (wkc ak ah ac ad ag aa ab ar au am) 6).row [iV 0,iV 0,iV 0,iV 0,iV 0,iV 0,iV 0,iV 0,iV 0,iV 0,iV 0,iV 0,iV 0,iV 0,iV 0,iV 0,iV 0,iV 0,iV 0,iV 0,iV 0,iV 0,iV 0,iV 0] 4) P0) (k0:∀ σ',P0 σ'→zLD (σ.y+1) ag aa ab σ' Q):zI Pg 45 [.agg ⟨wkc ak ah ac ad ag aa ab ar au am⟩] σ Q :=
 let s1:=zDU (σ.y+1) ag aa ab 0;zF [.g,.g,.g,.l (.slice ag aa ab),.g,.g,.lf 24 s1 [zDV (σ.y+1) ag aa ab P0]] (kd (ai ((zC _ _ _).row.rw.ld zAY (k:=2) rfl:zB Pg ((σ.row (wkc ak ah ac ad ag aa ab ar au am) 6).row [iV 0,iV 0,iV 0,iV 0,iV 0,iV 0,iV 0,iV 0,iV 0,iV 0,iV 0,iV 0,iV 0,iV 0,iV 0,iV 0,iV 0,iV 0,iV 0,iV 0,iV 0,iV 0,iV 0,iV 0] 4) 41 ⟨σ.y,2,none⟩=some (.slice ag aa ab)) (ai (ai tt (ai (arf s1) hL)) (ai (kz0 k0) trivial))))
theorem zVZ (h1:zB Pg σ 89 ⟨BA,0,none⟩=some (.agg ⟨cs1838⟩)) (h2:zL Pg (evL [.pointer (some ⟨BA,0,none⟩),.agg ⟨cs1838⟩]) σ (.store 89 (.tmp 0) (.tmp 1))=some (undef,σU)) (h3:zB Pg σU 89 ⟨BA,0,none⟩=some (.agg ⟨cs1840⟩)) (nx:Q (.agg ⟨cs1840⟩) σU):zLD BA ag aa ab σ Q :=
 sK [.l (.agg ⟨cs1838⟩),.e undef σU,.l (.agg ⟨cs1840⟩)] (an3 h1 h2 h3 nx)
theorem yAX (nx:Q (.slice (some ⟨σ.y,0,none⟩) 5 5) (σ.row [.int .u8 0,.func (.func 64) ⟨[]⟩ ⟨[]⟩,.int .u8 1,.func (.func 65) ⟨[]⟩ ⟨[]⟩,.int .u8 2,.func (.func 66) ⟨[]⟩ ⟨[]⟩,.int .u8 3,.func (.func 67) ⟨[]⟩ ⟨[]⟩,.int .u8 4,.func (.func 68) ⟨[]⟩ ⟨[]⟩] 2)):zI Pg 47 [] σ Q :=
 zF [.g,.g,.g,.g,.g,.g,.g,.g] (kd nx)
theorem ySY (h1:zB Pg (((σ.row (wkc ak ah ac ad (some a8) aa ab ar au am) 6).row (zE aA aM ax ay aC) 5).row (zP dh dE dg dF) 4) 29 (zH a8 ((Int.toNat eo*6)+0))=some (.slice q1 l1 c1)) (h2:zD Pg 37 [.slice q1 l1 c1,iV aC] (((σ.row (wkc ak ah ac ad (some a8) aa ab ar au am) 6).row (zE aA aM ax ay aC) 5).row (zP dh dE dg dF) 4) (.bool b2) (((σ.row (wkc ak ah ac ad (some a8) aa ab ar au am) 6).row (zE aA aM ax ay aC) 5).row (zP dh dE dg dF) 4)) (nx:Q (.bool b2) (((σ.row (wkc ak ah ac ad (some a8) aa ab ar au am) 6).row (zE aA aM ax ay aC) 5).row (zP dh dE dg dF) 4)) (u1:Ix eo aa:=by omega):zI Pg 64 [.agg ⟨wkc ak ah ac ad (some a8) aa ab ar au am⟩,iV eo,.agg ⟨zE aA aM ax ay aC⟩,.agg ⟨zP dh dE dg dF⟩] σ Q :=
 let s1:=σ.row (wkc ak ah ac ad (some a8) aa ab ar au am) 6;let s2:=s1.row (zE aA aM ax ay aC) 5;let s3:=s2.row (zP dh dE dg dF) 4;zF [.g,.g,.g,.g,.g,.l (.slice (some a8) aa ab),.g,.i,.g,.l (.slice q1 l1 c1),.g,.l (iV aC),.c (.bool b2) s3,.g] (kd (an5 ((zC _ _ _).row.row.rw.ld zAY (k:=2) rfl:zB Pg s3 41 ⟨σ.y,2,none⟩=some (.slice (some a8) aa ab)) u1 h1 ((zC _ _ _).row.rw.ld zK (k:=4) rfl:zB Pg s3 3 ⟨(σ.y+1),4,none⟩=some (iV aC)) h2 nx))
theorem yYR (h1:zB Pg (((σ.row (wkc ak ah ac ad (some a8) aa ab ar au am) 6).row (zE aA aM ax ay aC) 5).row (zP dh dE dg dF) 4) 29 (zH a8 ((Int.toNat eo*6)+1))=some (.slice q1 l1 c1)) (h2:zD Pg 37 [.slice q1 l1 c1,iV aA] (((σ.row (wkc ak ah ac ad (some a8) aa ab ar au am) 6).row (zE aA aM ax ay aC) 5).row (zP dh dE dg dF) 4) (.bool true) (((σ.row (wkc ak ah ac ad (some a8) aa ab ar au am) 6).row (zE aA aM ax ay aC) 5).row (zP dh dE dg dF) 4)) (nx:Q (.bool false) (((σ.row (wkc ak ah ac ad (some a8) aa ab ar au am) 6).row (zE aA aM ax ay aC) 5).row (zP dh dE dg dF) 4)) (u1:Ix eo aa:=by omega):zI Pg 65 [.agg ⟨wkc ak ah ac ad (some a8) aa ab ar au am⟩,iV eo,.agg ⟨zE aA aM ax ay aC⟩,.agg ⟨zP dh dE dg dF⟩] σ Q :=
 let s1:=σ.row (wkc ak ah ac ad (some a8) aa ab ar au am) 6;let s2:=s1.row (zE aA aM ax ay aC) 5;let s3:=s2.row (zP dh dE dg dF) 4;zF [.g,.g,.g,.g,.g,.l (.slice (some a8) aa ab),.g,.i,.g,.l (.slice q1 l1 c1),.g,.l (iV aA),.c (.bool true) s3,.g,.g] (kd (an5 ((zC _ _ _).row.row.rw.ld zAY (k:=2) rfl:zB Pg s3 41 ⟨σ.y,2,none⟩=some (.slice (some a8) aa ab)) u1 h1 ((zC _ _ _).row.rw.ld zK (k:=0) rfl:zB Pg s3 3 ⟨(σ.y+1),0,none⟩=some (iV aA)) h2 nx))
theorem yYQ (h1:zB Pg (((σ.row (wkc ak ah ac ad (some a8) aa ab ar au am) 6).row (zE aA aM ax ay aC) 5).row (zP dh dE dg dF) 4) 29 (zH a8 ((Int.toNat eo*6)+1))=some (.slice q1 l1 c1)) (h2:zD Pg 37 [.slice q1 l1 c1,iV aA] (((σ.row (wkc ak ah ac ad (some a8) aa ab ar au am) 6).row (zE aA aM ax ay aC) 5).row (zP dh dE dg dF) 4) (.bool false) (((σ.row (wkc ak ah ac ad (some a8) aa ab ar au am) 6).row (zE aA aM ax ay aC) 5).row (zP dh dE dg dF) 4)) (nx:Q (.bool true) (((σ.row (wkc ak ah ac ad (some a8) aa ab ar au am) 6).row (zE aA aM ax ay aC) 5).row (zP dh dE dg dF) 4)) (u1:Ix eo aa:=by omega):zI Pg 65 [.agg ⟨wkc ak ah ac ad (some a8) aa ab ar au am⟩,iV eo,.agg ⟨zE aA aM ax ay aC⟩,.agg ⟨zP dh dE dg dF⟩] σ Q :=
 let s1:=σ.row (wkc ak ah ac ad (some a8) aa ab ar au am) 6;let s2:=s1.row (zE aA aM ax ay aC) 5;let s3:=s2.row (zP dh dE dg dF) 4;zF [.g,.g,.g,.g,.g,.l (.slice (some a8) aa ab),.g,.i,.g,.l (.slice q1 l1 c1),.g,.l (iV aA),.c (.bool false) s3,.g,.g] (kd (an5 ((zC _ _ _).row.row.rw.ld zAY (k:=2) rfl:zB Pg s3 41 ⟨σ.y,2,none⟩=some (.slice (some a8) aa ab)) u1 h1 ((zC _ _ _).row.rw.ld zK (k:=0) rfl:zB Pg s3 3 ⟨(σ.y+1),0,none⟩=some (iV aA)) h2 nx))
theorem yLB (nx:Q (.bool true) (((σ.row (wkc ak ah ac ad ag aa ab ar au am) 6).row (zE aA aM ax ay aC) 5).row (zP aW bh aZ aX) 4)) (u1:¬ aX=aA:=by omega):zI Pg 66 [.agg ⟨wkc ak ah ac ad ag aa ab ar au am⟩,iV x1,.agg ⟨zE aA aM ax ay aC⟩,.agg ⟨zP aW bh aZ aX⟩] σ Q :=
 let s1:=σ.row (wkc ak ah ac ad ag aa ab ar au am) 6;let s2:=s1.row (zE aA aM ax ay aC) 5;let s3:=s2.row (zP aW bh aZ aX) 4;zF [.g,.g,.g,.g,.g,.l (iV aX),.g,.l (iV aA),.b true,.g] (kd (an3 ((zC _ _ _).rw.ld zK (k:=3) rfl:zB Pg s3 3 ⟨(σ.y+2),3,none⟩=some (iV aX)) ((zC _ _ _).row.rw.ld zK (k:=0) rfl:zB Pg s3 3 ⟨(σ.y+1),0,none⟩=some (iV aA)) (zEE u1) nx))
theorem yLA (nx:Q (.bool false) (((σ.row (wkc ak ah ac ad ag aa ab ar au am) 6).row (zE aA aM ax ay aC) 5).row (zP aW bh aZ aX) 4)) (u1:aX=aA:=by omega):zI Pg 66 [.agg ⟨wkc ak ah ac ad ag aa ab ar au am⟩,iV x1,.agg ⟨zE aA aM ax ay aC⟩,.agg ⟨zP aW bh aZ aX⟩] σ Q :=
 let s1:=σ.row (wkc ak ah ac ad ag aa ab ar au am) 6;let s2:=s1.row (zE aA aM ax ay aC) 5;let s3:=s2.row (zP aW bh aZ aX) 4;zF [.g,.g,.g,.g,.g,.l (iV aX),.g,.l (iV aA),.b false,.g] (kd (an3 ((zC _ _ _).rw.ld zK (k:=3) rfl:zB Pg s3 3 ⟨(σ.y+2),3,none⟩=some (iV aX)) ((zC _ _ _).row.rw.ld zK (k:=0) rfl:zB Pg s3 3 ⟨(σ.y+1),0,none⟩=some (iV aA)) (uF u1) nx))
theorem yLE (nx:Q (.bool true) (((σ.row (wkc ak ah ac ad ag aa ab ar au am) 6).row (zE aA aM ax ay aC) 5).row (zP aW bh aZ aX) 4)) (u1:aX=aA:=by omega):zI Pg 67 [.agg ⟨wkc ak ah ac ad ag aa ab ar au am⟩,iV x1,.agg ⟨zE aA aM ax ay aC⟩,.agg ⟨zP aW bh aZ aX⟩] σ Q :=
 let s1:=σ.row (wkc ak ah ac ad ag aa ab ar au am) 6;let s2:=s1.row (zE aA aM ax ay aC) 5;let s3:=s2.row (zP aW bh aZ aX) 4;zF [.g,.g,.g,.g,.g,.l (iV aX),.g,.l (iV aA),.b true,.g,.g,.g] (kd (an3 ((zC _ _ _).rw.ld zK (k:=3) rfl:zB Pg s3 3 ⟨(σ.y+2),3,none⟩=some (iV aX)) ((zC _ _ _).row.rw.ld zK (k:=0) rfl:zB Pg s3 3 ⟨(σ.y+1),0,none⟩=some (iV aA)) (wJ u1) nx))
theorem yLD (nx:Q (.bool true) (((σ.row (wkc ak ah ac ad ag aa ab ar au am) 6).row (zE aA aM ax ay aC) 5).row (zP aW bh aZ aX) 4)) (u1:¬ aX=aA:=by omega) (u2:I6 (aA*1440):=by omega) (u3:I6 ((aA*1440)+aM):=by omega) (u4:I6 (((aA*1440)+aM)-aW):=by omega) (u5:ar≤(((aA*1440)+aM)-aW):=by omega):zI Pg 67 [.agg ⟨wkc ak ah ac ad ag aa ab ar au am⟩,iV x1,.agg ⟨zE aA aM ax ay aC⟩,.agg ⟨zP aW bh aZ aX⟩] σ Q :=
 let s1:=σ.row (wkc ak ah ac ad ag aa ab ar au am) 6;let s2:=s1.row (zE aA aM ax ay aC) 5;let s3:=s2.row (zP aW bh aZ aX) 4;let s4:=aA*1440;let s5:=σ.y+1;zF [.g,.g,.g,.g,.g,.l (iV aX),.g,.l (iV aA),.b false,.g,.g,.l (iV aA),.n s4,.g,.l (iV aM),.n (s4+aM),.g,.l (iV aW),.n ((s4+aM)-aW),.g,.l (iV ar),.b true,.g,.g] (kd (an5 ((zC _ _ _).rw.ld zK (k:=3) rfl:zB Pg s3 3 ⟨(σ.y+2),3,none⟩=some (iV aX)) ((zC _ _ _).row.rw.ld zK (k:=0) rfl:zB Pg s3 3 ⟨s5,0,none⟩=some (iV aA)) (xB u1) ((zC _ _ _).row.rw.ld zK (k:=0) rfl:zB Pg s3 3 ⟨s5,0,none⟩=some (iV aA)) (w64 u2) (an6 ((zC _ _ _).row.rw.ld zK (k:=1) rfl:zB Pg s3 3 ⟨s5,1,none⟩=some (iV aM)) (w64 u3) ((zC _ _ _).rw.ld zK (k:=0) rfl:zB Pg s3 3 ⟨(σ.y+2),0,none⟩=some (iV aW)) (w64 u4) ((zC _ _ _).row.row.rw.ld zK (k:=3) rfl:zB Pg s3 3 ⟨σ.y,3,none⟩=some (iV ar)) (zX u5) nx)))
theorem yLC (nx:Q (.bool false) (((σ.row (wkc ak ah ac ad ag aa ab ar au am) 6).row (zE aA aM ax ay aC) 5).row (zP aW bh aZ aX) 4)) (u1:¬ aX=aA:=by omega) (u2:I6 (aA*1440):=by omega) (u3:I6 ((aA*1440)+aM):=by omega) (u4:I6 (((aA*1440)+aM)-aW):=by omega) (u5:¬ ar≤(((aA*1440)+aM)-aW):=by omega):zI Pg 67 [.agg ⟨wkc ak ah ac ad ag aa ab ar au am⟩,iV x1,.agg ⟨zE aA aM ax ay aC⟩,.agg ⟨zP aW bh aZ aX⟩] σ Q :=
 let s1:=σ.row (wkc ak ah ac ad ag aa ab ar au am) 6;let s2:=s1.row (zE aA aM ax ay aC) 5;let s3:=s2.row (zP aW bh aZ aX) 4;let s4:=aA*1440;let s5:=σ.y+1;zF [.g,.g,.g,.g,.g,.l (iV aX),.g,.l (iV aA),.b false,.g,.g,.l (iV aA),.n s4,.g,.l (iV aM),.n (s4+aM),.g,.l (iV aW),.n ((s4+aM)-aW),.g,.l (iV ar),.b false,.g,.g] (kd (an5 ((zC _ _ _).rw.ld zK (k:=3) rfl:zB Pg s3 3 ⟨(σ.y+2),3,none⟩=some (iV aX)) ((zC _ _ _).row.rw.ld zK (k:=0) rfl:zB Pg s3 3 ⟨s5,0,none⟩=some (iV aA)) (xB u1) ((zC _ _ _).row.rw.ld zK (k:=0) rfl:zB Pg s3 3 ⟨s5,0,none⟩=some (iV aA)) (w64 u2) (an6 ((zC _ _ _).row.rw.ld zK (k:=1) rfl:zB Pg s3 3 ⟨s5,1,none⟩=some (iV aM)) (w64 u3) ((zC _ _ _).rw.ld zK (k:=0) rfl:zB Pg s3 3 ⟨(σ.y+2),0,none⟩=some (iV aW)) (w64 u4) ((zC _ _ _).row.row.rw.ld zK (k:=3) rfl:zB Pg s3 3 ⟨σ.y,3,none⟩=some (iV ar)) (yB u5) nx)))
theorem yTB (nx:Q (.bool true) (((σ.row (wkc ak ah ac ad ag aa ab ar au am) 6).row (zE aA aM ax ay aC) 5).row (zP aW bh aZ aX) 4)) (u1:aX=aA:=by omega):zI Pg 68 [.agg ⟨wkc ak ah ac ad ag aa ab ar au am⟩,iV x1,.agg ⟨zE aA aM ax ay aC⟩,.agg ⟨zP aW bh aZ aX⟩] σ Q :=
 let s1:=σ.row (wkc ak ah ac ad ag aa ab ar au am) 6;let s2:=s1.row (zE aA aM ax ay aC) 5;let s3:=s2.row (zP aW bh aZ aX) 4;zF [.g,.g,.g,.g,.g,.l (iV aX),.g,.l (iV aA),.b true,.g,.g,.g] (kd (an5 ((zC _ _ _).rw.ld zK (k:=3) rfl:zB Pg s3 3 ⟨(σ.y+2),3,none⟩=some (iV aX)) ((zC _ _ _).row.rw.ld zK (k:=0) rfl:zB Pg s3 3 ⟨(σ.y+1),0,none⟩=some (iV aA)) (wJ u1) ((zR (yG (nlt σ.y 2 3 rfl)) zV):yA s3.y [.pointer (some ⟨(σ.y+2),3,none⟩)]) ((zR (yG (nlt σ.y 1 3 rfl)) zV):yA s3.y [.pointer (some ⟨(σ.y+1),0,none⟩)]) nx))
theorem yTA (h1:zD Pg 48 [.agg ⟨zP aW bh aZ aX⟩,.agg ⟨zE aA aM ax ay aC⟩,iV aM] (((σ.row (wkc ak ah ac ad ag aa ab ar au am) 6).row (zE aA aM ax ay aC) 5).row (zP aW bh aZ aX) 4) (.agg ⟨zP n1 n2 n3 n4⟩) (((σ.row (wkc ak ah ac ad ag aa ab ar au am) 6).row (zE aA aM ax ay aC) 5).row (zP aW bh aZ aX) 4)) (nx:Q (.bool true) (((σ.row (wkc ak ah ac ad ag aa ab ar au am) 6).row (zE aA aM ax ay aC) 5).row (zP aW bh aZ aX) 4)) (u1:¬ aX=aA:=by omega) (u2:n2≤au:=by omega):zI Pg 68 [.agg ⟨wkc ak ah ac ad ag aa ab ar au am⟩,iV x1,.agg ⟨zE aA aM ax ay aC⟩,.agg ⟨zP aW bh aZ aX⟩] σ Q :=
 let s1:=σ.row (wkc ak ah ac ad ag aa ab ar au am) 6;let s2:=s1.row (zE aA aM ax ay aC) 5;let s3:=s2.row (zP aW bh aZ aX) 4;let s4:=σ.y+1;let s5:=σ.y+2;zF [.g,.g,.g,.g,.g,.l (iV aX),.g,.l (iV aA),.b false,.g,.l (.agg ⟨zP aW bh aZ aX⟩),.l (.agg ⟨zE aA aM ax ay aC⟩),.g,.l (iV aM),.c (.agg ⟨zP n1 n2 n3 n4⟩) s3,.g,.g,.l (iV au),.b true,.g,.g] (kd (an6 ((zC _ _ _).rw.ld zK (k:=3) rfl:zB Pg s3 3 ⟨s5,3,none⟩=some (iV aX)) ((zC _ _ _).row.rw.ld zK (k:=0) rfl:zB Pg s3 3 ⟨s4,0,none⟩=some (iV aA)) (xB u1) ((zC _ _ _).rw.ldN zCG xU (k:=0) rfl rfl (nle rfl):zB Pg s3 87 ⟨s5,0,none⟩=some (.agg ⟨zP aW bh aZ aX⟩)) ((zC _ _ _).row.rw.ldN zQF uT (k:=0) rfl rfl (nle rfl):zB Pg s3 69 ⟨s4,0,none⟩=some (.agg ⟨zE aA aM ax ay aC⟩)) ((zC _ _ _).row.rw.ld zK (k:=1) rfl:zB Pg s3 3 ⟨s4,1,none⟩=some (iV aM)) (an6 h1 ((zC _ _ _).row.row.rw.ld zK (k:=4) rfl:zB Pg s3 3 ⟨σ.y,4,none⟩=some (iV au)) (zX u2) ((zR (yG (nlt σ.y 2 3 rfl)) zV):yA s3.y [.pointer (some ⟨s5,3,none⟩)]) ((zR (yG (nlt σ.y 1 3 rfl)) zV):yA s3.y [.pointer (some ⟨s4,0,none⟩)]) ((zR (yG (nlt σ.y 2 3 rfl)) zV):yA s3.y [.pointer (some ⟨s5,0,none⟩)]) (an6 ((zR (yG (nlt σ.y 1 3 rfl)) zV):yA s3.y [.pointer (some ⟨s4,0,none⟩)]) ((zR (yG (nlt σ.y 1 3 rfl)) zV):yA s3.y [.pointer (some ⟨s4,1,none⟩)]) ((zR (zAJ rfl) (zR (zAJ rfl) (zR (zAJ rfl) zV))):yA s3.y [.agg ⟨zP aW bh aZ aX⟩,.agg ⟨zE aA aM ax ay aC⟩,iV aM]) ((zR (yG (nlt σ.y 0 3 rfl)) zV):yA s3.y [.pointer (some ⟨σ.y,4,none⟩)]) (⟨⟨(nlt σ.y 0 3 rfl),rfl⟩,((zC _ _ _).row.row.rw.ld zK (k:=4) rfl)⟩:(((⟨σ.y,4,none⟩:Addr).block<s3.y∧yS RD (iV au)=true)∧zB Pg s3 3 ⟨σ.y,4,none⟩=some (iV au))) (⟨⟨(nlt σ.y 0 3 rfl),rfl⟩,((zC _ _ _).row.row.rw.ld zK (k:=4) rfl)⟩:(((⟨σ.y,4,none⟩:Addr).block<s3.y∧yS RD (iV au)=true)∧zB Pg s3 3 ⟨σ.y,4,none⟩=some (iV au))) nx))))
theorem ySZ (h1:zD Pg 48 [.agg ⟨zP aW bh aZ aX⟩,.agg ⟨zE aA aM ax ay aC⟩,iV aM] (((σ.row (wkc ak ah ac ad ag aa ab ar au am) 6).row (zE aA aM ax ay aC) 5).row (zP aW bh aZ aX) 4) (.agg ⟨zP n1 n2 n3 n4⟩) (((σ.row (wkc ak ah ac ad ag aa ab ar au am) 6).row (zE aA aM ax ay aC) 5).row (zP aW bh aZ aX) 4)) (nx:Q (.bool false) (((σ.row (wkc ak ah ac ad ag aa ab ar au am) 6).row (zE aA aM ax ay aC) 5).row (zP aW bh aZ aX) 4)) (u1:¬ aX=aA:=by omega) (u2:¬ n2≤au:=by omega):zI Pg 68 [.agg ⟨wkc ak ah ac ad ag aa ab ar au am⟩,iV x1,.agg ⟨zE aA aM ax ay aC⟩,.agg ⟨zP aW bh aZ aX⟩] σ Q :=
 let s1:=σ.row (wkc ak ah ac ad ag aa ab ar au am) 6;let s2:=s1.row (zE aA aM ax ay aC) 5;let s3:=s2.row (zP aW bh aZ aX) 4;let s4:=σ.y+1;let s5:=σ.y+2;zF [.g,.g,.g,.g,.g,.l (iV aX),.g,.l (iV aA),.b false,.g,.l (.agg ⟨zP aW bh aZ aX⟩),.l (.agg ⟨zE aA aM ax ay aC⟩),.g,.l (iV aM),.c (.agg ⟨zP n1 n2 n3 n4⟩) s3,.g,.g,.l (iV au),.b false,.g,.g] (kd (an6 ((zC _ _ _).rw.ld zK (k:=3) rfl:zB Pg s3 3 ⟨s5,3,none⟩=some (iV aX)) ((zC _ _ _).row.rw.ld zK (k:=0) rfl:zB Pg s3 3 ⟨s4,0,none⟩=some (iV aA)) (xB u1) ((zC _ _ _).rw.ldN zCG xU (k:=0) rfl rfl (nle rfl):zB Pg s3 87 ⟨s5,0,none⟩=some (.agg ⟨zP aW bh aZ aX⟩)) ((zC _ _ _).row.rw.ldN zQF uT (k:=0) rfl rfl (nle rfl):zB Pg s3 69 ⟨s4,0,none⟩=some (.agg ⟨zE aA aM ax ay aC⟩)) ((zC _ _ _).row.rw.ld zK (k:=1) rfl:zB Pg s3 3 ⟨s4,1,none⟩=some (iV aM)) (an6 h1 ((zC _ _ _).row.row.rw.ld zK (k:=4) rfl:zB Pg s3 3 ⟨σ.y,4,none⟩=some (iV au)) (yB u2) ((zR (yG (nlt σ.y 2 3 rfl)) zV):yA s3.y [.pointer (some ⟨s5,3,none⟩)]) ((zR (yG (nlt σ.y 1 3 rfl)) zV):yA s3.y [.pointer (some ⟨s4,0,none⟩)]) ((zR (yG (nlt σ.y 2 3 rfl)) zV):yA s3.y [.pointer (some ⟨s5,0,none⟩)]) (an6 ((zR (yG (nlt σ.y 1 3 rfl)) zV):yA s3.y [.pointer (some ⟨s4,0,none⟩)]) ((zR (yG (nlt σ.y 1 3 rfl)) zV):yA s3.y [.pointer (some ⟨s4,1,none⟩)]) ((zR (zAJ rfl) (zR (zAJ rfl) (zR (zAJ rfl) zV))):yA s3.y [.agg ⟨zP aW bh aZ aX⟩,.agg ⟨zE aA aM ax ay aC⟩,iV aM]) ((zR (yG (nlt σ.y 0 3 rfl)) zV):yA s3.y [.pointer (some ⟨σ.y,4,none⟩)]) (⟨⟨(nlt σ.y 0 3 rfl),rfl⟩,((zC _ _ _).row.row.rw.ld zK (k:=4) rfl)⟩:(((⟨σ.y,4,none⟩:Addr).block<s3.y∧yS RD (iV au)=true)∧zB Pg s3 3 ⟨σ.y,4,none⟩=some (iV au))) (⟨⟨(nlt σ.y 0 3 rfl),rfl⟩,((zC _ _ _).row.row.rw.ld zK (k:=4) rfl)⟩:(((⟨σ.y,4,none⟩:Addr).block<s3.y∧yS RD (iV au)=true)∧zB Pg s3 3 ⟨σ.y,4,none⟩=some (iV au))) nx))))
theorem yXO (nx:Q (.agg ⟨zP aW bh (aZ+(dy-aM)) aX⟩) (((((σ.row (zP aW bh aZ aX) 4).row (zE aA aM ax ay aC) 5).row (zP 0 0 0 0) 4).own σ.y (zP aW bh (aZ+(dy-aM)) aX) 4).own (σ.y+2) (zP aW bh (aZ+(dy-aM)) aX) 4)) (u1:I6 (dy-aM):=by omega) (u2:I6 (aZ+(dy-aM)):=by omega) (u3:aX=aA:=by omega):zI Pg 48 [.agg ⟨zP aW bh aZ aX⟩,.agg ⟨zE aA aM ax ay aC⟩,iV dy] σ Q :=
 let s1:=σ.row (zP aW bh aZ aX) 4;let s2:=s1.row (zE aA aM ax ay aC) 5;let s3:=s2.row (zP 0 0 0 0) 4;let s6:=aZ+(dy-aM);let s4:=s3.own σ.y (zP aW bh s6 aX) 4;let s5:=s4.own (σ.y+2) (zP aW bh s6 aX) 4;zF [.g,.g,.g,.g,.l (iV aZ),.g,.g,.l (iV aM),.n (dy-aM),.n s6,.g,.e undef s4,.g,.l (iV aX),.g,.l (iV aA),.b true,.l (.agg ⟨zP aW bh s6 aX⟩),.e undef s5,.l (.agg ⟨zP aW bh s6 aX⟩)] (kd (an5 ((zC _ _ _).row.row.rw.ld zK (k:=2) rfl:zB Pg s3 3 ⟨σ.y,2,none⟩=some (iV aZ)) ((zC _ _ _).row.rw.ld zK (k:=1) rfl:zB Pg s3 3 ⟨(σ.y+1),1,none⟩=some (iV aM)) (w64 u1) (w64 u2) ((zC _ _ _).row.row.store (vs:=[iV s6]) rfl zEZ rfl (nle rfl) rfl:zL Pg (evL [.pointer (some ⟨σ.y,2,none⟩),iV s6]) s3 (.store 3 (.tmp 0) (.tmp 1))=some (undef,s4)) (an6 ((zC _ _ _).row.row.put.rw.ld zK (k:=3) rfl:zB Pg s4 3 ⟨σ.y,3,none⟩=some (iV aX)) (((zC _ _ _).row.own (nne σ.y 1 0 rfl)).rw.ld zK (k:=0) rfl:zB Pg s4 3 ⟨(σ.y+1),0,none⟩=some (iV aA)) (wJ u3) ((zC _ _ _).row.row.put.rw.ldN zCG xU (k:=0) rfl rfl (nle rfl):zB Pg s4 87 ⟨σ.y,0,none⟩=some (.agg ⟨zP aW bh s6 aX⟩)) (((zC _ _ _).own (nne σ.y 2 0 rfl)).store (vs:=(zP aW bh s6 aX)) rfl xU rfl (nle rfl) rfl:zL Pg (evL [.pointer (some ⟨(σ.y+2),0,none⟩),.agg ⟨zP aW bh s6 aX⟩]) s4 (.store 87 (.tmp 0) (.tmp 1))=some (undef,s5)) (((zC _ _ _).own (nne σ.y 2 0 rfl)).put.rw.ldN zCG xU (k:=0) rfl rfl (nle rfl):zB Pg s5 87 ⟨(σ.y+2),0,none⟩=some (.agg ⟨zP aW bh s6 aX⟩)) nx)))
theorem yXN (nx:Q (.agg ⟨zP ((aA*1440)+dy) 1 (aZ+(dy-aM)) aA⟩) (((((((((σ.row (zP aW bh aZ aX) 4).row (zE aA aM ax ay aC) 5).row (zP 0 0 0 0) 4).own σ.y (zP aW bh (aZ+(dy-aM)) aX) 4).own σ.y (zP aW 0 (aZ+(dy-aM)) aX) 4).own σ.y (zP aW 1 (aZ+(dy-aM)) aX) 4).own σ.y (zP aW 1 (aZ+(dy-aM)) aA) 4).own σ.y (zP ((aA*1440)+dy) 1 (aZ+(dy-aM)) aA) 4).own (σ.y+2) (zP ((aA*1440)+dy) 1 (aZ+(dy-aM)) aA) 4)) (u1:I6 (dy-aM):=by omega) (u2:I6 (aZ+(dy-aM)):=by omega) (u3:¬ aX=aA:=by omega) (u4:I6 (aA-1):=by omega) (u5:¬ aX=(aA-1):=by omega) (u6:I6 (aA*1440):=by omega) (u7:I6 ((aA*1440)+dy):=by omega):zI Pg 48 [.agg ⟨zP aW bh aZ aX⟩,.agg ⟨zE aA aM ax ay aC⟩,iV dy] σ Q :=
 let s1:=σ.row (zP aW bh aZ aX) 4;let s2:=s1.row (zE aA aM ax ay aC) 5;let s3:=s2.row (zP 0 0 0 0) 4;let s10:=aZ+(dy-aM);let s4:=s3.own σ.y (zP aW bh s10 aX) 4;let s5:=s4.own σ.y (zP aW 0 s10 aX) 4;let s6:=s5.own σ.y (zP aW 1 s10 aX) 4;let s7:=s6.own σ.y (zP aW 1 s10 aA) 4;let s11:=(aA*1440)+dy;let s8:=s7.own σ.y (zP s11 1 s10 aA) 4;let s9:=s8.own (σ.y+2) (zP s11 1 s10 aA) 4;let s12:=σ.y+1;zF [.g,.g,.g,.g,.l (iV aZ),.g,.g,.l (iV aM),.n (dy-aM),.n s10,.g,.e undef s4,.g,.l (iV aX),.g,.l (iV aA),.b false,.g,.l (iV aX),.g,.l (iV aA),.n (aA-1),.b true,.g,.e undef s5,.g,.l (iV 0),.g,.g,.e undef s6,.g,.l (iV aA),.g,.e undef s7,.g,.l (iV aA),.n (aA*1440),.g,.n s11,.g,.e undef s8,.l (.agg ⟨zP s11 1 s10 aA⟩),.e undef s9,.l (.agg ⟨zP s11 1 s10 aA⟩)] (kd (an6 ((zC _ _ _).row.row.rw.ld zK (k:=2) rfl:zB Pg s3 3 ⟨σ.y,2,none⟩=some (iV aZ)) ((zC _ _ _).row.rw.ld zK (k:=1) rfl:zB Pg s3 3 ⟨s12,1,none⟩=some (iV aM)) (w64 u1) (w64 u2) ((zC _ _ _).row.row.store (vs:=[iV s10]) rfl zEZ rfl (nle rfl) rfl:zL Pg (evL [.pointer (some ⟨σ.y,2,none⟩),iV s10]) s3 (.store 3 (.tmp 0) (.tmp 1))=some (undef,s4)) ((zC _ _ _).row.row.put.rw.ld zK (k:=3) rfl:zB Pg s4 3 ⟨σ.y,3,none⟩=some (iV aX)) (an6 (((zC _ _ _).row.own (nne σ.y 1 0 rfl)).rw.ld zK (k:=0) rfl:zB Pg s4 3 ⟨s12,0,none⟩=some (iV aA)) (xB u3) ((zC _ _ _).row.row.put.rw.ld zK (k:=3) rfl:zB Pg s4 3 ⟨σ.y,3,none⟩=some (iV aX)) (((zC _ _ _).row.own (nne σ.y 1 0 rfl)).rw.ld zK (k:=0) rfl:zB Pg s4 3 ⟨s12,0,none⟩=some (iV aA)) (w64 u4) (zEE u5) (an6 ((zC _ _ _).row.row.put.store (vs:=[iV 0]) rfl zEZ rfl (nle rfl) rfl:zL Pg (evL [.pointer (some ⟨σ.y,1,none⟩),iV 0]) s4 (.store 3 (.tmp 0) (.tmp 1))=some (undef,s5)) ((zC _ _ _).row.row.put.put.rw.ld zK (k:=1) rfl:zB Pg s5 3 ⟨σ.y,1,none⟩=some (iV 0)) ((zC _ _ _).row.row.put.put.store (vs:=[iV 1]) rfl zEZ rfl (nle rfl) rfl:zL Pg (evL [.pointer (some ⟨σ.y,1,none⟩),iV 1]) s5 (.store 3 (.tmp 0) (.tmp 1))=some (undef,s6)) (((((zC _ _ _).row.own (nne σ.y 1 0 rfl)).own (nne σ.y 1 0 rfl)).own (nne σ.y 1 0 rfl)).rw.ld zK (k:=0) rfl:zB Pg s6 3 ⟨s12,0,none⟩=some (iV aA)) ((zC _ _ _).row.row.put.put.put.store (vs:=[iV aA]) rfl zEZ rfl (nle rfl) rfl:zL Pg (evL [.pointer (some ⟨σ.y,3,none⟩),iV aA]) s6 (.store 3 (.tmp 0) (.tmp 1))=some (undef,s7)) ((((((zC _ _ _).row.own (nne σ.y 1 0 rfl)).own (nne σ.y 1 0 rfl)).own (nne σ.y 1 0 rfl)).own (nne σ.y 1 0 rfl)).rw.ld zK (k:=0) rfl:zB Pg s7 3 ⟨s12,0,none⟩=some (iV aA)) (an6 (w64 u6) (w64 u7) ((zC _ _ _).row.row.put.put.put.put.store (vs:=[iV s11]) rfl zEZ rfl (nle rfl) rfl:zL Pg (evL [.pointer (some ⟨σ.y,0,none⟩),iV s11]) s7 (.store 3 (.tmp 0) (.tmp 1))=some (undef,s8)) ((zC _ _ _).row.row.put.put.put.put.put.rw.ldN zCG xU (k:=0) rfl rfl (nle rfl):zB Pg s8 87 ⟨σ.y,0,none⟩=some (.agg ⟨zP s11 1 s10 aA⟩)) (((((((zC _ _ _).own (nne σ.y 2 0 rfl)).own (nne σ.y 2 0 rfl)).own (nne σ.y 2 0 rfl)).own (nne σ.y 2 0 rfl)).own (nne σ.y 2 0 rfl)).store (vs:=(zP s11 1 s10 aA)) rfl xU rfl (nle rfl) rfl:zL Pg (evL [.pointer (some ⟨(σ.y+2),0,none⟩),.agg ⟨zP s11 1 s10 aA⟩]) s8 (.store 87 (.tmp 0) (.tmp 1))=some (undef,s9)) (((((((zC _ _ _).own (nne σ.y 2 0 rfl)).own (nne σ.y 2 0 rfl)).own (nne σ.y 2 0 rfl)).own (nne σ.y 2 0 rfl)).own (nne σ.y 2 0 rfl)).put.rw.ldN zCG xU (k:=0) rfl rfl (nle rfl):zB Pg s9 87 ⟨(σ.y+2),0,none⟩=some (.agg ⟨zP s11 1 s10 aA⟩)) nx)))))
theorem yXM (nx:Q (.agg ⟨zP ((aA*1440)+dy) (bh+1) (aZ+(dy-aM)) aA⟩) ((((((((σ.row (zP aW bh aZ aX) 4).row (zE aA aM ax ay aC) 5).row (zP 0 0 0 0) 4).own σ.y (zP aW bh (aZ+(dy-aM)) aX) 4).own σ.y (zP aW (bh+1) (aZ+(dy-aM)) aX) 4).own σ.y (zP aW (bh+1) (aZ+(dy-aM)) aA) 4).own σ.y (zP ((aA*1440)+dy) (bh+1) (aZ+(dy-aM)) aA) 4).own (σ.y+2) (zP ((aA*1440)+dy) (bh+1) (aZ+(dy-aM)) aA) 4)) (u1:I6 (dy-aM):=by omega) (u2:I6 (aZ+(dy-aM)):=by omega) (u3:¬ aX=aA:=by omega) (u4:I6 (aA-1):=by omega) (u5:aX=(aA-1):=by omega) (u6:I6 (bh+1):=by omega) (u7:I6 (aA*1440):=by omega) (u8:I6 ((aA*1440)+dy):=by omega):zI Pg 48 [.agg ⟨zP aW bh aZ aX⟩,.agg ⟨zE aA aM ax ay aC⟩,iV dy] σ Q :=
 let s1:=σ.row (zP aW bh aZ aX) 4;let s2:=s1.row (zE aA aM ax ay aC) 5;let s3:=s2.row (zP 0 0 0 0) 4;let s9:=aZ+(dy-aM);let s4:=s3.own σ.y (zP aW bh s9 aX) 4;let s10:=(aA*1440)+dy;let s11:=bh+1;let s5:=s4.own σ.y (zP aW s11 s9 aX) 4;let s6:=s5.own σ.y (zP aW s11 s9 aA) 4;let s7:=s6.own σ.y (zP s10 s11 s9 aA) 4;let s8:=s7.own (σ.y+2) (zP s10 s11 s9 aA) 4;let s12:=σ.y+1;zF [.g,.g,.g,.g,.l (iV aZ),.g,.g,.l (iV aM),.n (dy-aM),.n s9,.g,.e undef s4,.g,.l (iV aX),.g,.l (iV aA),.b false,.g,.l (iV aX),.g,.l (iV aA),.n (aA-1),.b false,.g,.l (iV bh),.n s11,.g,.e undef s5,.g,.l (iV aA),.g,.e undef s6,.g,.l (iV aA),.n (aA*1440),.g,.n s10,.g,.e undef s7,.l (.agg ⟨zP s10 s11 s9 aA⟩),.e undef s8,.l (.agg ⟨zP s10 s11 s9 aA⟩)] (kd (an6 ((zC _ _ _).row.row.rw.ld zK (k:=2) rfl:zB Pg s3 3 ⟨σ.y,2,none⟩=some (iV aZ)) ((zC _ _ _).row.rw.ld zK (k:=1) rfl:zB Pg s3 3 ⟨s12,1,none⟩=some (iV aM)) (w64 u1) (w64 u2) ((zC _ _ _).row.row.store (vs:=[iV s9]) rfl zEZ rfl (nle rfl) rfl:zL Pg (evL [.pointer (some ⟨σ.y,2,none⟩),iV s9]) s3 (.store 3 (.tmp 0) (.tmp 1))=some (undef,s4)) ((zC _ _ _).row.row.put.rw.ld zK (k:=3) rfl:zB Pg s4 3 ⟨σ.y,3,none⟩=some (iV aX)) (an6 (((zC _ _ _).row.own (nne σ.y 1 0 rfl)).rw.ld zK (k:=0) rfl:zB Pg s4 3 ⟨s12,0,none⟩=some (iV aA)) (xB u3) ((zC _ _ _).row.row.put.rw.ld zK (k:=3) rfl:zB Pg s4 3 ⟨σ.y,3,none⟩=some (iV aX)) (((zC _ _ _).row.own (nne σ.y 1 0 rfl)).rw.ld zK (k:=0) rfl:zB Pg s4 3 ⟨s12,0,none⟩=some (iV aA)) (w64 u4) (uF u5) (an6 ((zC _ _ _).row.row.put.rw.ld zK (k:=1) rfl:zB Pg s4 3 ⟨σ.y,1,none⟩=some (iV bh)) (w64 u6) ((zC _ _ _).row.row.put.store (vs:=[iV s11]) rfl zEZ rfl (nle rfl) rfl:zL Pg (evL [.pointer (some ⟨σ.y,1,none⟩),iV s11]) s4 (.store 3 (.tmp 0) (.tmp 1))=some (undef,s5)) ((((zC _ _ _).row.own (nne σ.y 1 0 rfl)).own (nne σ.y 1 0 rfl)).rw.ld zK (k:=0) rfl:zB Pg s5 3 ⟨s12,0,none⟩=some (iV aA)) ((zC _ _ _).row.row.put.put.store (vs:=[iV aA]) rfl zEZ rfl (nle rfl) rfl:zL Pg (evL [.pointer (some ⟨σ.y,3,none⟩),iV aA]) s5 (.store 3 (.tmp 0) (.tmp 1))=some (undef,s6)) (((((zC _ _ _).row.own (nne σ.y 1 0 rfl)).own (nne σ.y 1 0 rfl)).own (nne σ.y 1 0 rfl)).rw.ld zK (k:=0) rfl:zB Pg s6 3 ⟨s12,0,none⟩=some (iV aA)) (an6 (w64 u7) (w64 u8) ((zC _ _ _).row.row.put.put.put.store (vs:=[iV s10]) rfl zEZ rfl (nle rfl) rfl:zL Pg (evL [.pointer (some ⟨σ.y,0,none⟩),iV s10]) s6 (.store 3 (.tmp 0) (.tmp 1))=some (undef,s7)) ((zC _ _ _).row.row.put.put.put.put.rw.ldN zCG xU (k:=0) rfl rfl (nle rfl):zB Pg s7 87 ⟨σ.y,0,none⟩=some (.agg ⟨zP s10 s11 s9 aA⟩)) ((((((zC _ _ _).own (nne σ.y 2 0 rfl)).own (nne σ.y 2 0 rfl)).own (nne σ.y 2 0 rfl)).own (nne σ.y 2 0 rfl)).store (vs:=(zP s10 s11 s9 aA)) rfl xU rfl (nle rfl) rfl:zL Pg (evL [.pointer (some ⟨(σ.y+2),0,none⟩),.agg ⟨zP s10 s11 s9 aA⟩]) s7 (.store 87 (.tmp 0) (.tmp 1))=some (undef,s8)) ((((((zC _ _ _).own (nne σ.y 2 0 rfl)).own (nne σ.y 2 0 rfl)).own (nne σ.y 2 0 rfl)).own (nne σ.y 2 0 rfl)).put.rw.ldN zCG xU (k:=0) rfl rfl (nle rfl):zB Pg s8 87 ⟨(σ.y+2),0,none⟩=some (.agg ⟨zP s10 s11 s9 aA⟩)) nx)))))
noncomputable def yHN:Code:=(Code.part [1,1,0,1,0,0] (zO Pg 51))
def zGZ (vals:Option Addr) (bv bw:Nat) (aI:Int):List (Nat × Value):=[(3,iV 0),(6,.slice vals bv bw),(7,iV ((bv:Nat):Int)),(8,iV aI)]
def yVR (vals:Option Addr) (bv bw:Nat) (Q:Int→St→Prop):Alt:=⟨Int,.normal,fun t=>zGZ vals bv bw t,fun t=>[],fun t σ=>Q t σ⟩
def zUU (vals:Option Addr) (bv bw:Nat) (aJ:Int):List (Nat × Value):=[(2,iV aJ)]
def zKS (vals:Option Addr) (bv bw:Nat) (Q:Int→St→Prop):Alt:=⟨Int,.ret,fun t=>zUU vals bv bw t,fun t=>[],fun t σ=>Q t σ⟩
def zUV (vals:Option Addr) (bv bw:Nat):List (Nat × Value):=[(3,iV 0)]
def zKT (vals:Option Addr) (bv bw:Nat) (Q:St→Prop):Alt:=⟨Unit,(.exit 0),fun t=>zUV vals bv bw,fun t=>[],fun t σ=>Q σ⟩
def zMJ (vals:Option Addr) (bv bw:Nat) (aI:Int) (σ:St) (Nx:Int→St→Prop) (Qr:Int→St→Prop) (Q0:St→Prop):Prop:=yJ Pg (zS Pg) none yHN 18 (zGZ vals bv bw aI) [] [yVR vals bv bw Nx,zKS vals bv bw Qr,zKT vals bv bw Q0] σ
def yHO (vals:Option Addr) (bv bw:Nat) (aI:Int) (σ:St) (Qr:Int→St→Prop) (Q0:St→Prop):Prop:=yR Pg (zS Pg) none yHN 18 (zGZ vals bv bw aI) [] [zKS vals bv bw Qr,zKT vals bv bw Q0] σ
theorem yHM (hb:∀ k aI σ,Inv k aI σ→zMJ vals bv bw aI σ (NX1 Inv k) Qr Q0):∀ k aI σ,Inv k aI σ→yHO vals bv bw aI σ Qr Q0 :=
 yV (ai zAQ (ai (wA 0) trivial)) hb
theorem zOC (h1:zB Pg σ 3 (zH vals_a (Int.toNat aI*1))=some (iV nI)) (nx:Qr nI σ) (u1:aI<((bv:Nat):Int):=by omega) (u2:Ix aI bv:=by omega) (u3:¬ nI=0:=by omega):zMJ (some vals_a) bv bw aI σ Nx Qr Q0 :=
 kO 1 nI [.b true,.i,.l (iV nI),.g,.g,.g,.b true,.g,.g] (fun _ f=>(an4 (zJ u1) u2 h1 (zEE u3) f)) nx
theorem zOB (h1:zB Pg σ 3 (zH vals_a (Int.toNat aI*1))=some (iV nI)) (nx:Nx (aI+1) σ) (u1:aI<((bv:Nat):Int):=by omega) (u2:Ix aI bv:=by omega) (u3:nI=0:=by omega) (u4:I6 (aI+1):=by omega):zMJ (some vals_a) bv bw aI σ Nx Qr Q0 :=
 kO 0 (aI+1) [.b true,.i,.l (iV nI),.g,.g,.g,.b false,.n (aI+1),.g] (fun _ f=>(an5 (zJ u1) u2 h1 (uF u3) (w64 u4) f)) nx
theorem yVQ (nx:Q0 σ) (u1:¬ aI<((bv:Nat):Int):=by omega):zMJ vals bv bw aI σ Nx Qr Q0 :=
 kO 2 () [.b false] (fun _ f=>(ai (zM u1) f)) nx
def zUW (vals:Option Addr) (bv bw:Nat) (aJ:Int) (σ:St) (Q:Value→St→Prop):Prop:=∀ g:Nat→Value,∃ an,Hid (kAt Pg (zS Pg) none (zO Pg 51) [1,1,0,1,0] (kFn Pg 51 Q) .ret ⟨Fm 18 (ov (zUU vals bv bw aJ) g),[]⟩ σ an)
def zUX (vals:Option Addr) (bv bw:Nat) (σ:St) (Q:Value→St→Prop):Prop:=∀ g:Nat→Value,∃ an,Hid (kAt Pg (zS Pg) none (zO Pg 51) [1,1,0,1,0] (kFn Pg 51 Q) (.exit 0) ⟨Fm 18 (ov (zUV vals bv bw) g),[]⟩ σ an)
theorem xCB (hL:yHO vals bv bw 0 σ Pr P0) (kr:∀ i2_1' σ',Pr i2_1' σ'→zUW vals bv bw i2_1' σ' Q) (k0:∀ σ',P0 σ'→zUX vals bv bw σ' Q):zI Pg 51 [.slice vals bv bw] σ Q :=
 zF [.g,.g,.g,.g,.g,.lf 18 (zGZ vals bv bw 0) [zKS vals bv bw Pr,zKT vals bv bw P0]] (kd (ai (ai tt (ai (arf (zGZ vals bv bw 0)) hL)) (ai (kz1 kr) (ai (kz0 k0) trivial))))
theorem yHK (nx:Q (iV aJ) σ):zUW vals bv bw aJ σ Q :=
 sK [] nx
theorem yHL (nx:Q (iV 0) σ):zUX vals bv bw σ Q :=
 sK [.g,.g] nx
theorem xFV (h1:zD Pg 51 [.slice (some ⟨(σ.y+2),0,none⟩) 3 3] (((σ.row (rcd dm bY dB) 3).row (rcd dP dA dV) 3).row [iV (bY-dA),iV (dm-dP),iV (dB-dV)] 1) (iV n1) (((σ.row (rcd dm bY dB) 3).row (rcd dP dA dV) 3).row [iV (bY-dA),iV (dm-dP),iV (dB-dV)] 1)) (nx:Q (iV n1) (((σ.row (rcd dm bY dB) 3).row (rcd dP dA dV) 3).row [iV (bY-dA),iV (dm-dP),iV (dB-dV)] 1)) (u1:I6 (bY-dA):=by omega) (u2:I6 dm:=by omega) (u3:I6 dP:=by omega) (u4:I6 (dm-dP):=by omega) (u5:I6 (dB-dV):=by omega):zI Pg 50 [.agg ⟨rcd dm bY dB⟩,.agg ⟨rcd dP dA dV⟩] σ Q :=
 let s1:=σ.row (rcd dm bY dB) 3;let s2:=s1.row (rcd dP dA dV) 3;let s3:=bY-dA;let s4:=σ.y+1;let s5:=dm-dP;let s6:=dB-dV;zF [.g,.g,.g,.g,.l (iV bY),.g,.l (iV dA),.n s3,.g,.l (.int .u8 dm),.n dm,.g,.l (.int .u8 dP),.n dP,.n s5,.g,.l (iV dB),.g,.l (iV dV),.n s6,.g,.c (iV n1) (s2.row [iV s3,iV s5,iV s6] 1),.g] (kd (an6 ((zC _ _ _).row.rw.ld zK (k:=1) rfl:zB Pg s2 3 ⟨σ.y,1,none⟩=some (iV bY)) ((zC _ _ _).rw.ld zK (k:=1) rfl:zB Pg s2 3 ⟨s4,1,none⟩=some (iV dA)) (w64 u1) ((zC _ _ _).row.rw.ld yWP (k:=0) rfl:zB Pg s2 5 ⟨σ.y,0,none⟩=some (.int .u8 dm)) (w64 u2) ((zC _ _ _).rw.ld yWP (k:=0) rfl:zB Pg s2 5 ⟨s4,0,none⟩=some (.int .u8 dP)) (an6 (w64 u3) (w64 u4) ((zC _ _ _).row.rw.ld zK (k:=2) rfl:zB Pg s2 3 ⟨σ.y,2,none⟩=some (iV dB)) ((zC _ _ _).rw.ld zK (k:=2) rfl:zB Pg s2 3 ⟨s4,2,none⟩=some (iV dV)) (w64 u5) h1 nx)))
end
theorem zAD (xs : List Int) : ∀ (_ : IntKind), xS (xs.map yO) = xs.map yO := by
 intro _
 induction xs with
 | nil => rfl
 | cons x xs ih => simp only [xS, List.map_cons, List.flatMap_cons] at ih ⊢; rw [ih]; rfl
section
variable {σ : St}
theorem zKG {p : Option Addr} {l c : Nat} {xs : List Int} (h : yP σ p l xs) (hl : l ≤ 1073741824) :
  ∃ p' c' σ', zD Try.prog 10 [.slice p l c] σ (.slice p' l c') σ' ∧ New σ σ' ∧ yP σ' p' l xs ∧ ∀ b, AtP p' b → σ.y ≤ b := by
 have hc : (xS (xs.map yO)).all cellB = true := by rw [zAD xs .i64]; simp [List.all_eq_true]; intro a _; rfl
 have N1 : New σ.re (σ.re.row [] 1) := New.row _ _ _
 obtain ⟨p6, c6, s5, ap1, A6, O6, b6⟩ := Ax.append (P := Try.prog) (k := c) (n0 := σ.re.y) zDO (Ax.lit (len := 0) (zC σ.re [] 1) rfl ((yQ 0).2 vA) (Nat.le_refl _)) (SlV.le h ((le0 σ).trans N1.le)).1 (by omega) hc N1.nx
 rw [Nat.zero_add] at ap1 A6
 have N5 : New σ.re s5 := N1.of_only O6 (by rintro b ⟨a, e, rfl⟩; cases e; exact Nat.le_refl _)
 exact zI.newSl (yQL ap1 ⟨N5, p6, c6, rfl, Ax.slv (by simpa using A6) (by simpa using h.2.1) h.2.2, fun b hb => (A6.bd b hb).1⟩)
section
variable {w : Wk} {p q r t : Option Addr} {l m c d rl rc tl tc : Nat} {rs ts : List Int}
theorem zUP (h : WkP σ 69 61 w p l q m) (hl : l ≤ 1000) : ∃ p' c' σ', zD Try.prog 52 [.agg ⟨wkc w.M p l c q m d w.rest w.run w.j⟩] σ (.slice p' l c') σ' ∧ New σ σ' ∧ yP σ' p' l (zXZ w) ∧ ∀ b, AtP p' b → σ.y ≤ b := by
 have hn := h.len.1
 obtain ⟨σ1, hσ1⟩ : ∃ σ1, σ1 = σ.re.row (wkc w.M p l c q m d w.rest w.run w.j) 6 := ⟨_, rfl⟩
 have N1 : New σ.re σ1 := by rw [hσ1]; exact New.row _ _ _
 have L1 : Le σ σ1 := (le0 σ).trans N1.le
 refine zI.newSl (xFJ (yNC (Inv := fun k p' l' c' i τ => New σ1 τ ∧ ∃ j : Nat, i = j ∧ j + k = l ∧ l' = j ∧ Gr Try.prog τ σ1.y 3 1 p' l' c' (((zXZ w).take j).map yO))
  (Q0 := fun p' l' c' τ => New σ1 τ ∧ l' = l ∧ Gr Try.prog τ σ1.y 3 1 p' l' c' ((zXZ w).map yO)) ?_ l none 0 0 0 _ ⟨by rw [← hσ1]; exact New.refl _, 0, rfl, by omega, rfl, Gr.nil⟩) ?_)
 ·rintro k p' l' c' i τ ⟨hN, j, rfl, hk, rfl, hg⟩
  by_cases hj : l' < l
  ·obtain ⟨a, rfl, x, hx, lx⟩ := wU (SlV.le h.dty (L1.trans hN.le)) hj
   have hN2 : New τ ((τ.row (zE 0 0 0 0 0) 5).own τ.y (zE x.day x.on x.lo x.hi x.route) 5) := (New.row _ _ _).own (Nat.le_refl _)
   obtain ⟨q7, d7, τ', g1, g2, g3, _, _⟩ := xKT (yO x.hi) zDO hg hN hN2 (zDJ _) (by omega)
   have hx2 : (zXZ w)[l']? = some x.hi := by unfold zXZ; rw [List.getElem?_map, hx]; rfl
   refine xBS lx g1 ⟨k - 1, by omega, g3, l' + 1, by omega, by omega, rfl, ?_⟩ (by omega) (by omega) (by omega)
   rw [vI hx2, List.map_append]
   exact g2
  ·have : l' = l := by omega
   subst this
   refine xBR ⟨hN, rfl, ?_⟩ (by omega)
   rwa [List.take_of_length_le (by unfold zXZ; rw [List.length_map]; omega)] at hg
 ·rintro p' l' c' τ ⟨hN, rfl, hg⟩
  refine yNB ⟨N1.trans hN, p', c', rfl, hg.slv, fun b hb => ?_⟩
  have := (hg.bd hb).1
  have := N1.nx
  show σ.re.y ≤ b
  omega
theorem yRQ (h : WkP σ 69 61 w p l q m) (hr : yP σ r rl rs) (hl : rl ≤ 1073741824) (hm : m ≤ 1073741824) : zD Try.prog 26 [.agg ⟨wkc w.M p l c q m d w.rest w.run w.j⟩, .slice r rl rc] σ (.bool (zLW w rs)) σ := by
 have hn := h.len.1
 have hmm := h.len.2
 have el := hr.len
 by_cases hh : rl = l
 rotate_left
 ·have : zLW w rs = false := by unfold zLW; rw [decide_eq_false (by omega), Bool.and_false]
  rw [this]
  exact (yJA ⟨rfl, Nat.le_refl _⟩ (by omega)).pure
 have L1 : Le σ (σ.re.row (wkc w.M p l c q m d w.rest w.run w.j) 6) := (le0 σ).trans (Le.row _ _ _)
 have hk0 := xC σ.re (wkc w.M p l c q m d w.rest w.run w.j) 6
 have ca := xIT (cap := rc) (g := 44) (gc := [.pointer (some ⟨σ.re.y, 0, none⟩)]) (f := fun x => inB x (-1) ((w.L.length : Int) - 1)) (SlV.le hr L1) hl (fun x _ τ hτ => by
  have ld : zB Try.prog τ.re 41 (zH ⟨σ.re.y, 0, none⟩ 2) = some (.slice q m d) := ((hk0.le hτ).re).load1 zAY rfl
  rw [hmm]
  exact (yJU ld zCQ ⟨rfl, Nat.le_refl _⟩ (by omega)).pure)
 have : zLW w rs = rs.all (fun x => inB x (-1) ((w.L.length : Int) - 1)) := by unfold zLW; rw [decide_eq_true (by omega), Bool.and_true]
 rw [this]
 exact (yJB ca ⟨rfl, Nat.le_refl _⟩ (by omega)).pure
end
end
section
open Go.Sort (swp)
def uI (d : Array Rec) : List Value := d.toList.flatMap uM
theorem zNA : ∀ l : List Rec, (l.flatMap uM).length = l.length * 3
 | [] => rfl
 | x :: l => by rw [List.flatMap_cons, List.length_append, zNA l]; simp; omega
theorem zUY (d : Array Rec) : (uI d).length = d.size * 3 := by unfold uI; rw [zNA]; simp
def Dt (σ : St) (b : Nat) (s : Option Nat) (d : Array Rec) : Prop := b < σ.y ∧ ∃ log nx, yC σ.heap b = some (.cells (uI d) 3 ((s.getD 0, d.size * 3) :: log) nx false)
section
variable {σ τ : St} {b : Nat} {s : Option Nat} {d d0 : Array Rec}
theorem Dt.le (h : Dt σ b s d) (k : Le σ τ) : Dt τ b s d := by
 obtain ⟨h1, log, nx, h2⟩ := h
 exact ⟨Nat.lt_of_lt_of_le h1 k.y, log, nx, by rw [k.get b h1]; exact h2⟩
theorem Dt.only {S : Nat → Prop} (h : Dt σ b s d) (k : Only S σ τ) (hs : ¬ S b) : Dt τ b s d := by
 obtain ⟨h1, log, nx, h2⟩ := h
 exact ⟨Nat.lt_of_lt_of_le h1 k.y, log, nx, by rw [k.get b h1 hs]; exact h2⟩
theorem zWV : ∀ (l : List Rec) (i : Nat) (x : Rec), l[i]? = some x → ((l.flatMap uM).drop (i * 3)).take 3 = uM x
 | [], i, x, h => by simp at h
 | y :: l, 0, x, h => by
  cases h
  rw [List.flatMap_cons, Nat.zero_mul, List.drop_zero]
  exact List.take_left' rfl
 | y :: l, i + 1, x, h => by
  rw [List.flatMap_cons, Nat.add_mul, Nat.one_mul, Nat.add_comm (i * 3), ← List.drop_drop, show List.drop 3 (uM y ++ l.flatMap uM) = l.flatMap uM from rfl]
  exact zWV l i x (by simpa using h)
theorem yEM : ∀ (l : List Rec) (i : Nat) (x : Rec), i < l.length → (l.flatMap uM).take (i * 3) ++ (uM x ++ (l.flatMap uM).drop (i * 3 + 3)) = (l.set i x).flatMap uM
 | [], i, x, h => by simp at h
 | y :: l, 0, x, h => by
  rw [List.set_cons_zero, List.flatMap_cons, List.flatMap_cons, Nat.zero_mul, List.take_zero, List.nil_append, Nat.zero_add, show List.drop 3 (uM y ++ l.flatMap uM) = l.flatMap uM from rfl]
 | y :: l, i + 1, x, h => by
  rw [List.set_cons_succ, List.flatMap_cons, List.flatMap_cons, ← yEM l i x (by simpa using h), show (i + 1) * 3 = 3 + i * 3 by omega, List.take_append, List.drop_append, show 3 + i * 3 + 3 - (uM y).length = i * 3 + 3 by simp; omega, show 3 + i * 3 - (uM y).length = i * 3 by simp]
  rw [List.take_of_length_le (by simp), List.drop_of_length_le (by simp), List.nil_append, List.append_assoc]
theorem xFF {i : Nat} (h : i < d.size) : d.toList[i]? = some d[i]! := by
 rw [Array.getElem?_toList, getElem!_pos d i h, Array.getElem?_eq_getElem h]
theorem Dt.ld (h : Dt σ b s d) {i : Int} (h0 : 0 ≤ i) (hi : i < (d.size : Int)) : zB Try.prog σ 47 (zH ⟨b, 0, s⟩ (Int.toNat i * 3)) = some (zCB d[i.toNat]!) := by
 obtain ⟨h1, log, nx, h2⟩ := h
 have hlt : i.toNat < d.size := by omega
 have hr : yH σ ⟨b, 0 + i.toNat * 3, s⟩ 3 = some (uM d[i.toNat]!) := by
  have hle : Nat.ble (0 + i.toNat * 3 + 3) (d.size * 3) = true := (zN _ _).2 (by omega)
  unfold yH
  simp only [h2, zU, wE, Nat.beq_refl, cond_true, hle]
  rw [Nat.zero_add]
  unfold uI
  rw [zWV _ _ _ (xFF hlt)]
 have hR : Row σ ⟨b, 0 + i.toNat * 3, s⟩ (uM d[i.toNat]!) := ⟨hr, h1⟩
 exact hR.loadN (P := Try.prog) (t := 47) (k := 0) xCU yAH rfl rfl (by simp)
theorem Dt.st (h : Dt σ b s d) {i : Int} (x : Rec) (h0 : 0 ≤ i) (hi : i < (d.size : Int)) :
  ∃ σ', zL Try.prog (evL [.pointer (some (zH ⟨b, 0, s⟩ (Int.toNat i * 3))), zCB x]) σ (.store 47 (.tmp 0) (.tmp 1)) = some (undef, σ') ∧ Dt σ' b s (d.setIfInBounds i.toNat x) ∧ Only (· = b) σ σ' ∧ σ'.low ≤ b := by
 obtain ⟨h1, log, nx, h2⟩ := h
 have hlt : i.toNat < d.size := by omega
 have hw : xK σ ⟨b, 0 + i.toNat * 3, s⟩ (uM x) = some (σ.put b (.cells (uI (d.setIfInBounds i.toNat x)) 3 [(s.getD 0, d.size * 3)] nx false)) := by
  have e6 : (uM x).length = 3 := rfl
  have hc : (Nat.beq (s.getD 0) (s.getD 0) && Nat.ble (0 + i.toNat * 3 + 3) (d.size * 3) && !false && (uM x).all cellB) = true := by
   rw [Nat.beq_refl, (zN _ _).2 (show 0 + i.toNat * 3 + 3 ≤ d.size * 3 by omega)]; rfl
  unfold xK
  simp only [h2, zU, e6, hc, cond_true, zBC, St.write_eq]
  have e : (uI d).take (0 + i.toNat * 3) ++ (uM x ++ (uI d).drop (0 + i.toNat * 3 + 3)) = uI (d.setIfInBounds i.toNat x) := by
   rw [Nat.zero_add]
   unfold uI
   rw [Array.toList_setIfInBounds]
   exact yEM d.toList i.toNat x (by simpa using hlt)
  rw [e]
 refine ⟨σ.put b (.cells (uI (d.setIfInBounds i.toNat x)) 3 [(s.getD 0, d.size * 3)] nx false), ?_, ⟨h1, [], nx, ?_⟩, Only.put (.inr rfl), by simp; omega⟩
 ·have e0 : zL Try.prog (evL [.pointer (some (zH ⟨b, 0, s⟩ (Int.toNat i * 3))), zCB x]) σ (.store 47 (.tmp 0) (.tmp 1)) = (xK σ ⟨b, 0 + i.toNat * 3, s⟩ (uM x)).map fun σ' => (undef, σ') := by
   have e1 : ∀ l : List Value, evL l (.tmp 0) = l.getD 0 undef := fun _ => rfl
   have e2 : ∀ l : List Value, evL l (.tmp 1) = l.getD 1 undef := fun _ => rfl
   have e3 : yN Try.prog 47 = some 3 := yAH
   unfold zL
   simp only [e1, e2, List.getD_cons_zero, List.getD_cons_succ, zBA, e3]
   rfl
  rw [e0, hw]; rfl
 ·rw [St.put_get, if_pos rfl, Array.size_setIfInBounds]
end
end
end Go.Proofs.Ytgfiniccfpfplaa
