
import Derived.Test.YtmdopblmkkameaaRF
import Derived.Test.YtmdopblmkkameaaSG
import Derived.Test.YtmdopblmkkameaaSF
import Derived.Test.YtmdopblmkkameaaSI
import Derived.Test.YtmdopblmkkameaaXR
namespace Go.Proofs.Ytmdopblmkkameaa
open Go Go.Lay
set_option linter.unusedVariables false
set_option linter.unusedSimpArgs false
set_option maxRecDepth 20000
section
variable {σ : St} {t : Tab} {pe pt : Option Addr} {le ce lt ct : Nat}
theorem cov_range {σ4 : St} {Ba Bb Bc Bt2 n0 : Nat} {buses : Int} {pa pb : Option Addr} {la ca lb cb : Nat} {a b : List Int} {a1 : Nat} {σ0 : St} (h : TabP σ0 pe le pt lt t) (hv : Valid t) (hlt : lt ≤ 100000) (ha : yU σ0 pa la a) (hb : yU σ0 pb lb b) (hla : la ≤ 100000) (hlb : lb ≤ 100000) (hn0 : n0 = σ0.next) (hL : Le σ0 σ4)
  (oa : Own σ4 a1 (yB t pe le ce pt lt ct) 4) (wt : Own σ4 Bt2 (yB t pe le ce pt lt ct) 4) (wa : Own σ4 Ba [.slice pa la ca] 1) (wb : Own σ4 Bb [.slice pb lb cb] 1) (wc : Own σ4 Bc [.bool true] 1) (hc0 : n0 ≤ Bc) (d1 : Ba ≠ Bc) (d2 : Bb ≠ Bc) (d3 : a1 ≠ Bc) (d4 : Bt2 ≠ Bc) (Pn P0 : St → Prop)
  (hPn : ∀ z, Le σ0 z → Own z Bt2 (yB t pe le ce pt lt ct) 4 → Own z Ba [.slice pa la ca] 1 → Own z Bb [.slice pb lb cb] 1 → Own z Bc [.bool true] 1 → covP t a b = true → yE z.heap σ4.next = some .defd → σ4.next < z.next → (∀ m, m ≤ n0 → m ≤ σ4.low → m ≤ z.low) → Pn z)
  (hP0 : ∀ z, Le σ0 z → Own z Bc [.bool false] 1 → covP t a b = false → yE z.heap σ4.next = some .defd → σ4.next < z.next → (∀ m, m ≤ n0 → m ≤ σ4.low → m ≤ z.low) → P0 z) :
  zIR buses Bt2 Ba Bb Bc 86 [.pointer (some ⟨a1, 0, none⟩)] σ4 Pn P0 := by
 have hnt : t.nt = lt := h.len
 let J : Nat → Nat → St → Prop := fun i k z => Le σ0 z ∧ Own z a1 (yB t pe le ce pt lt ct) 4 ∧ Own z Bt2 (yB t pe le ce pt lt ct) 4 ∧ Own z Ba [.slice pa la ca] 1 ∧ Own z Bb [.slice pb lb cb] 1 ∧ Own z Bc [.bool true] 1 ∧ (∀ i', i' < lt → ∀ k', k' < lt → (i' < i ∨ (i' = i ∧ k' < k)) → zFP t a b i' k' = true)
 have hno : ∀ i k, i < lt → k < lt → zFP t a b i k = false → covP t a b = false := fun i k hi hk hp => by
  cases hc : covP t a b with
  | false => rfl
  | true =>
   have h3 := List.all_eq_true.1 hc i (by rw [hnt]; simpa using hi)
   have h4 := List.all_eq_true.1 h3 k (by rw [hnt]; simpa using hk)
   rw [hp] at h4; cases h4
 refine pair_rangeE (pe := pe) (pt := pt) (le := le) (n0 := n0) (J := J) (X := fun z => Le σ0 z ∧ Own z Bc [.bool false] 1 ∧ covP t a b = false) (a1 := a1) (ce := ce) (ct := ct) hv hlt (fun g0 => by kernel_rfl) (by rw [hn0]; exact hL.next) ?_ ?_ ?_ ?_ ?_ ?_ ?_ ?_ ?_
 ·rintro i k z ⟨j1, j2, j3⟩
  exact ⟨j2.rw, h.le' j1⟩
 ·exact ⟨hL, oa, wt, wa, wb, wc, fun i' _ k' _ hh => by omega⟩
 ·rintro i k z z' ⟨j1, j2, j3, j4, j5, j6, j7⟩ hs
  exact ⟨⟨Nat.le_trans j1.next hs.next, fun y hy => (hs.old y (by omega)).trans (j1.get y hy)⟩, hs.own j2, hs.own j3, hs.own j4, hs.own j5, hs.own j6, j7⟩
 ·rintro i z hi ⟨j1, j2, j3, j4, j5, j6, j7⟩
  exact ⟨j1, j2, j3, j4, j5, j6, fun i' hi' k' hk' hh => j7 i' hi' k' hk' (by omega)⟩
 ·rintro i k z hi hk hm ⟨j1, j2, j3, j4, j5, j6, j7⟩
  refine ⟨j1, j2, j3, j4, j5, j6, fun i' hi' k' hk' hh => ?_⟩
  by_cases e : i' = i ∧ k' = k
  ·obtain ⟨rfl, rfl⟩ := e; unfold zFP; rw [hm]; rfl
  ·exact j7 i' hi' k' hk' (by omega)
 ·rintro i k z zz lo g0 db hi hk hm hl hzz ⟨j1, j2, j3, j4, j5, j6, j7⟩ hnz
  have c1 := contains_c (σ := zz) (c := ca) (v := (i : Int)) (SlV.le ha j1) hla
  have c2 := contains_c (σ := zz) (c := cb) (v := (k : Int)) (SlV.le hb j1) hlb
  have l1 : zB Try.prog zz 41 ⟨Ba, 0, none⟩ = some (.slice pa la ca) := j4.ldI (i := 0) zBU rfl
  have l2 : zB Try.prog zz 41 ⟨Bb, 0, none⟩ = some (.slice pb lb cb) := j5.ldI (i := 0) zBU rfl
  have more : zFP t a b i k = true → J i (k + 1) zz := fun hp => ⟨j1, j2, j3, j4, j5, j6, fun i' hi' k' hk' hh => by
   by_cases e : i' = i ∧ k' = k
   ·obtain ⟨rfl, rfl⟩ := e; exact hp
   ·exact j7 i' hi' k' hk' (by omega)⟩
  have eP : zFP t a b i k = (!xL t i k || decide ((i : Int) ∈ a) || decide ((k : Int) ∈ b)) := rfl
  cases hA : decide ((i : Int) ∈ a) with
  | true =>
   rw [hA] at c1
   exact .inl ⟨zz, vProveCover_y1a hl hzz l1 c1 rfl, more (by rw [eP, hA]; simp), fun _ => False, Only.refl _ _, fun y hy => hy.elim⟩
  | false =>
  rw [hA] at c1
  cases hB : decide ((k : Int) ∈ b) with
  | true =>
   rw [hB] at c2
   exact .inl ⟨zz, vProveCover_y1b hl hzz l1 c1 l2 c2 rfl, more (by rw [eP, hB]; simp), fun _ => False, Only.refl _ _, fun y hy => hy.elim⟩
  | false =>
  rw [hB] at c2
  have st := j6.store (P := Try.prog) (k := 0) (t := 4) (v := .bool false) (vs := [.bool false]) (ds := [.bool false]) rfl size4 rfl (by simp) rfl
  have kk : Only (· = Bc) zz (zz.own Bc [.bool false] 1) := Only.own (.inr rfl)
  exact .inr ⟨_, vProveCover_y1c hl hzz l1 c1 l2 c2 st rfl, ⟨⟨Nat.le_trans j1.next kk.next, fun y hy => (kk.get y (Nat.lt_of_lt_of_le hy j1.next) (by show y ≠ Bc; omega)).trans (j1.get y hy)⟩, j6.put, hno i k hi hk (by rw [eP, hm, hA, hB]; rfl)⟩, _, kk, fun y hy => by subst hy; exact ⟨hc0, fun _ => ⟨_, _, _, _, _, by decide, j6.get⟩⟩⟩
 ·rintro z z' ⟨x1, x2, x3⟩ hs
  exact ⟨⟨Nat.le_trans x1.next hs.next, fun y hy => (hs.old y (by omega)).trans (x1.get y hy)⟩, hs.own x2, x3⟩
 ·rintro z ⟨x1, x2, x3⟩ hd hlz hlow
  exact hP0 z x1 x2 x3 hd hlz hlow
 ·rintro z ⟨j1, j2, j3, j4, j5, j6, j7⟩ hd hlz hlow
  refine hPn z j1 j3 j4 j5 j6 (List.all_eq_true.2 fun i hi => List.all_eq_true.2 fun k hk => ?_) hd hlz hlow
  rw [hnt] at hi hk
  exact j7 i (by simpa using hi) k (by simpa using hk) (.inl (by simpa using hi))
end
end Go.Proofs.Ytmdopblmkkameaa
