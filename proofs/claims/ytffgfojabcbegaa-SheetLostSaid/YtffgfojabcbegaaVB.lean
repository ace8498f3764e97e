
import Derived.Test.YtffgfojabcbegaaUN
import Derived.Test.YtffgfojabcbegaaWB
import Derived.Test.YtffgfojabcbegaaXK
namespace Go.Proofs.Ytffgfojabcbegaa
open Go Go.Lay
open Try renaming prog → Pg
set_option linter.unusedVariables false
set_option linter.unusedSimpArgs false
set_option maxRecDepth 20000
section
variable {σ σ' : St}
theorem yAW {a : Addr} {vs : List Value} (h : xM σ a vs = some σ') : σ'.low ≤ σ.low := by
 unfold xM at h
 split at h
 ·split at h
  ·obtain ⟨_, h⟩ := xO h
   rw [zDA, St.write_eq] at h; simp at h; rw [← h]; simp; omega
  ·cases h
 ·cases h
theorem yJG {n : Nat} {base : Option Addr} {len cap cnt : Nat} {cs : List Value} {v : Value} (h : uR σ n base len cap cnt cs = some (v, σ')) : σ'.low ≤ σ.low := by
 unfold uR at h
 rcases zAA h with ⟨_, h⟩ | ⟨_, h⟩
 ·split at h
  ·obtain ⟨_, h⟩ := xO h
   simp at h; rw [← h.2]; exact Nat.le_refl _
  ·rcases zAA h with ⟨_, h⟩ | ⟨_, h⟩
   ·simp at h; rw [← h.2]; exact Nat.le_refl _
   ·simp only [Option.map_eq_some_iff] at h
    obtain ⟨σ₁, h1, h2⟩ := h
    simp at h2; rw [← h2.2]; exact yAW h1
 ·rcases zAA h with ⟨_, h⟩ | ⟨_, h⟩
  ·split at h
   ·obtain ⟨_, h⟩ := xO h
    rw [yO] at h; simp at h; rw [← h.2]; simp
   ·split at h
    ·rw [yO] at h; simp at h; rw [← h.2]; simp
    ·cases h
  ·split at h
   ·cases h
   ·unfold zJY at h
    split at h
    ·split at h
     ·obtain ⟨_, h⟩ := xO h
      rw [zDA, vN, vN, St.write_eq] at h; simp at h; rw [← h.2]; simp; omega
     ·cases h
    ·cases h
theorem yJF {st xt : TypeId} {s x v : Value} (h : zZ Pg st xt s x σ = some (v, σ')) : σ'.low ≤ σ.low := by
 unfold zZ at h
 split at h
 ·split at h
  ·split at h
   ·split at h
    ·obtain ⟨_, h⟩ := xO h; exact yJG h
    ·cases h
   ·cases h
  ·cases h
 ·cases h
theorem own_low {b n : Nat} {cs : List Value} : (σ.own b cs n).low ≤ σ.low := by show min _ _ ≤ _; omega
end
abbrev vY (F T : Rec) (p : Option Addr) (l c : Nat) : List Value := yQ F.m F.s F.t F.k F.a F.b T.m T.s T.t T.k T.a T.b p l c
structure StI (J : Nat → (Nat → Prop) → St → Prop) (L : List Rec) (Bs s : Nat) (τ : St) (F T : Rec) (B : List Rec) (p : Option Addr) (d : Nat) (Y : Nat → Prop) : Prop where
 j : J s Y τ
 ys : Y Bs
 yp : ∀ b, AtP p b → Y b
 ne : ¬ AtP p Bs
 own : Own τ Bs (vY F T p B.length d) 13
 gr : Gr Pg τ 0 79 6 p B.length d (B.map yP)
 fm : F ∈ L ∨ ∃ m, F = zAX m
 bm : ∀ x ∈ B, x ∈ L
 bl : B.length ≤ s
section
variable {σ : St} {J : Nat → (Nat → Prop) → St → Prop} {L : List Rec} {Bs s d lo : Nat} {F T r : Rec} {B : List Rec} {p : Option Addr} {Y : Nat → Prop} {X : St → Prop}
theorem yBB (hS : ∀ i Y Y' z z', J i Y z → Only Y z z' → z'.low ≤ z.low → (∀ y, Y' y → Y y ∨ (z.next ≤ y ∧ y < z'.next)) → J i Y' z') (hskip : ∀ i Y z r, L[i]? = some r → r.k ≠ 2 → J i Y z → J (i + 1) Y z)
  (h : StI J L Bs s σ F T B p d Y) (hr : L[s]? = some r) (hk : r.k ≠ 2) (hB : B.length ≤ 100000) :
  zD Pg σ 28 ⟨Bs, 12, none⟩ = some (.slice p B.length d) ∧ ∃ p2 c2 σ2 σ3 Y', zZ Pg 28 28 (.slice p B.length d) (.slice (some ⟨σ.next, 0, none⟩) 1 1) (σ.row (yH r) 6) = some (.slice p2 (B.length + 1) c2, σ2) ∧
   zL Pg (evL [.pointer (some ⟨Bs, 12, none⟩), .slice p2 (B.length + 1) c2]) σ2 (.store 28 (.tmp 0) (.tmp 1)) = some (undef, σ3) ∧ StI J L Bs (s + 1) σ3 F T (B ++ [r]) p2 c2 Y' := by
 obtain ⟨p2, c2, σ2, h1, h2, h3, h4⟩ := yAC (yP r) zWT h.gr (Le.refl _) (zLK r) (by omega) (Nat.zero_le _) (e := rfl) (hc := rfl)
 have hlt := h.own.lt
 have o1 : Own (σ.row (yH r) 6) Bs (vY F T p B.length d) 13 := h.own.le (New.row _ _ _).le
 have o2 := h3.own' o1 h.ne
 have st := o2.store (P := Pg) (k := 12) (t := 28) (v := .slice p2 (B.length + 1) c2) (vs := [.slice p2 (B.length + 1) c2]) (ds := vY F T p2 (B.length + 1) c2) rfl size28 rfl (by simp) rfl
 have hne2 : ¬ AtP p2 Bs := fun hb => (h4 _ hb).elim h.ne (by omega)
 have k1 : Only (fun y => y = Bs ∨ AtP p y) σ σ2 := ((Only.row _ _ _).trans' h3 fun b _ hb => .inl (.inr hb))
 have k2 : Only (fun y => y = Bs ∨ AtP p y) σ (σ2.own Bs (vY F T p2 (B.length + 1) c2) 13) := k1.trans' (Only.own (S := (· = Bs)) (.inr rfl)) fun b _ e => .inl (.inl e)
 have hl : (B ++ [r]).length = B.length + 1 := by simp
 refine ⟨by simpa [zJ] using h.own.rw.load1 (P := Pg) (t := 28) yAQ (k := 12) rfl, p2, c2, σ2, _, fun y => Y y ∨ AtP p2 y, h1, st, ⟨?_, .inl h.ys, fun b hb => .inr hb, hne2, ?_, ?_, h.fm, ?_, by rw [hl]; have := h.bl; omega⟩⟩
 ·refine hskip _ _ _ r hr hk (hS _ Y _ σ _ h.j (k2.mono fun b _ hb => ?_) ?_ ?_)
  ·rcases hb with rfl | hb
   ·exact h.ys
   ·exact h.yp _ hb
  ·have a1 := yJF h1
   have a2 : (σ2.own Bs (vY F T p2 (B.length + 1) c2) 13).low ≤ σ2.low := own_low
   simp only [St.row_low] at a1
   omega
  ·rintro y (hy | hy)
   ·exact .inl hy
   ·exact (h4 y hy).imp (h.yp y) fun e => ⟨e, (h2.bd hy).2⟩
 ·rw [hl]; exact o2.put
 ·rw [hl, List.map_append]
  exact h2.only (Only.own (S := (· = Bs)) (.inr rfl)) (fun b hb e => hne2 (e ▸ hb))
 ·intro x hx
  rcases List.mem_append.1 hx with hx | hx
  ·exact h.bm x hx
  ·rw [List.mem_singleton.1 hx]; exact List.mem_of_getElem? hr
theorem zPM (hS : ∀ i Y Y' z z', J i Y z → Only Y z z' → z'.low ≤ z.low → (∀ y, Y' y → Y y ∨ (z.next ≤ y ∧ y < z'.next)) → J i Y' z')
  (hJ : ∀ i Y z r F B p l d, L[i]? = some r → r.k = 2 → F.m = r.m → zAW F B = xX L r.m i → (F ∈ L ∨ ∃ m, F = zAX m) → (∀ x ∈ B, x ∈ L) → B.length ≤ i → l = B.length → xB z 79 p l B → J i Y z →
   (∃ z', zEE Pg lo [.agg ⟨vY F r p l d⟩] z (.bool true) z' ∧ J (i + 1) Y z' ∧ ∀ b cs n, Y b → Own z b cs n → Own z' b cs n) ∨ ∃ z', zEE Pg lo [.agg ⟨vY F r p l d⟩] z (.bool false) z' ∧ X z')
  (h : StI J L Bs s σ F T B p d Y) {R : Nat} (ho : Own σ R (yH r) 6) (hR : Y R) (hne : R ≠ Bs) (hr : L[s]? = some r) (hk : r.k = 2) (hF : F.m = r.m) (hc : zAW F B = xX L r.m s) :
  ∃ σ3, zL Pg (evL [.pointer (some ⟨Bs, 6, none⟩), yP r]) σ (.store 79 (.tmp 0) (.tmp 1)) = some (undef, σ3) ∧ zD Pg σ3 93 ⟨Bs, 0, none⟩ = some (.agg ⟨vY F r p B.length d⟩) ∧
   ((∃ z' σ5 Y', zEE Pg lo [.agg ⟨vY F r p B.length d⟩] σ3 (.bool true) z' ∧ zD Pg z' 79 ⟨R, 0, none⟩ = some (yP r) ∧ zL Pg (evL [.pointer (some ⟨Bs, 0, none⟩), .agg ⟨vY r (zAX 0) none 0 0⟩]) z' (.store 93 (.tmp 0) (.tmp 1)) = some (undef, σ5) ∧ StI J L Bs (s + 1) σ5 r (zAX 0) [] none 0 Y') ∨
    ∃ z', zEE Pg lo [.agg ⟨vY F r p B.length d⟩] σ3 (.bool false) z' ∧ X z') := by
 have hlt := h.own.lt
 have st := h.own.store (P := Pg) (k := 6) (t := 79) (v := yP r) (vs := yH r) (ds := vY F r p B.length d) rfl xC rfl (by simp) rfl
 have o3 : Own (σ.own Bs (vY F r p B.length d) 13) Bs (vY F r p B.length d) 13 := h.own.put
 have k3 : Only (· = Bs) σ (σ.own Bs (vY F r p B.length d) 13) := Only.own (.inr rfl)
 have r3 := k3.own' ho hne
 have j3 : J s Y (σ.own Bs (vY F r p B.length d) 13) := hS _ Y _ _ _ h.j (k3.mono fun b _ e => e ▸ h.ys) own_low (fun y hy => .inl hy)
 have g3 := h.gr.only k3 (fun b hb e => h.ne (e ▸ hb))
 refine ⟨_, st, by simpa [zJ] using o3.rw.loadN (P := Pg) (t := 93) agg93 zOA (k := 0) rfl rfl (by simp), ?_⟩
 rcases hJ s Y _ r F B p B.length d hr hk hF hc h.fm h.bm h.bl rfl g3.slv j3 with ⟨z', c1, j4, c3⟩ | ⟨z', c1, hx⟩
 ·left
  have o4 := c3 _ _ _ h.ys o3
  have r4 := c3 _ _ _ hR r3
  have st2 := o4.store (P := Pg) (k := 0) (t := 93) (v := .agg ⟨vY r (zAX 0) none 0 0⟩) (vs := vY r (zAX 0) none 0 0) (ds := vY r (zAX 0) none 0 0) rfl zOA rfl (by simp) rfl
  refine ⟨z', _, Y, c1, by simpa [zJ] using r4.rw.loadN (P := Pg) (t := 79) zDE xC (k := 0) rfl rfl (by simp), st2, ⟨?_, h.ys, fun b hb => (AtP.none hb).elim, AtP.none, o4.put, Gr.nil, .inl (List.mem_of_getElem? hr), by simp, by simp⟩⟩
  exact hS _ Y _ _ _ j4 ((Only.own (S := (· = Bs)) (.inr rfl)).mono fun b _ e => e ▸ h.ys) own_low (fun y hy => .inl hy)
 ·exact .inr ⟨z', c1, hx⟩
end
end Go.Proofs.Ytffgfojabcbegaa
