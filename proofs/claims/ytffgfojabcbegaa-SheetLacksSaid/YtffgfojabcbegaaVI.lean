
import Derived.Test.YtffgfojabcbegaaVH
namespace Go.Proofs.Ytffgfojabcbegaa
open Go Go.Lay
open Try renaming prog → Pg
set_option linter.unusedVariables false
set_option linter.unusedSimpArgs false
set_option maxRecDepth 20000
section
variable {σ : St}
theorem rLackOf_c {p : Option Addr} {l c i : Nat} {L : List Rec} {r : Rec} (h : yP σ 59 p l L) (hi : L[i]? = some r) (hl : l ≤ 100000) (hs : Srt L) (h1 : ∀ x ∈ L, 1 ≤ x.s) (hbd : ∀ x ∈ L, Bd x) : zE Pg 46 [.slice p l c, iV i] σ (lkV (zHT (xK L r.m i) r)) σ := by
 have hlen := h.len
 have hil : i < l := by have := (List.getElem?_eq_some_iff.1 hi).1; omega
 obtain ⟨a, rfl, _⟩ := zAN h hil
 have hab : a.block < σ.next := slv_lt h a rfl
 obtain ⟨σ1, hσ1⟩ : ∃ σ1, σ1 = σ.re.row (zC 0 0 0 0 0) 5 := ⟨_, rfl⟩
 have N1 : New σ.re σ1 := by rw [hσ1]; exact New.row _ _ _
 have n1 : σ1.next = σ.next + 1 := by rw [hσ1]; rfl
 have p1 : yP σ1 59 (some a) l L := (SlV.le h (le0 σ)).le N1.le
 have k67 := rLast_c (c := c) p1 hi hl
 have hr := hbd r (List.mem_of_getElem? hi)
 have hF := last_bd (m := r.m) hbd (i := i) (by omega)
 obtain ⟨F, hFe⟩ : ∃ F, F = wG L r.m i := ⟨_, rfl⟩
 have hFm : F.m = r.m := by rw [hFe]; exact lastTo_m (by omega)
 obtain ⟨c1, c2, c3⟩ := cnt_last (L := L) (m := r.m) (i := i) (by omega)
 have cr := cnt_ref (m := r.m) hs h1 (i := i) (by omega)
 rw [← hFe] at k67 hF c1 c2 c3 cr
 have eK : zHT (xK L r.m i) r = ⟨r.m, F.s, r.s, r.a - F.a - ((L.take i).foldl (zBT r.m F.s) (0, 0, 0)).1, r.b - F.b - ((L.take i).foldl (zBT r.m F.s) (0, 0, 0)).2.1⟩ := by
  unfold zHT
  rw [c1, c2, c3, cr]
 rw [eK]
 unfold Bd at hr hF
 obtain ⟨σ2, hσ2⟩ : ∃ σ2, σ2 = (σ1.row (yC ⟨0, 0, 0, 0, 0, 0⟩) 6).own (σ.next + 1) (yC F) 6 := ⟨_, rfl⟩
 have N2 : New σ1 σ2 := by rw [hσ2]; exact (New.row _ _ _).own (by omega)
 obtain ⟨σ3, hσ3⟩ : ∃ σ3, σ3 = σ2.row (zC 0 0 0 0 0) 5 := ⟨_, rfl⟩
 have N3 : New σ2 σ3 := by rw [hσ3]; exact New.row _ _ _
 have n2 : σ2.next = σ.next + 2 := by rw [hσ2]; show σ1.next + 1 = _; omega
 have n3 : σ3.next = σ.next + 3 := by rw [hσ3]; show σ2.next + 1 = _; omega
 have w1 : Own σ1 σ.next (zC 0 0 0 0 0) 5 := by rw [hσ1]; exact zD _ _ _
 have w2 : Own σ2 (σ.next + 1) (yC F) 6 := by
  rw [hσ2, ← n1]; exact (zD σ1 _ _).put
 have w3 : Own σ3 (σ.next + 2) (zC 0 0 0 0 0) 5 := by rw [hσ3, ← n2]; exact zD σ2 _ _
 have q2 : yP σ2 59 (some a) l L := SlV.le p1 N2.le
 have q3 : yP σ3 59 (some a) l L := SlV.le q2 N3.le
 have ld : ∀ (z : St), yP z 59 (some a) l L → ∀ (j : Nat) (x : Rec) (t' k : Nat) (v : Value), L[j]? = some x → (yC x)[k]? = some v → zBQ Pg t' = some false → zB Pg z t' (zH a (Int.toNat (j : Int) * 6 + k)) = some v := fun z hp j x t' k v hx hk ht => zEQ hp (by rw [List.getElem?_map, hx]; rfl) hk ht
 have g1 := (w2.le N3.le).rw.load1 (P := Pg) (t := 3) zO (k := 1) rfl
 have g4 := (w2.le N3.le).rw.load1 (P := Pg) (t := 3) zO (k := 4) rfl
 have g5 := (w2.le N3.le).rw.load1 (P := Pg) (t := 3) zO (k := 5) rfl
 let S : Nat → Int × Int × Int := fun s => (L.take s).foldl (zBT r.m F.s) (0, 0, 0)
 let I : Nat → St → Prop := fun s τ => New σ.re τ ∧ Own τ σ.next (zC 0 0 0 0 0) 5 ∧ Own τ (σ.next + 1) (yC F) 6 ∧ Own τ (σ.next + 2) (zC r.m F.s r.s (r.a - F.a - (S s).1) (r.b - F.b - (S s).2.1)) 5
 have I0 : I 0 (σ3.own (σ.next + 2) (zC r.m F.s r.s (r.a - F.a) (r.b - F.b)) 5) := by
  refine ⟨((N1.trans N2).trans N3).own (by show σ.next ≤ σ.next + 2; omega), ((w1.le N2.le).le N3.le).own (by omega), (w2.le N3.le).own (by omega), ?_⟩
  have e : zC r.m F.s r.s (r.a - F.a - (S 0).1) (r.b - F.b - (S 0).2.1) = zC r.m F.s r.s (r.a - F.a) (r.b - F.b) := by
   show zC _ _ _ (r.a - F.a - 0) (r.b - F.b - 0) = _
   rw [Int.sub_zero, Int.sub_zero]
  rw [e]; exact w3.put
 have run : rLackOf_L1 a l c (i : Int) σ.next (σ.next + 1) (σ.next + 2) 0 (σ3.own (σ.next + 2) (zC r.m F.s r.s (r.a - F.a) (r.b - F.b)) 5) (fun τ => I i τ) := by
  refine rLackOf_loop1 (Inv := fun k ix τ => ∃ s : Nat, ix = s ∧ s + k = i ∧ I s τ) ?_ i 0 _ ⟨0, rfl, by omega, I0⟩
  rintro k ix τ ⟨s, rfl, hk, hN, o1, o2, o3⟩
  by_cases hsi : s < i
  rotate_left
  ·have : s = i := by omega
   subst this
   exact rLackOf_s1e ⟨hN, o1, o2, o3⟩ (by omega)
  obtain ⟨x, hx⟩ : ∃ x, L[s]? = some x := ⟨L[s]'(by omega), by simp⟩
  have hxB := hbd x (List.mem_of_getElem? hx)
  unfold Bd at hxB
  obtain ⟨b1, b2, b3, b4, b5, b6⟩ := refS_bd (m := r.m) (fs := F.s) (L.take s) (0, 0, 0) (fun x hx => hbd x (List.mem_of_mem_take hx))
  have hts : (L.take s).length = s := by simp; omega
  rw [hts] at b2 b4
  have b1 : 0 ≤ (S s).1 := b1
  have b2 : (S s).1 ≤ 0 + (s : Int) := b2
  have b3 : 0 ≤ (S s).2.1 := b3
  have b4 : (S s).2.1 ≤ 0 + 10000000 * (s : Int) := b4
  have e : S (s + 1) = zBT r.m F.s (S s) x := by show (L.take (s + 1)).foldl _ _ = _; rw [xO hx, List.foldl_append]; rfl
  have hp : yP τ 59 (some a) l L := (SlV.le h (le0 σ)).le hN.le
  have l59 : zB Pg τ 59 (zH a (Int.toNat (s : Int) * 6)) = some (yM x) := hp.at rfl (by rw [List.getElem?_map, hx]; rfl)
  obtain ⟨τ1, hτ1⟩ : ∃ τ1, τ1 = (τ.row (yC ⟨0, 0, 0, 0, 0, 0⟩) 6).own τ.next (yC x) 6 := ⟨_, rfl⟩
  have M1 : New τ τ1 := by rw [hτ1]; exact (New.row _ _ _).own (Nat.le_refl _)
  have ox : Own τ1 τ.next (yC x) 6 := by rw [hτ1]; exact (zD _ _ _).put
  have hnx := o3.lt
  have M2 := hN.trans M1
  have u1 := o1.le M1.le
  have u2 := o2.le M1.le
  have u3 := o3.le M1.le
  have v0 := u3.rw.load1 (P := Pg) (t := 3) zO (k := 0) rfl
  have v1 := u2.rw.load1 (P := Pg) (t := 3) zO (k := 1) rfl
  by_cases hm : x.m = r.m
  rotate_left
  ·have e2 : S (s + 1) = S s := by rw [e]; exact if_neg (fun h => hm h.1)
   subst hτ1
   exact rLackOf_s1d l59 (by simpa [zH] using v0) ⟨k - 1, by omega, s + 1, by omega, by omega, M2, u1, u2, by rw [e2]; exact u3⟩ (by omega) ⟨by omega, by omega⟩ hm (by omega)
  by_cases hlt : F.s < x.s
  rotate_left
  ·have e2 : S (s + 1) = S s := by rw [e]; exact if_neg (fun h => hlt h.2)
   subst hτ1
   exact rLackOf_s1c l59 (by simpa [zH] using v0) (by simpa [zH] using v1) ⟨k - 1, by omega, s + 1, by omega, by omega, M2, u1, u2, by rw [e2]; exact u3⟩ (by omega) ⟨by omega, by omega⟩ hm hlt (by omega)
  by_cases h0 : x.k = 0
  ·have e2 : S (s + 1) = ((S s).1 + 1, (S s).2.1 + x.b, (S s).2.2 + 1) := by rw [e]; unfold zBT; rw [if_pos ⟨hm, hlt⟩, if_pos h0]
   have st1 := u3.store (P := Pg) (k := 3) (t := 3) (v := iV (r.a - F.a - (S s).1 - 1)) (vs := [iV (r.a - F.a - (S s).1 - 1)]) (ds := zC r.m F.s r.s (r.a - F.a - (S s).1 - 1) (r.b - F.b - (S s).2.1)) rfl size3 rfl (by simp) rfl
   have x3 := u3.put (ds := zC r.m F.s r.s (r.a - F.a - (S s).1 - 1) (r.b - F.b - (S s).2.1))
   have st2 := x3.store (P := Pg) (k := 4) (t := 3) (v := iV (r.b - F.b - (S s).2.1 - x.b)) (vs := [iV (r.b - F.b - (S s).2.1 - x.b)]) (ds := zC r.m F.s r.s (r.a - F.a - (S s).1 - 1) (r.b - F.b - (S s).2.1 - x.b)) rfl size3 rfl (by simp) rfl
   have y1 := u3.rw.load1 (P := Pg) (t := 3) zO (k := 3) rfl
   have y2 := x3.rw.load1 (P := Pg) (t := 3) zO (k := 4) rfl
   have y3 := (ox.own (ds := zC r.m F.s r.s (r.a - F.a - (S s).1 - 1) (r.b - F.b - (S s).2.1)) (m := 5) (c := σ.next + 2) (by omega)).rw.load1 (P := Pg) (t := 3) zO (k := 5) rfl
   subst hτ1
   refine rLackOf_s1a l59 (by simpa [zH] using v0) (by simpa [zH] using v1) (by simpa [zH] using y1) st1 (by simpa [zH] using y2) (by simpa [zH] using y3) st2 ⟨k - 1, by omega, s + 1, by omega, by omega, ?_, ?_, ?_, ?_⟩ (by omega) ⟨by omega, by omega⟩ hm hlt h0 (by omega) (by omega) (by omega)
   ·exact (M2.own (by show σ.next ≤ σ.next + 2; omega)).own (by show σ.next ≤ σ.next + 2; omega)
   ·exact (u1.own (by omega)).own (by omega)
   ·exact (u2.own (by omega)).own (by omega)
   ·rw [e2, ← Int.sub_sub, ← Int.sub_sub]; exact x3.put
  ·have e2 : S (s + 1) = ((S s).1, (S s).2.1, (S s).2.2 + 1) := by rw [e]; unfold zBT; rw [if_pos ⟨hm, hlt⟩, if_neg h0]
   subst hτ1
   exact rLackOf_s1b l59 (by simpa [zH] using v0) (by simpa [zH] using v1) ⟨k - 1, by omega, s + 1, by omega, by omega, M2, u1, u2, by rw [e2]; exact u3⟩ (by omega) ⟨by omega, by omega⟩ hm hlt h0 (by omega)
 have k0 : ∀ τ, I i τ → zJA a l c (i : Int) σ.next (σ.next + 1) (σ.next + 2) τ (fun v s => v = lkV ⟨r.m, F.s, r.s, r.a - F.a - (S i).1, r.b - F.b - (S i).2.1⟩ ∧ σ.next ≤ s.low) := by
  rintro τ ⟨hN, o1, o2, o3⟩
  have a1 := o3.rw.loadN (P := Pg) (t := 57) agg57 zDB (k := 0) (ds := zC r.m F.s r.s (r.a - F.a - (S i).1) (r.b - F.b - (S i).2.1)) rfl rfl (by simp)
  have st := o1.store (P := Pg) (k := 0) (t := 57) (v := .agg ⟨zC r.m F.s r.s (r.a - F.a - (S i).1) (r.b - F.b - (S i).2.1)⟩) (vs := zC r.m F.s r.s (r.a - F.a - (S i).1) (r.b - F.b - (S i).2.1)) (ds := zC r.m F.s r.s (r.a - F.a - (S i).1) (r.b - F.b - (S i).2.1)) rfl zDB rfl (by simp) rfl
  have a2 := (o1.put (ds := zC r.m F.s r.s (r.a - F.a - (S i).1) (r.b - F.b - (S i).2.1))).rw.loadN (P := Pg) (t := 57) agg57 zDB (k := 0) (ds := zC r.m F.s r.s (r.a - F.a - (S i).1) (r.b - F.b - (S i).2.1)) rfl rfl (by simp)
  exact rLackOf_t1x0a (by simpa [zH] using a1) st (by simpa [zH] using a2) ⟨rfl, (hN.own (Nat.le_refl σ.next)).lw⟩
 subst hσ3 hσ2 hσ1
 exact zM.pure (rLackOf_ra k67 (ld _ q2 i r 3 0 _ hi rfl zO) (ld _ q2 i r 3 1 _ hi rfl zO) (ld _ q2 i r 3 4 _ hi rfl zO) (ld _ q2 i r 3 5 _ hi rfl zO) (ld _ q3 i r 3 0 _ hi rfl zO) (by simpa [zH] using g1) (ld _ q3 i r 3 1 _ hi rfl zO) (ld _ q3 i r 3 4 _ hi rfl zO) (by simpa [zH] using g4) (ld _ q3 i r 3 5 _ hi rfl zO) (by simpa [zH] using g5) run k0 ⟨by omega, by omega⟩ (by omega) (by omega) hab)
end
end Go.Proofs.Ytffgfojabcbegaa
