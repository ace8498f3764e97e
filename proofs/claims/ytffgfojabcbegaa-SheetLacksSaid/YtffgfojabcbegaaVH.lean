
import Derived.Test.YtffgfojabcbegaaVG
namespace Go.Proofs.Ytffgfojabcbegaa
open Go Go.Lay
open Try renaming prog → Pg
set_option linter.unusedVariables false
set_option linter.unusedSimpArgs false
set_option maxRecDepth 20000
theorem refS_bd {m fs : Int} : ∀ (B : List Rec) (c : Int × Int × Int), (∀ x ∈ B, Bd x) → c.1 ≤ (B.foldl (zBT m fs) c).1 ∧ (B.foldl (zBT m fs) c).1 ≤ c.1 + B.length ∧ c.2.1 ≤ (B.foldl (zBT m fs) c).2.1 ∧ (B.foldl (zBT m fs) c).2.1 ≤ c.2.1 + 10000000 * (B.length : Int) ∧ c.2.2 ≤ (B.foldl (zBT m fs) c).2.2 ∧ (B.foldl (zBT m fs) c).2.2 ≤ c.2.2 + B.length
 | [], c, _ => by simp
 | r :: B, c, h => by
  have hr := h r (by simp)
  unfold Bd at hr
  obtain ⟨i1, i2, i3, i4, i5, i6⟩ := refS_bd (m := m) (fs := fs) B (zBT m fs c r) fun x hx => h x (by simp [hx])
  rw [List.foldl_cons]
  have hl : ((r :: B).length : Int) = (B.length : Int) + 1 := by simp
  rw [hl]
  generalize hg : List.foldl (zBT m fs) (zBT m fs c r) B = g at i1 i2 i3 i4 i5 i6 ⊢
  unfold zBT at i1 i2 i3 i4 i5 i6
  split at i1
  ·rename_i h1
   split at i1
   ·rename_i h0
    simp only [if_pos h1, if_pos h0] at i1 i2 i3 i4 i5 i6
    exact ⟨by omega, by omega, by omega, by omega, by omega, by omega⟩
   ·rename_i h0
    simp only [if_pos h1, if_neg h0] at i1 i2 i3 i4 i5 i6
    exact ⟨by omega, by omega, by omega, by omega, by omega, by omega⟩
  ·rename_i h1
   simp only [if_neg h1] at i1 i2 i3 i4 i5 i6
   exact ⟨by omega, by omega, by omega, by omega, by omega, by omega⟩
theorem last_bd {L : List Rec} {m : Int} (h : ∀ x ∈ L, Bd x) : ∀ {i : Nat}, i ≤ L.length → Bd (wG L m i)
 | 0, _ => bd_z
 | i + 1, hi => by
  have e : L[i]? = some (L[i]'(by omega)) := by simp
  rw [zHW e]
  split
  ·exact h _ (List.mem_of_getElem? e)
  ·exact last_bd h (by omega)
section
variable {σ : St}
theorem rLast_c {p : Option Addr} {l c i : Nat} {L : List Rec} {r : Rec} (h : yP σ 59 p l L) (hi : L[i]? = some r) (hl : l ≤ 100000) : zE Pg 67 [.slice p l c, iV i] σ (yM (wG L r.m i)) σ := by
 have hlen := h.len
 have hil : i < l := by have := (List.getElem?_eq_some_iff.1 hi).1; omega
 obtain ⟨τ, hτ⟩ : ∃ τ, τ = σ.re.row (yC ⟨0, 0, 0, 0, 0, 0⟩) 6 := ⟨_, rfl⟩
 have N : New σ.re τ := by rw [hτ]; exact New.row _ _ _
 have ow : Own τ σ.next (yC ⟨0, 0, 0, 0, 0, 0⟩) 6 := by rw [hτ]; exact zD _ _ _
 have hp : yP τ 59 p l L := (SlV.le h (le0 σ)).le N.le
 obtain ⟨a, rfl, _⟩ := zAN hp hil
 have ld : ∀ (j : Nat) (x : Rec) (t' k : Nat) (v : Value), L[j]? = some x → (yC x)[k]? = some v → zBQ Pg t' = some false → zB Pg τ t' (zH a (Int.toNat (j : Int) * 6 + k)) = some v := fun j x t' k v hx hk ht => zEQ hp (by rw [List.getElem?_map, hx]; rfl) hk ht
 have st : ∀ x : Rec, zL Pg (evL [.pointer (some ⟨σ.next, 0, none⟩), yM x]) τ (.store 59 (.tmp 0) (.tmp 1)) = some (undef, τ.own σ.next (yC x) 6) := fun x => ow.store (P := Pg) (k := 0) (t := 59) (v := yM x) (vs := yC x) (ds := yC x) rfl vF rfl (by simp) rfl
 have lo : ∀ x : Rec, zB Pg (τ.own σ.next (yC x) 6) 59 ⟨σ.next, 0, none⟩ = some (yM x) := fun x => by simpa [zH] using (ow.put (ds := yC x)).rw.loadN (P := Pg) (t := 59) zEP vF (k := 0) (ds := yC x) rfl rfl (by simp)
 have lw : ∀ x : Rec, σ.next ≤ (τ.own σ.next (yC x) 6).low := fun x => (N.own (Nat.le_refl σ.next)).lw
 subst hτ
 refine zM.pure (rLast_ra (Pr := fun τ' => τ' = (σ.re.row (yC ⟨0, 0, 0, 0, 0, 0⟩) 6).own σ.next (yC (wG L r.m i)) 6) (P0 := fun τ' => τ' = σ.re.row (yC ⟨0, 0, 0, 0, 0, 0⟩) 6 ∧ wG L r.m i = uW r.m)
  (rLast_loop1 (Inv := fun k ix τ' => ∃ s : Nat, ix = (s : Int) - 1 ∧ k = s ∧ s ≤ i ∧ τ' = σ.re.row (yC ⟨0, 0, 0, 0, 0, 0⟩) 6 ∧ wG L r.m i = wG L r.m s) ?_ i ((i : Int) - 1) _ ⟨i, rfl, rfl, Nat.le_refl _, rfl, rfl⟩)
  (fun τ' e => by subst e; exact rLast_t1xra (lo _) ⟨rfl, lw _⟩) (fun τ' e => by
   obtain ⟨rfl, e⟩ := e
   rw [e]
   exact rLast_t1x0a (nCX := r.m) (by exact ld i r 3 0 _ hi rfl zO) (st (uW r.m)) (lo (uW r.m)) ⟨rfl, lw _⟩ ⟨by omega, by omega⟩))
 rintro k ix τ' ⟨s, rfl, rfl, hs, rfl, he⟩
 rcases k with _ | s
 ·exact rLast_s1d ⟨rfl, he⟩ (by omega)
 obtain ⟨x, hx⟩ : ∃ x, L[s]? = some x := ⟨L[s]'(by omega), by simp⟩
 have e1 : (((s + 1 : Nat) : Int) - 1) = (s : Int) := by omega
 rw [e1]
 rw [zHW hx] at he
 by_cases hm : x.m = r.m
 ·by_cases hk : x.k = 2
  ·rw [if_pos ⟨hm, hk⟩] at he
   rw [he]
   have l59 : zB Pg (σ.re.row (yC ⟨0, 0, 0, 0, 0, 0⟩) 6) 59 (zH a (Int.toNat (s : Int) * 6)) = some (yM x) := hp.at rfl (by rw [List.getElem?_map, hx]; rfl)
   exact rLast_s1a (ld s x 3 0 _ hx rfl zO) (ld i r 3 0 _ hi rfl zO) (ld s x 5 3 _ hx rfl zCW) l59 (st x) rfl (by omega) ⟨by omega, by omega⟩ ⟨by omega, by omega⟩ hm hk
  ·rw [if_neg (fun h => hk h.2)] at he
   exact rLast_s1b (ld s x 3 0 _ hx rfl zO) (ld i r 3 0 _ hi rfl zO) (ld s x 5 3 _ hx rfl zCW) ⟨s, by omega, s, rfl, rfl, by omega, rfl, he⟩ (by omega) ⟨by omega, by omega⟩ ⟨by omega, by omega⟩ hm hk (by omega)
 ·rw [if_neg (fun h => hm h.1)] at he
  exact rLast_s1c (ld s x 3 0 _ hx rfl zO) (ld i r 3 0 _ hi rfl zO) ⟨s, by omega, s, rfl, rfl, by omega, rfl, he⟩ (by omega) ⟨by omega, by omega⟩ ⟨by omega, by omega⟩ hm (by omega)
theorem rRoom_c {p : Option Addr} {l c i : Nat} {L : List Rec} {r : Rec} (h : yP σ 59 p l L) (hi : L[i]? = some r) (hl : l ≤ 100000) (hs : Srt L) (h1 : ∀ x ∈ L, 1 ≤ x.s) (hbd : ∀ x ∈ L, Bd x) : zE Pg 47 [.slice p l c, iV i] σ (iV (r.s - (xK L r.m i).s - 1 - (xK L r.m i).len)) σ := by
 have hlen := h.len
 have hil : i < l := by have := (List.getElem?_eq_some_iff.1 hi).1; omega
 have k67 := rLast_c (c := c) (SlV.le h (le0 σ)) hi hl
 have hr := hbd r (List.mem_of_getElem? hi)
 have hF := last_bd (m := r.m) hbd (i := i) (by omega)
 obtain ⟨F, hFe⟩ : ∃ F, F = wG L r.m i := ⟨_, rfl⟩
 have hFm : F.m = r.m := by rw [hFe]; exact lastTo_m (by omega)
 obtain ⟨c1, c2, c3⟩ := cnt_last (L := L) (m := r.m) (i := i) (by omega)
 have cr := cnt_ref (m := r.m) hs h1 (i := i) (by omega)
 rw [← hFe] at k67 hF c1 cr
 have cr : ((L.take i).foldl (zBT r.m F.s) (0, 0, 0)).2.2 = (xK L r.m i).len := by rw [cr]
 rw [c1, ← cr]
 unfold Bd at hr hF
 obtain ⟨τ, hτ⟩ : ∃ τ, τ = (σ.re.row (yC ⟨0, 0, 0, 0, 0, 0⟩) 6).own σ.next (yC F) 6 := ⟨_, rfl⟩
 have N : New σ.re τ := by rw [hτ]; exact (New.row _ _ _).own (Nat.le_refl _)
 have ow : Own τ σ.next (yC F) 6 := by rw [hτ]; exact (zD _ _ _).put
 have hp : yP τ 59 p l L := (SlV.le h (le0 σ)).le N.le
 obtain ⟨a, rfl, _⟩ := zAN hp hil
 have ld : ∀ (j : Nat) (x : Rec) (t' k : Nat) (v : Value), L[j]? = some x → (yC x)[k]? = some v → zBQ Pg t' = some false → zB Pg τ t' (zH a (Int.toNat (j : Int) * 6 + k)) = some v := fun j x t' k v hx hk ht => zEQ hp (by rw [List.getElem?_map, hx]; rfl) hk ht
 have f0 := ow.rw.load1 (P := Pg) (t := 3) zO (k := 0) rfl
 have f1 := ow.rw.load1 (P := Pg) (t := 3) zO (k := 1) rfl
 have lw := N.lw
 subst hτ
 refine zM.pure (rRoom_ra (P0 := fun n τ' => τ' = (σ.re.row (yC ⟨0, 0, 0, 0, 0, 0⟩) 6).own σ.next (yC F) 6 ∧ n = r.s - F.s - 1 - ((L.take i).foldl (zBT r.m F.s) (0, 0, 0)).2.2) k67 (ld i r 3 1 _ hi rfl zO)
  (rRoom_loop1 (Inv := fun k n ix τ' => ∃ s : Nat, ix = s ∧ s + k = i ∧ τ' = (σ.re.row (yC ⟨0, 0, 0, 0, 0, 0⟩) 6).own σ.next (yC F) 6 ∧ n = r.s - F.s - 1 - ((L.take s).foldl (zBT r.m F.s) (0, 0, 0)).2.2) ?_ i _ 0 _ ⟨0, rfl, by omega, rfl, by simp⟩)
  (fun n τ' e => by obtain ⟨rfl, rfl⟩ := e; exact rRoom_t1x0a ⟨rfl, lw⟩) ⟨by omega, by omega⟩ (by omega) (by omega))
 rintro k n ix τ' ⟨s, rfl, hk, rfl, rfl⟩
 by_cases hsi : s < i
 rotate_left
 ·have : s = i := by omega
  subst this
  exact rRoom_s1d ⟨rfl, rfl⟩ (by omega)
 obtain ⟨x, hx⟩ : ∃ x, L[s]? = some x := ⟨L[s]'(by omega), by simp⟩
 obtain ⟨b1, b2, b3, b4, b5, b6⟩ := refS_bd (m := r.m) (fs := F.s) (L.take s) (0, 0, 0) (fun x hx => hbd x (List.mem_of_mem_take hx))
 have hts : (L.take s).length = s := by simp; omega
 rw [hts] at b6
 simp only at b5 b6
 have e : (L.take (s + 1)).foldl (zBT r.m F.s) (0, 0, 0) = zBT r.m F.s ((L.take s).foldl (zBT r.m F.s) (0, 0, 0)) x := by rw [xO hx, List.foldl_append]; rfl
 have l0 := ld s x 3 0 _ hx rfl zO
 have l1 := ld s x 3 1 _ hx rfl zO
 by_cases hm : x.m = r.m
 ·by_cases hlt : F.s < x.s
  ·refine rRoom_s1a l0 (by simpa [zH, hFm] using f0) l1 (by simpa [zH] using f1) ⟨k - 1, by omega, s + 1, by omega, by omega, rfl, ?_⟩ (by omega) ⟨by omega, by omega⟩ hm hlt (by omega) (by omega)
   rw [e]
   unfold zBT
   rw [if_pos ⟨hm, hlt⟩]
   split <;> (simp only; omega)
  ·refine rRoom_s1b l0 (by simpa [zH, hFm] using f0) l1 (by simpa [zH] using f1) ⟨k - 1, by omega, s + 1, by omega, by omega, rfl, ?_⟩ (by omega) ⟨by omega, by omega⟩ hm hlt (by omega)
   rw [e]
   unfold zBT
   rw [if_neg (fun h => hlt h.2)]
 ·refine rRoom_s1c l0 (by simpa [zH, hFm] using f0) ⟨k - 1, by omega, s + 1, by omega, by omega, rfl, ?_⟩ (by omega) ⟨by omega, by omega⟩ hm (by omega)
  rw [e]
  unfold zBT
  rw [if_neg (fun h => hm h.1)]
end
end Go.Proofs.Ytffgfojabcbegaa
