
import Derived.Test.YtffgfojabcbegaaVI
namespace Go.Proofs.Ytffgfojabcbegaa
open Go Go.Lay
open Try renaming prog → Pg
set_option linter.unusedVariables false
set_option linter.unusedSimpArgs false
set_option maxRecDepth 20000
theorem appT_rlack : AppT Pg 39 39 57 5 := appT_of (by kernel_rfl)
theorem elOk_rlk (x : Lk) : elOk Pg 57 5 (lkV x) := .inr ⟨agg57, zDB, _, rfl, rfl⟩
theorem lacksTo_len {L : List Rec} : ∀ {j : Nat} {o : List Lk}, vP L j = some o → o.length ≤ j
 | 0, o, ho => by cases ho; exact Nat.le_refl _
 | j + 1, o, ho => by
  cases hp : vP L j with
  | none => rw [zCQ hp (Nat.le_succ j)] at ho; cases ho
  | some o' =>
   have := lacksTo_len hp
   cases hx : L[j]? with
   | none =>
    have : vP L (j + 1) = none := by
     show (match vP L j, L[j]? with | some o, some r => _ | _, _ => none) = none
     rw [hp, hx]
    rw [this] at ho; cases ho
   | some x =>
    rw [zCP hp hx] at ho
    split at ho
    ·split at ho
     ·split at ho
      ·cases ho; simp; omega
      ·cases ho; omega
     ·cases ho
    ·cases ho; omega
section
variable {σ : St}
theorem rLacks_c {p : Option Addr} {l c : Nat} {L : List Rec} (h : yP σ 59 p l L) (hl : l ≤ 100000) (hs : Srt L) (h1 : ∀ x ∈ L, 1 ≤ x.s) (hbd : ∀ x ∈ L, Bd x) :
  (wC L = none ∧ zE Pg 20 [.slice p l c] σ (.tuple ⟨[.slice none 0 0, .bool false]⟩) σ) ∨
  (∃ o q d σ', wC L = some o ∧ zE Pg 20 [.slice p l c] σ (.tuple ⟨[.slice q o.length d, .bool true]⟩) σ' ∧ New σ σ' ∧ SlV Pg σ' 57 5 q o.length (o.map lkV)) := by
 have hlen := h.len
 have h0 : yP σ.re 59 p l L := SlV.le h (le0 σ)
 have key : zM Pg 20 [.slice p l c] σ.re fun v s => New σ.re s ∧ ((wC L = none ∧ v = .tuple ⟨[.slice none 0 0, .bool false]⟩) ∨ ∃ o q d, wC L = some o ∧ v = .tuple ⟨[.slice q o.length d, .bool true]⟩ ∧ SlV Pg s 57 5 q o.length (o.map lkV)) := by
  refine rLacks_ra (Pr := fun p2 l2 c2 t τ => wC L = none ∧ p2 = none ∧ l2 = 0 ∧ c2 = 0 ∧ t = false ∧ New σ.re τ) (P0 := fun p' l' c' τ => ∃ o, wC L = some o ∧ l' = o.length ∧ New σ.re τ ∧ Gr Pg τ σ.next 57 5 p' o.length c' (o.map lkV))
   (rLacks_loop1 (Inv := fun k p' l' c' i τ => ∃ (s : Nat) (o : List Lk), i = s ∧ s + k = l ∧ vP L s = some o ∧ l' = o.length ∧ New σ.re τ ∧ Gr Pg τ σ.next 57 5 p' o.length c' (o.map lkV)) ?_ l none 0 0 0 σ.re ⟨0, [], rfl, by omega, rfl, rfl, New.refl _, .nil⟩)
   (fun p2 l2 c2 t τ ⟨e1, e2, e3, e4, e5, hN⟩ => by subst e2 e3 e4 e5; exact rLacks_t1xra ⟨hN, .inl ⟨e1, rfl⟩⟩) (fun p' l' c' τ ⟨o, e1, e2, hN, hg⟩ => by subst e2; exact rLacks_t1x0a ⟨hN, .inr ⟨o, _, _, e1, rfl, hg.slv⟩⟩)
  rintro k p' l' c' i τ ⟨s, o, rfl, hk, ho, rfl, hN, hg⟩
  by_cases hsl : s < l
  rotate_left
  ·have : s = L.length := by omega
   subst this
   exact rLacks_s1g ⟨o, ho, rfl, hN, hg⟩ (by omega)
  have hp := SlV.le h0 hN.le
  obtain ⟨a, rfl, r, hr, ld⟩ := zAN hp hsl
  have hrL := List.mem_of_getElem? hr
  have lk : zB Pg τ 5 (zH a (Int.toNat (s : Int) * 6 + 3)) = some (.int .u8 r.k) := zEQ hp (by rw [List.getElem?_map, hr]; rfl) rfl zCW
  have hab : ∀ b : Addr, some a = some b → b.block < τ.next := fun b e => slv_lt hp b e
  have hsn := zCP ho hr
  by_cases hk2 : r.k = 2
  rotate_left
  ·rw [if_neg hk2] at hsn
   exact rLacks_s1a lk ⟨k - 1, by omega, s + 1, o, by omega, by omega, hsn, rfl, hN, hg⟩ (by omega) ⟨by omega, by omega⟩ hk2 (by omega)
  rw [if_pos hk2] at hsn
  have k46 := rLackOf_c (c := c) hp hr hl hs h1 hbd
  obtain ⟨K, hK⟩ : ∃ K, K = zHT (xK L r.m s) r := ⟨_, rfl⟩
  rw [← hK] at k46 hsn
  obtain ⟨τ1, hτ1⟩ : ∃ τ1, τ1 = (τ.row (zC 0 0 0 0 0) 5).own τ.next (lkL K) 5 := ⟨_, rfl⟩
  have N1 : New τ τ1 := by rw [hτ1]; exact (New.row _ _ _).own (Nat.le_refl _)
  have n1 : τ1.next = τ.next + 1 := by rw [hτ1]; rfl
  have k47 := rRoom_c (c := c) (SlV.le hp N1.le) hr hl hs h1 hbd
  obtain ⟨R, hR⟩ : ∃ R : Int, R = r.s - (xK L r.m s).s - 1 - (xK L r.m s).len := ⟨_, rfl⟩
  rw [← hR] at k47
  have i1 := xW (σ := τ1) (n := K.sales) (lo := 0) (hi := R)
  have i2 := xW (σ := τ1) (n := K.coins) (lo := 0) (hi := 10000 * K.sales)
  have hok : lkOk (xK L r.m s) r = (inB K.sales 0 R && inB K.coins 0 (10000 * K.sales)) := by
   unfold lkOk inB
   rw [← hK, ← hR, Bool.and_assoc]
  obtain ⟨c1, c2, c3⟩ := cnt_last (L := L) (m := r.m) (i := s) (by omega)
  have cr := cnt_ref (m := r.m) hs h1 (i := s) (by omega)
  have hF := last_bd (m := r.m) hbd (i := s) (by omega)
  obtain ⟨b1, b2, b3, b4, b5, b6⟩ := refS_bd (m := r.m) (fs := (wG L r.m s).s) (L.take s) (0, 0, 0) (fun x hx => hbd x (List.mem_of_mem_take hx))
  rw [cr] at b1 b2
  have hts : (L.take s).length = s := by simp; omega
  rw [hts] at b2
  have hrb := hbd r hrL
  unfold Bd at hrb hF
  have eS : K.sales = r.a - (wG L r.m s).a - (xK L r.m s).sales := by rw [hK, ← c2]; rfl
  have b1 : 0 ≤ (xK L r.m s).sales := b1
  have b2 : (xK L r.m s).sales ≤ 0 + (s : Int) := b2
  have hbS : -100000000 ≤ K.sales ∧ K.sales ≤ 100000000 := by omega
  have oL := lacksTo_len ho
  rw [hok] at hsn
  cases hs1 : inB K.sales 0 R with
  | false =>
   rw [hs1] at i1 hsn
   have hnone : wC L = none := zCQ (by rw [hsn]; simp) (show s + 1 ≤ L.length by omega)
   subst hτ1
   exact rLacks_s1f lk k46 k47 i1 hab ⟨hnone, rfl, rfl, rfl, rfl, hN.trans N1⟩ (by omega) ⟨by omega, by omega⟩ hk2
  | true =>
  cases hs2 : inB K.coins 0 (10000 * K.sales) with
  | false =>
   rw [hs1] at i1
   rw [hs1, hs2] at hsn
   rw [hs2] at i2
   have hnone : wC L = none := zCQ (by rw [hsn]; simp) (show s + 1 ≤ L.length by omega)
   subst hτ1
   exact rLacks_s1e lk k46 k47 i1 i2 hab ⟨hnone, rfl, rfl, rfl, rfl, hN.trans N1⟩ (by omega) ⟨by omega, by omega⟩ hk2 (by omega)
  | true =>
   rw [hs1] at i1
   rw [hs2] at i2
   rw [hs1, hs2, if_pos (by rfl)] at hsn
   have d1 := inB_iff.1 hs1
   have d2 := inB_iff.1 hs2
   by_cases hpos : 0 < K.sales
   ·rw [if_pos hpos] at hsn
    obtain ⟨p4, c4, τ4, w1, w2, w3, w4⟩ := grow1 (lkV K) appT_rlack hg N1.le (elOk_rlk K) (by omega) hN.nx (e := rfl) (hc := rfl)
    have N4 : New σ.re τ4 := ((hN.trans N1).row').of_only w3 (fun b hb => (hg.bd hb).1)
    subst hτ1
    refine rLacks_s1b lk k46 k47 i1 i2 w1 hab ⟨k - 1, by omega, s + 1, o ++ [K], by omega, by omega, hsn, by simp, N4, ?_⟩ (by omega) ⟨by omega, by omega⟩ hk2 (by omega) hpos (by omega)
    rw [List.length_append, List.map_append]; exact w2
   ·rw [if_neg hpos] at hsn
    subst hτ1
    exact rLacks_s1d lk k46 k47 i1 i2 hab ⟨k - 1, by omega, s + 1, o, by omega, by omega, hsn, rfl, hN.trans N1, hg.le N1.le⟩ (by omega) ⟨by omega, by omega⟩ hk2 (by omega) hpos (by omega) (by omega)
 cases ho : wC L with
 | none =>
  obtain ⟨v, τ, hN, hNew, ⟨_, rfl⟩ | ⟨o, q', d', ho', _⟩⟩ := key
  ·exact .inl ⟨rfl, zM.pure ⟨_, τ, hN, rfl, hNew.lw⟩⟩
  ·rw [ho] at ho'; cases ho'
 | some o =>
  obtain ⟨v, τ, hN, hNew, ⟨hn, _⟩ | ⟨o', q', d', ho', rfl, hsl⟩⟩ := key
  ·rw [ho] at hn; cases hn
  ·rw [ho] at ho'; cases ho'
   obtain ⟨v, σ', g1, g2, q'', d'', rfl, g3⟩ := zM.new (P := Pg) (f := 20) (args := [.slice p l c]) (σ := σ) (Q := fun v s => ∃ q d, v = .tuple ⟨[.slice q o.length d, .bool true]⟩ ∧ SlV Pg s 57 5 q o.length (o.map lkV)) ⟨_, τ, hN, hNew, q', d', rfl, hsl⟩ (by rintro v s s' ⟨q, d, rfl, g⟩ hle; exact ⟨q, d, rfl, SlV.le g hle⟩) (by
    rintro v s hr ⟨q, d, rfl, g⟩
    refine ⟨q, d, rfl, ?_⟩
    cases q with
    | none => exact zKC g
    | some a => exact Bool.noConfusion (show false = true from hr))
   exact .inr ⟨o, q'', d'', σ', rfl, g1, g2, g3⟩
theorem lacks_c {p q : Option Addr} {l c d : Nat} {o : List Lk} (h1 : SlV Pg σ 70 5 p l (o.map lkV)) (h2 : SlV Pg σ 57 5 q l (o.map lkV)) (hl : l ≤ 100000) : zE Pg 22 [.slice p l c, .slice q l d] σ (.bool true) σ := by
 refine zM.pure (lacks_rb (Pr := fun _ _ => False) (P0 := fun τ => New σ.re τ) (lacks_loop1 (Inv := fun k i τ => ∃ s : Nat, i = s ∧ s + k = l ∧ New σ.re τ) ?_ l 0 σ.re ⟨0, rfl, by omega, New.refl _⟩) (fun t τ h => h.elim) (fun τ h => lacks_t1x0a ⟨rfl, h.lw⟩) rfl)
 rintro k i τ ⟨s, rfl, hk, hN⟩
 by_cases hs : s < l
 rotate_left
 ·exact lacks_s1g hN (by omega)
 have e1 := (SlV.le h1 (le0 σ)).le hN.le
 have e2 := (SlV.le h2 (le0 σ)).le hN.le
 obtain ⟨a, rfl, x, hx, ld1⟩ := zAN (f := lkV) e1 hs
 obtain ⟨b, rfl, y, hy, ld2⟩ := zAN (f := lkV) e2 hs
 rw [hx] at hy; cases hy
 have ga : ∀ τ' : St, Le τ τ' → zB Pg τ' 70 (zH a (Int.toNat (s : Int) * 5)) = some (lkV x) := fun τ' hle => (SlV.le e1 hle).at rfl (by rw [List.getElem?_map, hx]; rfl)
 have gb : ∀ τ' : St, Le τ τ' → zB Pg τ' 57 (zH b (Int.toNat (s : Int) * 5)) = some (lkV x) := fun τ' hle => (SlV.le e2 hle).at rfl (by rw [List.getElem?_map, hx]; rfl)
 have M1 : New τ (τ.row (zC 0 0 0 0 0) 5) := New.row _ _ _
 have M2 : New τ ((τ.row (zC 0 0 0 0 0) 5).row (zC 0 0 0 0 0) 5) := M1.row'
 have M3 : New τ (((τ.row (zC 0 0 0 0 0) 5).row (zC 0 0 0 0 0) 5).own τ.next (lkL x) 5) := M2.own (Nat.le_refl _)
 have M4 : New τ ((((τ.row (zC 0 0 0 0 0) 5).row (zC 0 0 0 0 0) 5).own τ.next (lkL x) 5).own (τ.next + 1) (lkL x) 5) := M3.own (by omega)
 exact lacks_s1f (ga _ (Le.refl _)) (gb _ (Le.refl _)) (ga _ M1.le) (ga _ M2.le) (gb _ M1.le) (gb _ M2.le) (gb _ M3.le) ⟨k - 1, by omega, s + 1, by omega, by omega, hN.trans M4⟩ (by omega) ⟨by omega, by omega⟩ ⟨by omega, by omega⟩ rfl rfl rfl rfl rfl (by omega) (slv_lt e1 a rfl) (slv_lt e2 b rfl)
end
end Go.Proofs.Ytffgfojabcbegaa
