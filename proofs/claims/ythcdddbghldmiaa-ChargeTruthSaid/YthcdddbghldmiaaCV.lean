
import Derived.Test.YthcdddbghldmiaaHX
import Derived.Test.YthcdddbghldmiaaPF
import Derived.Test.YthcdddbghldmiaaXD
namespace Go.Proofs.Ythcdddbghldmiaa
open Go Go.Lay
open Try renaming prog → Pg
set_option linter.unusedVariables false
set_option linter.unusedSimpArgs false
set_option maxRecDepth 20000
def TruthOK (g : Gar) (hs us : List Int) : Prop := hs.length = g.nb ∧ us.length = g.nb ∧ ∀ i b, g.buses[i]? = some b → inB (hs.getD i 0) b.hlo b.hhi = true ∧ inB (us.getD i 0) b.ulo b.uhi = true
def pickZ (lo hi : Int) (ws : List Int) (at_ : Nat) : Int :=
 if ws.length = 0 then lo else if (ws.getD (at_ % ws.length) 0).tmod 4 = 0 then lo else if (ws.getD (at_ % ws.length) 0).tmod 4 = 1 then hi else lo + (ws.getD (at_ % ws.length) 0).tmod (hi - lo + 1)
theorem pickZ_in {lo hi : Int} {ws : List Int} {at_ : Nat} (h : lo ≤ hi) (hw : ∀ x ∈ ws, 0 ≤ x) : lo ≤ pickZ lo hi ws at_ ∧ pickZ lo hi ws at_ ≤ hi := by
 unfold pickZ
 have hd : 0 ≤ ws.getD (at_ % ws.length) 0 := by
  rw [List.getD_eq_getElem?_getD]
  cases hx : ws[at_ % ws.length]? with
  | none => simp
  | some x => simpa using hw x (List.mem_of_getElem? hx)
 have h1 := Int.tmod_nonneg (hi - lo + 1) hd
 have h2 := Int.tmod_lt_of_pos (ws.getD (at_ % ws.length) 0) (show 0 < hi - lo + 1 by omega)
 split
 ·omega
 ·split
  ·omega
  ·split <;> omega
theorem rem_eq {ox oy : Operand} {t : TypeId} {a b : Int} (h : b ≠ 0) : binA Pg .rem t ox oy (iV a) (iV b) = some (iV (a.tmod b)) := by
 simp [binA, sameKind, intBin, h]
abbrev wordV (x : Int) : Value := .int .u16 x
abbrev WordsP (σ : St) (p : Option Addr) (l : Nat) (xs : List Int) : Prop := SlV Pg σ 44 1 p l (xs.map wordV)
section
variable {σ τ : St} {g : Gar} {p q pw : Option Addr} {l c m d lw cw : Nat} {ws hs us : List Int}
theorem pick_c {lo hi : Int} {n : Nat} (hw : WordsP σ pw lw ws) (hb : ∀ x ∈ ws, 0 ≤ x ∧ x ≤ 65535) (h : lo ≤ hi) (h0 : -100000 ≤ lo) (h1 : hi ≤ 100000) :
  CallsA Pg 71 [.agg ⟨[iV lo, iV hi]⟩, .slice pw lw cw, iV (n : Int)] σ (iV (pickZ lo hi ws n)) σ := by
 have hl : ws.length = lw := by have := hw.2.1; simpa using this
 refine RunsQ.pure ?_
 by_cases h3 : lw = 0
 ·subst h3
  exact pick_ra ⟨by simp [pickZ, hl], Nat.le_refl _⟩
 have hm : n % lw < lw := Nat.mod_lt _ (by omega)
 obtain ⟨a, rfl, x, hx, ld⟩ := slv_at (SlV.le hw ((le0 σ).trans (Le.row _ [iV lo, iV hi] 2))) hm
 have hxb := hb x (List.mem_of_getElem? hx)
 have eT : (n : Int).tmod (lw : Int) = ((n % lw : Nat) : Int) := by rw [Int.tmod_eq_emod_of_nonneg (by omega)]; omega
 have r1 : binA Pg .rem 3 (.tmp 14) (.tmp 16) (iV (n : Int)) (iV (lw : Int)) = some (iV ((n % lw : Nat) : Int)) := by rw [rem_eq (by omega), eT]
 have eG : ws.getD (n % ws.length) 0 = x := by rw [hl]; simp [hx]
 have e0 : pickZ lo hi ws n = if x.tmod 4 = 0 then lo else if x.tmod 4 = 1 then hi else lo + x.tmod (hi - lo + 1) := by
  unfold pickZ
  rw [if_neg (by omega), eG]
 by_cases h4 : x.tmod 4 = 0
 ·exact pick_rb r1 ld ⟨by rw [e0, if_pos h4], Nat.le_refl _⟩
 by_cases h5 : x.tmod 4 = 1
 ·exact pick_rc r1 ld ⟨by rw [e0, if_neg h4, if_pos h5], Nat.le_refl _⟩
 have hp := pickZ_in (at_ := n) h (fun x hx => (hb x hx).1)
 rw [e0, if_neg h4, if_neg h5] at hp
 exact pick_rd r1 ld (rem_eq (by omega)) ⟨by rw [e0, if_neg h4, if_neg h5], Nat.le_refl _⟩
def hsP (g : Gar) (ws : List Int) (n : Nat) : List Int := (List.range n).map fun i => match g.buses[i]? with | some b => pickZ b.hlo b.hhi ws (2 * i) | none => 0
def usP (g : Gar) (ws : List Int) (n : Nat) : List Int := (List.range n).map fun i => match g.buses[i]? with | some b => pickZ b.ulo b.uhi ws (2 * i + 1) | none => 0
theorem hsP_ok (hv : Valid g) (hb : ∀ x ∈ ws, 0 ≤ x) : TruthOK g (hsP g ws g.nb) (usP g ws g.nb) := by
 refine ⟨by simp [hsP], by simp [usP], fun i b h => ?_⟩
 have hi : i < g.nb := (List.getElem?_eq_some_iff.1 h).1
 have := busB_iff (hv.b h)
 have e1 : (hsP g ws g.nb).getD i 0 = pickZ b.hlo b.hhi ws (2 * i) := by unfold hsP; rw [List.getD_eq_getElem?_getD, List.getElem?_map, List.getElem?_range hi]; simp [h]
 have e2 : (usP g ws g.nb).getD i 0 = pickZ b.ulo b.uhi ws (2 * i + 1) := by unfold usP; rw [List.getD_eq_getElem?_getD, List.getElem?_map, List.getElem?_range hi]; simp [h]
 rw [e1, e2]
 exact ⟨inB_iff.2 (pickZ_in (by omega) hb), inB_iff.2 (pickZ_in (by omega) hb)⟩
theorem picked_c (hR : RefP σ p g.ns q g.nb g) (hv : Valid g) (hw : WordsP σ pw lw ws) (hb : ∀ x ∈ ws, 0 ≤ x ∧ x ≤ 65535) :
  ∃ p6 c6 p7 c7 σ', CallsA Pg 44 [.agg ⟨garL p g.ns c q g.nb d⟩, .slice pw lw cw] σ (.agg ⟨[.slice p6 g.nb c6, .slice p7 g.nb c7]⟩) σ' ∧ New σ σ' ∧ IntsP σ' p6 g.nb (hsP g ws g.nb) ∧ IntsP σ' p7 g.nb (usP g ws g.nb) := by
 have hnb := hv.nb
 suffices key : RunsQ Pg 44 [.agg ⟨garL p g.ns c q g.nb d⟩, .slice pw lw cw] σ.re fun v s => New σ.re s ∧ ∃ p6 c6 p7 c7, v = .agg ⟨[.slice p6 g.nb c6, .slice p7 g.nb c7]⟩ ∧ IntsP s p6 g.nb (hsP g ws g.nb) ∧ IntsP s p7 g.nb (usP g ws g.nb) by
  obtain ⟨v, s, h1, h2, p6, c6, p7, c7, rfl, h3⟩ := RunsQ.new (Q := fun v s => ∃ p6 c6 p7 c7, v = .agg ⟨[.slice p6 g.nb c6, .slice p7 g.nb c7]⟩ ∧ IntsP s p6 g.nb (hsP g ws g.nb) ∧ IntsP s p7 g.nb (usP g ws g.nb)) key
   (by rintro v s s' ⟨p6, c6, p7, c7, rfl, h1, h2⟩ hle; exact ⟨p6, c6, p7, c7, rfl, h1.le hle, h2.le hle⟩)
   (by
    rintro v s hr ⟨p6, c6, p7, c7, rfl, h1, h2⟩
    cases p6 with
    | some a => exact Bool.noConfusion (show false = true from hr)
    | none =>
     cases p7 with
     | some a => exact Bool.noConfusion (show false = true from hr)
     | none => exact ⟨none, c6, none, c7, rfl, slv_none h1, slv_none h2⟩)
  exact ⟨p6, c6, p7, c7, s, h1, h2, h3⟩
 obtain ⟨n0, hn0⟩ : ∃ n0, n0 = σ.re.next := ⟨_, rfl⟩
 have hn0' : n0 = σ.next := hn0
 have N1 : New σ.re (((σ.re.row (garL p g.ns c q g.nb d) 2).row [.slice none 0 0, .slice none 0 0] 2).row [.slice none 0 0, .slice none 0 0] 2) := ((New.row _ _ _).row').row'
 refine picked_ra (P0 := fun τ => New σ.re τ ∧ Own τ (n0 + 1) [.slice none 0 0, .slice none 0 0] 2 ∧ ∃ p6 c6 p7 c7, Own τ (n0 + 2) [.slice p6 g.nb c6, .slice p7 g.nb c7] 2 ∧ Gr Pg τ (n0 + 3) 3 1 p6 g.nb c6 ((hsP g ws g.nb).map intV) ∧ Gr Pg τ (n0 + 3) 3 1 p7 g.nb c7 ((usP g ws g.nb).map intV)) ?_ ?_
 ·rw [← hn0]
  refine picked_loop1 (Inv := fun k i τ => ∃ j : Nat, i = j ∧ j + k = g.nb ∧ New σ.re τ ∧ Own τ n0 (garL p g.ns c q g.nb d) 2 ∧ Own τ (n0 + 1) [.slice none 0 0, .slice none 0 0] 2 ∧ ∃ p6 c6 p7 c7, Own τ (n0 + 2) [.slice p6 j c6, .slice p7 j c7] 2 ∧ Gr Pg τ (n0 + 3) 3 1 p6 j c6 ((hsP g ws j).map intV) ∧ Gr Pg τ (n0 + 3) 3 1 p7 j c7 ((usP g ws j).map intV) ∧ ∀ b, AtP p6 b → ¬ AtP p7 b) ?_ g.nb 0 _
   ⟨0, rfl, by omega, N1, ?_, ?_, none, 0, none, 0, ?_, Gr.nil, Gr.nil, fun b hb => (AtP.none hb).elim⟩
  rotate_left
  ·rw [hn0]; exact (own_new _ _ _).row.row
  ·rw [hn0]; exact (own_new (σ.re.row (garL p g.ns c q g.nb d) 2) _ _).row
  ·rw [hn0]; exact own_new ((σ.re.row (garL p g.ns c q g.nb d) 2).row [.slice none 0 0, .slice none 0 0] 2) _ _
  rintro k i τ ⟨j, rfl, hk, h1, o1, o2, p6, c6, p7, c7, o3, g6, g7, hd⟩
  by_cases hj : j < g.nb
  rotate_left
  ·have : j = g.nb := by omega
   subst this
   exact picked_s1b LD ⟨h1, o2, p6, c6, p7, c7, o3, g6, g7⟩
  have hle : Le σ τ := (le0 σ).trans h1.le
  obtain ⟨a, rfl, bus, hbus, _⟩ := slv_at (hR.le hle).bu hj
  have hv' : (g.buses.map busV)[j]? = some (.agg ⟨busL bus⟩) := by rw [List.getElem?_map, hbus]; rfl
  have hB := busB_iff (hv.b hbus)
  have ld1 : ∀ {z}, Le σ z → loadA Pg z 50 (aadd a (Int.toNat (j : Int) * 9 + 5)) = some (.agg ⟨[iV bus.hlo, iV bus.hhi]⟩) := fun h => slv_fldN (hR.le h).bu hv' (k := 5) (m := 2) rfl rfl (by omega) agg50 size50
  have ld2 : ∀ {z}, Le σ z → loadA Pg z 50 (aadd a (Int.toNat (j : Int) * 9 + 7)) = some (.agg ⟨[iV bus.ulo, iV bus.uhi]⟩) := fun h => slv_fldN (hR.le h).bu hv' (k := 7) (m := 2) rfl rfl (by omega) agg50 size50
  have lt3 := o3.lt
  have la : a.block < σ.next := slv_lt hR.bu _ rfl
  have lw' : ∀ a, pw = some a → a.block < σ.next := slv_lt hw
  have lτ := hle.next
  have cp1 := pick_c (lo := bus.hlo) (hi := bus.hhi) (n := 2 * j) (cw := cw) (SlV.le hw hle) hb (by omega) (by omega) (by omega)
  rw [show ((2 * j : Nat) : Int) = 2 * (j : Int) by omega] at cp1
  obtain ⟨p', c', y1, i1, i2, i3, i4⟩ := grow1 (n0 := n0 + 3) (σ := τ) (τ := τ) (intV (pickZ bus.hlo bus.hhi ws (2 * j))) appT_ints g6 (Le.refl _) (.inl ⟨agg3, rfl, rfl⟩) (by omega) (by omega)
  have b6 : ∀ b, AtP p6 b → n0 + 3 ≤ b ∧ b < τ.next := fun b hb => g6.bd hb
  have b7 : ∀ b, AtP p7 b → n0 + 3 ≤ b ∧ b < τ.next := fun b hb => g7.bd hb
  have k1 : Only (AtP p6) τ y1 := (New.row _ _ _).only.trans' i3 (fun b _ h => .inl h)
  have ly1 := k1.next
  have n1 : New σ.re y1 := (h1.row').of_only i3 (fun b hb => by have := b6 b hb; rw [hn0] at this; omega)
  have hl1 : Le σ y1 := (le0 σ).trans n1.le
  have o1' := k1.own' o1 (fun hb => by have := b6 _ hb; omega)
  have o2' := k1.own' o2 (fun hb => by have := b6 _ hb; omega)
  have o3' := k1.own' o3 (fun hb => by have := b6 _ hb; omega)
  have g7' := g7.only k1 (fun b hb h => hd b h hb)
  have cp2 := pick_c (lo := bus.ulo) (hi := bus.uhi) (n := 2 * j + 1) (cw := cw) (SlV.le hw hl1) hb (by omega) (by omega) (by omega)
  rw [show ((2 * j + 1 : Nat) : Int) = 2 * (j : Int) + 1 by omega] at cp2
  obtain ⟨p'', c'', y2, e1, e2, e3, e4⟩ := grow1 (n0 := n0 + 3) (σ := y1) (τ := y1) (intV (pickZ bus.ulo bus.uhi ws (2 * j + 1))) appT_ints g7' (Le.refl _) (.inl ⟨agg3, rfl, rfl⟩) (by omega) (by omega)
  have k2 : Only (AtP p7) y1 y2 := (New.row _ _ _).only.trans' e3 (fun b _ h => .inl h)
  have ly2 := k2.next
  have n2 : New σ.re y2 := (n1.row').of_only e3 (fun b hb => by have := b7 b hb; rw [hn0] at this; omega)
  have o1'' := k2.own' o1' (fun hb => by have := b7 _ hb; omega)
  have o2'' := k2.own' o2' (fun hb => by have := b7 _ hb; omega)
  have o3'' := k2.own' o3' (fun hb => by have := b7 _ hb; omega)
  have g6' := i2.only k2 (fun b hb h => by
   rcases i4 b hb with h' | h'
   ·exact hd b h' h
   ·have := b7 b h; omega)
  obtain ⟨y3, hy3⟩ : ∃ y3, y3 = y2.own (n0 + 2) [.slice p' (j + 1) c', .slice p7 j c7] 2 := ⟨_, rfl⟩
  obtain ⟨y4, hy4⟩ : ∃ y4, y4 = y3.own (n0 + 2) [.slice p' (j + 1) c', .slice p'' (j + 1) c''] 2 := ⟨_, rfl⟩
  have o33 : Own y3 (n0 + 2) [.slice p' (j + 1) c', .slice p7 j c7] 2 := by rw [hy3]; exact o3''.put
  have k3 : Only (· = n0 + 2) y2 y4 := by
   rw [hy4, hy3]; exact (Only.own (S := (· = n0 + 2)) (.inr rfl)).trans' (Only.own (S := (· = n0 + 2)) (.inr rfl)) (fun b _ h => .inl h)
  have nx3 : y3.next = y2.next := by rw [hy3]; rfl
  have q6 : ∀ a, p' = some a → a.block < y2.next := fun a e => by
   have := (g6'.bd ⟨a, e, rfl⟩).2; omega
  have q7 : ∀ a, p'' = some a → a.block < y3.next := fun a e => by have := (e2.bd ⟨a, e, rfl⟩).2; omega
  have q7' : ∀ a, p7 = some a → a.block < (y1.row [intV (pickZ bus.ulo bus.uhi ws (2 * j + 1))] 1).next := fun a e => by have := b7 _ ⟨a, e, rfl⟩; simp; omega
  have lw1 : ∀ a, pw = some a → a.block < y1.next := fun a e => by have := lw' a e; omega
  have ly3 : n0 + 2 < y2.next := o3''.lt
  have ly4 : n0 + 2 < y3.next := by omega
  refine picked_s1a LD LD (ld1 hle) cp1 i1 LD LD (ld2 hl1) cp2 e1 (ST o3'' (hτ := hy3)) (ST o33 (hτ := hy4)) BL BL BL (belowL_cons (belowB_rig rfl) (belowL_cons (belowB_sl lw1) (belowL_cons (belowB_rig rfl) belowL_nil)))
   (belowL_cons (belowB_sl q7') (belowL_cons (belowB_sl1 (by simp)) belowL_nil)) (belowL_cons (belowB_ptr ly3) (belowL_cons (belowB_sl q6) belowL_nil)) (belowL_cons (belowB_ptr ly4) (belowL_cons (belowB_sl q7) belowL_nil))
   LD LD LD GB GB LD LD GB (ld2 hle) (ld2 (hle.trans (Le.row _ _ _))) ⟨⟨by simp; omega, rfl⟩, ld2 hl1⟩ (fun a e => by have := lw' a e; omega) (fun a e => (b6 _ ⟨a, e, rfl⟩).2)
   ⟨k - 1, by omega, j + 1, by omega, by omega, ?_, k3.own' o1'' (by omega), k3.own' o2'' (by omega), p', c', p'', c'', ?_, ?_, ?_, ?_⟩ (b_BC := lt3) (b_BA := o1.lt) (b_qA_a_block := by omega) (b_qM_a_block := by omega)
  ·exact n2.of_only k3 (by rintro b rfl; rw [hn0]; omega)
  ·rw [hy4]; exact o33.put
  ·have : hsP g ws (j + 1) = hsP g ws j ++ [pickZ bus.hlo bus.hhi ws (2 * j)] := by simp [hsP, List.range_succ, hbus]
   rw [this, List.map_append]
   refine g6'.only k3 (fun b hb h => ?_)
   have := (g6'.bd hb).1; omega
  ·have : usP g ws (j + 1) = usP g ws j ++ [pickZ bus.ulo bus.uhi ws (2 * j + 1)] := by simp [usP, List.range_succ, hbus]
   rw [this, List.map_append]
   exact e2.only k3 (fun b hb h => by have := (e2.bd hb).1; omega)
  ·intro b hb h
   have hlt := (i2.bd hb).2
   rcases e4 b h with h' | h'
   ·rcases i4 b hb with h'' | h''
    ·exact hd b h'' h'
    ·have := b7 b h'; omega
   ·omega
 ·rintro τ ⟨h1, o2, p6, c6, p7, c7, o3, g6, g7⟩
  rw [← hn0]
  obtain ⟨y, hy⟩ : ∃ y, y = τ.own (n0 + 1) [.slice p6 g.nb c6, .slice p7 g.nb c7] 2 := ⟨_, rfl⟩
  have k : Only (· = n0 + 1) τ y := by rw [hy]; exact Only.own (.inr rfl)
  have oy : Own y (n0 + 1) [.slice p6 g.nb c6, .slice p7 g.nb c7] 2 := by rw [hy]; exact o2.put
  exact picked_t1x0a LD (STN o2 (hτ := hy)) LD ⟨h1.of_only k (by rintro b rfl; rw [hn0]; omega), p6, c6, p7, c7, rfl, (g6.only k (fun b hb e => by have := (g6.bd hb).1; omega)).slv, (g7.only k (fun b hb e => by have := (g7.bd hb).1; omega)).slv⟩
end
end Go.Proofs.Ythcdddbghldmiaa
