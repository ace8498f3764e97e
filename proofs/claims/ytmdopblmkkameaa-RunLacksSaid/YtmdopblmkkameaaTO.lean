
import Derived.Test.YtmdopblmkkameaaTN
import Derived.Test.YtmdopblmkkameaaRU
namespace Go.Proofs.Ytmdopblmkkameaa
open Go Go.Lay
set_option linter.unusedVariables false
set_option linter.unusedSimpArgs false
set_option maxRecDepth 20000
def uK (a b : List Nat) : Bool := if a.length = b.length then lexB a b else decide (a.length < b.length)
theorem lexB_cons {a b : Nat} {x y : List Nat} : lexB (a :: x) (b :: y) = if a = b then lexB x y else decide (a < b) := rfl
theorem lexB_trans : ∀ {a b c : List Nat}, lexB a b = true → lexB b c = true → lexB a c = true
 | [], _, _, h, _ => by cases h
 | _ :: _, [], _, h, _ => by cases h
 | _ :: _, _ :: _, [], _, h => by cases h
 | a :: x, b :: y, c :: z, h, k => by
  unfold lexB at h k ⊢
  by_cases h1 : a = b
  ·subst h1
   rw [if_pos rfl] at h
   by_cases h2 : a = c
   ·subst h2
    rw [if_pos rfl] at k ⊢
    exact lexB_trans h k
   ·rw [if_neg h2] at k ⊢; exact k
  ·rw [if_neg h1] at h
   have h := of_decide_eq_true h
   by_cases h2 : b = c
   ·subst h2; rw [if_neg h1]; exact decide_eq_true h
   ·rw [if_neg h2] at k
    have k := of_decide_eq_true k
    rw [if_neg (by omega)]; exact decide_eq_true (by omega)
theorem lexB_eq : ∀ {a b : List Nat}, a.length = b.length → lexB a b = false → lexB b a = false → a = b
 | [], [], _, _, _ => rfl
 | [], _ :: _, h, _, _ => by simp at h
 | _ :: _, [], h, _, _ => by simp at h
 | a :: x, b :: y, hl, h, k => by
  unfold lexB at h k
  by_cases h1 : a = b
  ·subst h1
   rw [if_pos rfl] at h k
   rw [lexB_eq (by simpa using hl) h k]
  ·rw [if_neg h1] at h
   rw [if_neg (fun e => h1 e.symm)] at k
   have := of_decide_eq_false h; have := of_decide_eq_false k
   omega
theorem lessB_trans {a b c : List Nat} (h : uK a b = true) (k : uK b c = true) : uK a c = true := by
 unfold uK at h k ⊢
 by_cases h1 : a.length = b.length
 ·rw [if_pos h1] at h
  by_cases h2 : b.length = c.length
  ·rw [if_pos h2] at k; rw [if_pos (by omega)]; exact lexB_trans h k
  ·rw [if_neg h2] at k
   have := of_decide_eq_true k
   rw [if_neg (by omega)]; exact decide_eq_true (by omega)
 ·rw [if_neg h1] at h
  have := of_decide_eq_true h
  by_cases h2 : b.length = c.length
  ·rw [if_neg (by omega)]; exact decide_eq_true (by omega)
  ·rw [if_neg h2] at k
   have := of_decide_eq_true k
   rw [if_neg (by omega)]; exact decide_eq_true (by omega)
theorem lessB_eq {a b : List Nat} (h : uK a b = false) (k : uK b a = false) : a = b := by
 unfold uK at h k
 by_cases h1 : a.length = b.length
 ·rw [if_pos h1] at h
  rw [if_pos h1.symm] at k
  exact lexB_eq h1 h k
 ·rw [if_neg h1] at h
  rw [if_neg (fun e => h1 e.symm)] at k
  have := of_decide_eq_false h; have := of_decide_eq_false k
  omega
def uL (n s : Nat) : List Nat := (List.range n).filter fun i => decide (s / 2 ^ i % 2 = 1)
theorem riN_filter {n : Nat} {P : Nat → Bool} : ∀ (k m : Nat), m + k = n → riN n m ((List.range' m k).filter P)
 | 0, _, _ => trivial
 | k + 1, m, h => by
  rw [List.range'_succ, List.filter_cons]
  have ih := riN_filter (n := n) (P := P) k (m + 1) (by omega)
  cases P m with
  | true => exact ⟨Nat.le_refl _, by omega, ih⟩
  | false => exact riN_mono ih (by omega)
theorem riN_bits {n s : Nat} : riN n 0 (uL n s) := by unfold uL; rw [List.range_eq_range']; exact riN_filter n 0 (by omega)
theorem riN_ge {n : Nat} : ∀ {y : List Nat} {m : Nat}, riN n m y → ∀ x ∈ y, m ≤ x ∧ x < n
 | [], _, _, _, h => by cases h
 | a :: y, m, hr, x, h => by
  rcases List.mem_cons.1 h with rfl | h
  ·exact ⟨hr.1, hr.2.1⟩
  ·have := riN_ge hr.2.2 x h; have := hr.1; omega
theorem riN_self {n : Nat} : ∀ (k m : Nat) (y : List Nat), m + k = n → riN n m y → (List.range' m k).filter (fun i => decide (i ∈ y)) = y
 | 0, m, y, h, hr => by
  cases y with
  | nil => rfl
  | cons a y => have := hr.1; have := hr.2.1; omega
 | k + 1, m, y, h, hr => by
  rw [List.range'_succ, List.filter_cons]
  cases y with
  | nil => simp
  | cons a x =>
   by_cases e : a = m
   ·subst e
    simp only [List.mem_cons, true_or, decide_true, if_true]
    have ih := riN_self k (a + 1) x (by omega) hr.2.2
    have : (List.range' (a + 1) k).filter (fun i => decide (i = a ∨ i ∈ x)) = (List.range' (a + 1) k).filter (fun i => decide (i ∈ x)) := List.filter_congr fun i hi => by
     have : a + 1 ≤ i := by simp at hi; omega
     have hne : i ≠ a := by omega
     simp [hne]
    rw [this, ih]
   ·have hm : ¬ m ∈ a :: x := fun hm => by
     rcases List.mem_cons.1 hm with rfl | hm
     ·exact e rfl
     ·have := (riN_ge hr.2.2 m hm).1; have := hr.1; omega
    rw [if_neg (by simpa using hm)]
    exact riN_self k (m + 1) (a :: x) (by omega) ⟨by have := hr.1; omega, hr.2.1, hr.2.2⟩
def svN : List Nat → Nat
 | [] => 0
 | a :: x => svN x ||| 2 ^ a
theorem svN_bit : ∀ (y : List Nat) (i : Nat), (svN y).testBit i = decide (i ∈ y)
 | [], i => by simp [svN]
 | a :: x, i => by
  unfold svN
  rw [Nat.testBit_or, svN_bit x i, Nat.testBit_two_pow]
  by_cases e : a = i
  ·subst e; simp
  ·have : i ≠ a := fun h => e h.symm
   simp [e, this]
theorem bits_all {n : Nat} {y : List Nat} (h : riN n 0 y) : ∃ s, s < 2 ^ n ∧ uL n s = y := by
 refine ⟨svN y, Nat.lt_pow_two_of_testBit _ fun i hi => ?_, ?_⟩
 ·rw [svN_bit]
  exact decide_eq_false fun hm => by have := (riN_ge h i hm).2; omega
 ·unfold uL
  have : (fun i => decide (svN y / 2 ^ i % 2 = 1)) = fun i => decide (i ∈ y) := by
   funext i
   rw [← svN_bit y i, Nat.testBit_eq_decide_div_mod_eq]
  rw [this, List.range_eq_range']
  exact riN_self n 0 y (by omega) h
theorem least_eq {t : Tab} {f : List Int} {x b : List Nat} (hx : LeastL t f x) (h1 : riN t.nt 0 b) (h2 : enS t f (mns (fun _ => true) b) = true) (h3 : ∀ s, s < 2 ^ t.nt → enS t f (mns (fun _ => true) (uL t.nt s)) = true → uK (uL t.nt s) b = false) : x = b := by
 have k1 : ∀ y, riN t.nt 0 y → enS t f (mns (fun _ => true) y) = true → uK y b = false := fun y hy he => by
  obtain ⟨s, hs, rfl⟩ := bits_all hy
  exact h3 s hs he
 refine lessB_eq (k1 x hx.ri hx.en) ?_
 obtain ⟨g1, g2⟩ := hx.le b h1 h2
 unfold uK
 by_cases e : b.length = x.length
 ·rw [if_pos e]; exact g2 e
 ·rw [if_neg e]; exact decide_eq_false (by omega)
theorem dropO {α : Type} {l : List α} {i : Nat} {x : α} (h : l[i]? = some x) : l.drop i = x :: l.drop (i + 1) := by
 obtain ⟨hi, e⟩ := List.getElem?_eq_some_iff.1 h
 rw [List.drop_eq_getElem_cons hi, e]
section
variable {σ : St} {t : Tab} {pe pt : Option Addr} {le ce lt ct : Nat}
theorem rLess_c {pa pb : Option Addr} {la ca lb cb : Nat} {a b : List Nat} (ha : yV σ pa la (xV a)) (hb : yV σ pb lb (xV b)) (hla : la ≤ 100000) : zH Try.prog 62 [.slice pa la ca, .slice pb lb cb] σ (.bool (uK a b)) σ := by
 have hal := ha.len; have hbl := hb.len
 rw [natI_len] at hal hbl
 suffices hmain : zQ Try.prog 62 [.slice pa la ca, .slice pb lb cb] σ.re fun v s => v = .bool (uK a b) ∧ σ.next ≤ s.low from zQ.pure hmain
 have a0 : yV σ.re pa la (xV a) := SlV.le ha (le0 σ)
 have b0 : yV σ.re pb lb (xV b) := SlV.le hb (le0 σ)
 have hL : rLess_L1 pa la ca pb lb cb 0 σ.re (fun r τ => τ = σ.re ∧ r = uK a b) (fun τ => τ = σ.re ∧ uK a b = decide (la < lb)) := by
  refine rLess_loop1 (Inv := fun k i τ => ∃ s : Nat, i = s ∧ s + k = la ∧ τ = σ.re ∧ (a.length = b.length → lexB a b = lexB (a.drop s) (b.drop s))) ?_ la 0 σ.re ⟨0, rfl, by omega, rfl, fun _ => rfl⟩
  rintro k i τ ⟨s, rfl, hk, rfl, he⟩
  by_cases hs : s < la
  rotate_left
  ·refine rLess_s1e ⟨rfl, ?_⟩ (by omega)
   unfold uK
   by_cases e : a.length = b.length
   ·rw [if_pos e, he e, List.drop_of_length_le (by omega)]
    rw [decide_eq_false (by omega)]; rfl
   ·rw [if_neg e, hal, hbl]
  by_cases e : la = lb
  rotate_left
  ·refine rLess_s1d ⟨rfl, ?_⟩ (by omega) (by omega)
   unfold uK
   rw [if_neg (by omega), hal, hbl]
  obtain ⟨qa, rfl, x, hx, lx⟩ := wC a0 hs
  obtain ⟨qb, rfl, y, hy, ly⟩ := wC b0 (i := s) (by omega)
  obtain ⟨x', hx', rfl⟩ := natI_get hx
  obtain ⟨y', hy', rfl⟩ := natI_get hy
  have he' := he (by omega)
  rw [dropO hx', dropO hy'] at he'
  rw [lexB_cons] at he'
  have hls : uK a b = lexB a b := by unfold uK; rw [if_pos (by omega)]
  by_cases e1 : x' = y'
  ·subst e1
   rw [if_pos rfl] at he'
   refine rLess_s1c lx ly ⟨k - 1, by omega, s + 1, by omega, by omega, rfl, fun _ => he'⟩ (by omega) (by omega) (by omega) (by omega) (by omega)
  ·rw [if_neg e1] at he'
   by_cases e2 : x' < y'
   ·exact rLess_s1a lx ly ⟨rfl, by rw [hls, he', decide_eq_true e2]⟩ (by omega) (by omega) (by omega) (by omega) (by omega) (by omega)
   ·exact rLess_s1b lx ly ⟨rfl, by rw [hls, he', decide_eq_false e2]⟩ (by omega) (by omega) (by omega) (by omega) (by omega) (by omega)
 refine rLess_ra hL (fun r τ ⟨g1, g2⟩ => rLess_t1xra ⟨by rw [g2], by rw [g1]; exact Nat.le_refl _⟩) (fun τ ⟨g1, g2⟩ => ?_)
 by_cases e : la < lb
 ·exact rLess_t1x0a ⟨by rw [g2, decide_eq_true e], by rw [g1]; exact Nat.le_refl _⟩ (by omega)
 ·exact rLess_t1x0b ⟨by rw [g2, decide_eq_false e], by rw [g1]; exact Nat.le_refl _⟩ (by omega)
theorem aB_mns {x : List Nat} {i : Nat} : aB t (-1) (xV x) i = mns (fun _ => true) x i := by
  rw [aB_all]
  unfold mns
  rw [Bool.true_and]
  by_cases h : i ∈ x
  · rw [decide_eq_false (by simpa using h)]
    rw [Bool.eq_false_iff]
    intro hh
    have := List.all_eq_true.1 hh (i : Int) (List.mem_map.2 ⟨i, h, rfl⟩)
    simp at this
  · rw [decide_eq_true h]
    refine List.all_eq_true.2 fun w hw => ?_
    obtain ⟨y, hy, rfl⟩ := List.mem_map.1 hw
    exact decide_eq_true fun e => h (by have : y = i := by omega
                                        rw [← this]; exact hy)
theorem need_all {k : Int} (hk : 0 ≤ k) {ws : List Int} : vL (xR t) (allL t k ws t.nt) (allL t k ws t.nt) (fun _ => false) = yL t (aB t (-1) ws) k := by
 unfold yL
 have : allL t k ws t.nt = (List.range t.nt).filter (kS t (aB t (-1) ws) k) := by
  unfold allL
  refine List.filter_congr fun i hi => ?_
  have hi : i < t.nt := by simpa using hi
  unfold kS
  rw [aB_all]
  unfold aB
  rw [kindB_eq hk hi, Bool.and_comm]
 rw [this]
theorem rEnough_c {pf pw : Option Addr} {cf lw cw : Nat} {f : List Int} {x : List Nat} (hR : RefP σ pe le pt lt t) (hv : Valid t) (hlt : lt ≤ 100) (hI : yV σ pf 3 f) (hf : ∀ x ∈ f, -100000 ≤ x ∧ x ≤ 100000) (hw : yV σ pw lw (xV x)) (hlw : lw ≤ 100) : zH Try.prog 63 [.agg ⟨yI t pe le ce pt lt ct⟩, .slice pf 3 cf, .slice pw lw cw] σ (.bool (enS t f (mns (fun _ => true) x))) σ := by
 have hnt : t.nt = lt := hR.len
 have hfl := hI.len
 suffices hmain : zQ Try.prog 63 [.agg ⟨yI t pe le ce pt lt ct⟩, .slice pf 3 cf, .slice pw lw cw] σ.re fun v s => v = .bool (enS t f (mns (fun _ => true) x)) ∧ σ.next ≤ s.low from zQ.pure hmain
 obtain ⟨σ1, hσ1⟩ : ∃ σ1, σ1 = σ.re.row (yI t pe le ce pt lt ct) 4 := ⟨_, rfl⟩
 have n1 : New σ.re σ1 := by rw [hσ1]; exact New.row _ _ _
 have ot : Own σ1 σ.next (yI t pe le ce pt lt ct) 4 := by rw [hσ1]; exact zF _ _ _
 have R1 := (hR.le' (le0 σ)).le' n1.le
 have I1 : yV σ1 pf 3 f := SlV.le (SlV.le hI (le0 σ)) n1.le
 have w1 : yV σ1 pw lw (xV x) := SlV.le (SlV.le hw (le0 σ)) n1.le
 let okN : Nat → Bool := fun s => (List.range s).all fun k => decide ((yL t (mns (fun _ => true) x) (k : Int) : Int) ≤ f.getD k 0)
 have hen : okN 3 = enS t f (mns (fun _ => true) x) := by
  show (List.all [0, 1, 2] fun (k : Nat) => decide ((yL t (mns (fun _ => true) x) (k : Int) : Int) ≤ f.getD k 0)) = _
  unfold enS; simp [Bool.and_assoc]
 have hok1 : ∀ s, okN (s + 1) = (okN s && decide ((yL t (mns (fun _ => true) x) (s : Int) : Int) ≤ f.getD s 0)) := fun s => by
  show (List.range (s + 1)).all _ = _
  rw [List.range_succ, List.all_append]; simp [okN]
 have hno : ∀ s, s < 3 → okN s = true → (yL t (mns (fun _ => true) x) (s : Int) : Int) > f.getD s 0 → enS t f (mns (fun _ => true) x) = false := fun s hs h1 h2 => by
  rw [← hen]
  have : okN (s + 1) = false := by rw [hok1, decide_eq_false (by omega), Bool.and_false]
  rw [Bool.eq_false_iff]
  intro h3
  have h4 := List.all_eq_true.1 h3 s (by simpa using hs)
  have := of_decide_eq_true h4
  omega
 have hL : rEnough_L1 pf 3 cf pw lw cw σ.next 0 σ1 (fun b τ => New σ.re τ ∧ b = enS t f (mns (fun _ => true) x)) (fun τ => New σ.re τ ∧ enS t f (mns (fun _ => true) x) = true) := by
  refine rEnough_loop1 (Inv := fun k i τ => ∃ s : Nat, i = s ∧ s + k = 3 ∧ New σ1 τ ∧ okN s = true) ?_ 3 0 σ1 ⟨0, rfl, rfl, New.refl _, rfl⟩
  rintro k i τ ⟨s, rfl, hk, hN, hok⟩
  by_cases hs : s < 3
  rotate_left
  ·have : s = 3 := by omega
   subst this
   exact rEnough_s1c ⟨n1.trans hN, by rw [← hen]; exact hok⟩ (by omega)
  have Rτ := R1.le' hN.le
  obtain ⟨af, rfl, y, hy, ldy⟩ := wC (SlV.le I1 hN.le) hs
  have hyb := hf y (List.mem_of_getElem? hy)
  have hgd : f.getD s 0 = y := by rw [List.getD_eq_getElem?_getD, hy]; rfl
  obtain ⟨p29, l29, c29, σ3, k14, n34, I34, _⟩ := rAll_c (ce := ce) (ct := ct) (kind := (s : Int)) (cw := cw) Rτ (SlV.le w1 hN.le) (by omega) (by omega)
  have hl29 : l29 ≤ lt := by have h1 := I34.len; rw [natI_len] at h1; have := allL_len (t := t) (kind := (s : Int)) (ws := xV x) (n := lt); omega
  have R3 := Rτ.le' n34.le
  have k15 := rBuses_c (ce := ce) (ct := ct) (cl := c29) R3 hv I34 (fun i hi => (allL_lt hi).1) (by omega) (by omega)
  have e1 : vL (xR t) (allL t (s : Int) (xV x) lt) (allL t (s : Int) (xV x) lt) (fun _ => false) = yL t (mns (fun _ => true) x) (s : Int) := by
   have := need_all (t := t) (k := (s : Int)) (by omega) (ws := xV x)
   rw [hnt] at this
   rw [this]
   exact needN_congr fun i _ => aB_mns
  rw [e1] at k15
  have lt25 : ∀ u, Le τ u → zD Try.prog u 25 ⟨σ.next, 0, none⟩ = some (.agg ⟨yI t pe le ce pt lt ct⟩) := fun u hu => ((ot.le hN.le).le hu).ldN agg25 wD (k := 0) rfl rfl (by simp)
  have ldf : ∀ u, Le τ u → zD Try.prog u 3 (zJ af (Int.toNat (s : Int) * 1)) = some (iV y) := fun u hu => (SlV.le (SlV.le I1 hN.le) hu).at rfl (by rw [List.getElem?_map, hy]; rfl)
  have q1 : af.block < τ.next := vJ (SlV.le I1 hN.le) _ rfl
  have q2 : σ.next < τ.next := (ot.le hN.le).lt
  have n3 := n34.le.next
  have b5 : zM τ.next [.agg ⟨yI t pe le ce pt lt ct⟩, iV (s : Int), .slice pw lw cw] := zG (belowB_tab (fun a e => Rτ.em.ltb a e) (fun a e => vJ Rτ.tr a e)) (zG rfl (zG (vV fun a e => vJ (SlV.le w1 hN.le) a e) zI))
  have b6 : zM σ3.next [.agg ⟨yI t pe le ce pt lt ct⟩, .slice p29 l29 c29] := zG (belowB_tab (fun a e => R3.em.ltb a e) (fun a e => vJ R3.tr a e)) (zG (vV fun a e => vJ I34 a e) zI)
  have b7 : zM σ3.next [.pointer (some (zJ af (Int.toNat (s : Int) * 1)))] := zG (zK (by show af.block < σ3.next; omega)) zI
  by_cases hgt : y < (yL t (mns (fun _ => true) x) (s : Int) : Int)
  ·refine rEnough_s1a (lt25 τ (Le.refl _)) k14 k15 (ldf σ3 n34.le) b5 b6 b7 ⟨⟨by show σ.next < σ3.next; omega, rfl⟩, lt25 σ3 n34.le⟩ (ldf τ (Le.refl _)) ⟨⟨by show af.block < σ3.next; omega, rfl⟩, ldf σ3 n34.le⟩ ⟨(n1.trans hN).trans n34, ?_⟩ (by omega) (by omega) hgt (by omega) (by omega)
   exact (hno s hs hok (by rw [hgd]; omega)).symm
  ·refine rEnough_s1b (lt25 τ (Le.refl _)) k14 k15 (ldf σ3 n34.le) b5 b6 b7 ⟨⟨by show σ.next < σ3.next; omega, rfl⟩, lt25 σ3 n34.le⟩ (ldf τ (Le.refl _)) ⟨⟨by show af.block < σ3.next; omega, rfl⟩, ldf σ3 n34.le⟩ ⟨k - 1, by omega, s + 1, by omega, by omega, hN.trans n34, ?_⟩ (by omega) (by omega) hgt (by omega) (by omega) (by omega)
   rw [hok1, hok, hgd, decide_eq_true (by omega)]; rfl
 subst hσ1
 exact rEnough_ra hL (fun b τ ⟨g1, g2⟩ => rEnough_t1xra ⟨by rw [g2], g1.lw⟩) (fun τ ⟨g1, g2⟩ => rEnough_t1x0a ⟨by rw [g2], g1.lw⟩)
end
end Go.Proofs.Ytmdopblmkkameaa
